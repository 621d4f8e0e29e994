/- The law ClaimFewest: for any file and bits the statement's function returns true. -/
import Derived.Test.YtllmahcanipcpaaGreatLB
import Derived.Test.YtllmahcanipcpaaGreatLO
import Derived.Test.YtllmahcanipcpaaGreatSV
import Derived.OwnWalkIn
import Derived.TacticsInMore
import Derived.Deep.DeepCutAuto
set_option linter.unusedVariables false
set_option linter.unusedSimpArgs false
namespace Go.Proofs.YtllmahcanipcpaaGreat
open Go.RowKit
attribute [local go_sem ↓] Go.wp_at_zero Go.wp_at_succ
attribute [local go_sem] Oper.semAt_some

/-- The list of the papers that bits name. -/
def bitsL (b : Int) (n : Nat) : List Int := ((List.range n).filter fun i => bitB i b).map fun i : Nat => (i : Int)
def biFact : Bool := (List.range 6).all fun n => (List.range 256).all fun b => bitsL b n == natInts (listN (b % 2 ^ n) n)
theorem biFact_true : biFact = true := by kernel_rfl
theorem bitsL_list {n : Nat} {b : Int} (hn : n ≤ 5) (h0 : 0 ≤ b) (hb : b ≤ 255) : ∃ s, s < 2 ^ n ∧ bitsL b n = natInts (listN s n) := by
  have h := biFact_true
  rw [biFact, List.all_eq_true] at h
  have h1 := h n (List.mem_range.2 (by omega))
  rw [List.all_eq_true] at h1
  have h2 := h1 b.toNat (List.mem_range.2 (by omega))
  rw [beq_iff_eq, show ((b.toNat : Nat) : Int) = b by omega] at h2
  exact ⟨b.toNat % 2 ^ n, Nat.mod_lt _ (Nat.pow_pos (by omega)), h2⟩
theorem wrong_laws {f : File} (hc : (checkM f).2.2 = 0) {b : Int} (h0 : 0 ≤ b) (hb : b ≤ 255) :
    (wrongV f).2 = 0 ∧ risingB (natInts (wrongV f).1) (-1) f.papers.length = true ∧ decide (((truthsM f (natInts (wrongV f).1)).length : Int) > 0) = true ∧
    (decide (((truthsM f (bitsL b f.papers.length)).length : Int) = 0) = false → fewerB (bitsL b f.papers.length) (natInts (wrongV f).1) = false) := by
  have hv := valid_of hc
  have hn := hv.papers
  obtain ⟨s, hs, e, he, hl⟩ := wrong_least hv
  have hw : natInts (wrongV f).1 = wrongL f ∧ (wrongV f).2 = 0 := by
    have := wrong_eq f
    rw [wrongR, if_pos hc] at this
    exact this
  rw [hw.1]
  refine ⟨hw.2, by rw [e]; exact (ri_both hn hs).1, ?_, fun hso => ?_⟩
  · rw [emptyB, decide_eq_false_iff_not] at he
    rw [decide_eq_true_eq]; omega
  · obtain ⟨t, ht, e2⟩ := bitsL_list hn h0 hb
    rw [e2] at hso ⊢
    have := hl t ht (by rw [emptyB, decide_eq_false_iff_not]; rw [decide_eq_false_iff_not] at hso; omega)
    rw [e, (rk_both hn ht hs).2]
    simpa using this
set_option maxHeartbeats 4000000 in
set_option maxRecDepth 100000 in
theorem fewest_bad {f : File} {fa : FA} {w : World} (h : FileV w w.heap.size f fa) (b : Int) (hc : (checkM f).2.2 ≠ 0) :
    Calls Tryz.prog 8 #[fileVal f fa, .int .u8 b] w fun e w' => e = .returned (.bool true) ∧ Below w.heap.size w w' := by
  have K := hide (BoxF.made h)
  have HB : Hid (Below w.heap.size w (w.alloc (.cells (fileCells f fa) 28))) := hide ((Below.refl _ _).alloc (Nat.le_refl _) _)
  clear h
  have HWR := hide (fun (w : World) (h : FileV w w.heap.size f fa) => (show Calls Tryz.prog 23 #[fileVal f fa] w fun e w' => ∃ A cp, e = .returned (.tuple #[.slice A 0 cp, .int .i64 (checkM f).2.2]) ∧ Below w.heap.size w w' from by
    have := wrong_any h; rw [wrongV, if_pos hc] at this; exact this.mono fun e w' ⟨A, cp, h1, _, h3⟩ => ⟨A, cp, h1, h3⟩))
  have HVF := hide (show decide ((checkM f).2.2 = 0) = false by simpa using hc)
  have hc2 : ((checkM f).2.2 == 0) = false := by simpa using hc
  generalize hE : (checkM f).2.2 = E at *
  have HE := hide hE
  have hc3 : (E != 0) = true := by simpa using hc
  clear hE
  go_enter Tryz.func8, Tryz.ntmps8
  go_upto_region 1 with (fail)
  generalize (w.alloc (.cells (fileCells f fa) 28)) = y0 at *
  obtain ⟨z, c1, c2, c3, c4, c5⟩ := K.out.cells
  go_upto_region 2 with (go_at_call 23; refine (HWR.out _ K.out.v).mono ?_; rintro e y1 ⟨R1, r1, rfl, hb⟩)
  have K := hide (K.out.next hb)
  have HB := hide (HB.out.trans (hb.mono HB.out.size))
  clear hb
  clear z c1 c2 c3 c4 c5
  obtain ⟨z, c1, c2, c3, c4, c5⟩ := K.out.cells
  go_upto_region 3 with (go_at_call 25; refine (valid7_any K.out.v (v := false) (by rw [HE.out]; exact HVF.out)).mono ?_; rintro e y2 ⟨rfl, hb⟩)
  have K := hide (K.out.next hb)
  have HB := hide (HB.out.trans (hb.mono HB.out.size))
  clear hb
  clear z c1 c2 c3 c4 c5
  go_wp2_with (go_at_call 16; refine (awake_any _).mono ?_; rintro e v10 ⟨rfl, hb⟩)
  go_ret
  exact ⟨rfl, HB.out.trans (hb.mono HB.out.size)⟩

set_option maxHeartbeats 4000000 in
set_option maxRecDepth 100000 in
theorem fewest_ok {f : File} {fa : FA} {w : World} (h : FileV w w.heap.size f fa) (b : Int) (hb0 : 0 ≤ b) (hb1 : b ≤ 255) (hc : (checkM f).2.2 = 0) :
    Calls Tryz.prog 8 #[fileVal f fa, .int .u8 b] w fun e w' => e = .returned (.bool true) ∧ Below w.heap.size w w' := by
  obtain ⟨i0, hi, hz0, hz1, hz2⟩ := info_parts Tryz.infoInt
  have K := hide (BoxF.made h)
  have HB : Hid (Below w.heap.size w (w.alloc (.cells (fileCells f fa) 28))) := hide ((Below.refl _ _).alloc (Nat.le_refl _) _)
  clear h
  obtain ⟨e1, e2, e3, e4⟩ := wrong_laws hc hb0 hb1
  have HWR := hide (fun (w : World) (h : FileV w w.heap.size f fa) => (show Calls Tryz.prog 23 #[fileVal f fa] w fun e w' => ∃ A cp, e = .returned (.tuple #[.slice A (wrongV f).1.length cp, .int .i64 0]) ∧ IntsS w' w'.heap.size A (wrongV f).1.length cp (natInts (wrongV f).1) ∧ Below w.heap.size w w' from by
    have := wrong_any h; rw [e1] at this; exact this))
  have HVF := hide (show decide ((checkM f).2.2 = 0) = true by simpa using hc)
  have HE2 := hide e2
  have HE3 := hide e3
  have HE4 := hide e4
  have hval := valid_of hc
  have HVL := hide hval
  have hsl := hval.papers
  clear e1 e2 e3 e4 hc hval
  generalize (wrongV f).1 = wl at *
  go_enter Tryz.func8, Tryz.ntmps8
  go_upto_region 1 with (fail)
  generalize (w.alloc (.cells (fileCells f fa) 28)) = y0 at *
  obtain ⟨z, c1, c2, c3, c4, c5⟩ := K.out.cells
  go_upto_region 2 with (go_at_call 23; refine (HWR.out _ K.out.v).mono ?_; rintro e y1 ⟨R1, r1, rfl, hi2, hb⟩)
  have K := hide (K.out.next hb)
  have HB := hide (HB.out.trans (hb.mono HB.out.size))
  clear hb
  clear z c1 c2 c3 c4 c5
  have I1 := hide hi2
  clear hi2
  obtain ⟨z, c1, c2, c3, c4, c5⟩ := K.out.cells
  go_upto_region 3 with (go_at_call 25; refine (valid7_any K.out.v (v := true) HVF.out).mono ?_; rintro e y2 ⟨rfl, hb⟩)
  have K := hide (K.out.next hb)
  have I1 := hide (I1.out.next hb)
  have HB := hide (HB.out.trans (hb.mono HB.out.size))
  clear hb
  clear z c1 c2 c3 c4 c5
  go_wp2_with fail
  go_loopw [7, 8] (fun v i wr => ∃ (j : Nat), j ≤ f.papers.length ∧ i = .int .i64 j ∧ Below y2.heap.size y2 wr ∧ wr.ownsRow y2.heap.size 3 1 v (bitsL b j).length ((bitsL b j).map fun n : Int => .int .i64 n)) (fun _ i _ => f.papers.length - (intOf i).toNat)
  case atStart => exact ⟨0, Nat.zero_le _, rfl, Below.refl _ _, World.ownsRow_nil _ _ _ _⟩
  case round =>
    obtain ⟨j, hj, rfl, hB, hown⟩ := hrel
    have hj0 : (0 : Int) ≤ (j : Int) := Int.natCast_nonneg _
    have K1 := hide (K.out.next hB)
    obtain ⟨z, c1, c2, c3, c4, c5⟩ := K1.out.cells
    by_cases hlt : j < f.papers.length
    · have hle : (bitsL b j).length ≤ j := by
        have := List.length_filter_le (fun i => bitB i b) (List.range j)
        simpa [bitsL] using this
      have hj1 : (j : Int) < (f.papers.length : Int) := by omega
      have hsz := hB.size
      have e : bitsL b (j + 1) = bitsL b j ++ if bitB j b then [(j : Int)] else [] := by
        simp only [bitsL, List.range_succ, List.filter_append, List.filter_cons, List.filter_nil, List.map_append]
        cases bitB j b <;> rfl
      have HE := hide e
      clear e
      have HBT := hide (fun w => bit_any b j w hb0 (by omega) (by omega))
      cases hbt : bitB j b with
      | true =>
        have e2 : bitsL b (j + 1) = bitsL b j ++ [(j : Int)] := by rw [HE.out, hbt]; rfl
        have HE := hide e2
        clear e2
        rw [hbt] at HBT
        clear hbt
        go_wp2_with (first
          | (go_at_call 38; refine (HBT.out _).mono ?_; rintro e w' ⟨rfl, rfl⟩)
          | (at_builtin
             refine wpList_append_own _ rfl _ _ 23 rfl y2.heap.size 3 i0 (.int .i64 0) 1 8 Tryz.underlying23 hi hz0 hz1 hz2 rfl (by decide) _ _ _ rfl (hown.alloc _) ⟨wr.heap.size, 0, none⟩ 1 1 [.int .i64 j] rfl rfl ?c1 ?c2 ?c3 ?c4 ?c5 ?_
             case c1 => exact cell_one_new _ _ _
             case c2 => simp [Value.oneCell']
             case c3 => simp [maxLen]; omega
             case c4 => omega
             case c5 => simp; omega
             intro v' w1 hown' hg _
             have hb1 := app_below hsz hown hg
             clear hg))
        clear hi hz0 hz1 hz2
        go_roundw
        case rel => exact ⟨j + 1, by omega, by go_num, hB.trans hb1, by rw [HE.out]; simpa using hown'⟩
        case measure => simp [intOf]; omega
      | false =>
        have e2 : bitsL b (j + 1) = bitsL b j := by rw [HE.out, hbt]; simp
        have HE := hide e2
        clear e2
        rw [hbt] at HBT
        clear hbt
        go_wp2_with (go_at_call 38; refine (HBT.out _).mono ?_; rintro e w' ⟨rfl, rfl⟩)
        go_roundw
        case rel => exact ⟨j + 1, by omega, by go_num, hB, by rw [HE.out]; exact hown⟩
        case measure => simp [intOf]; omega
    · have hjj : j = f.papers.length := by omega
      rw [hjj] at hown
      obtain ⟨A', c', rfl, hs'⟩ := IntsS.of_own (xs := bitsL b f.papers.length) hown
      have hs2 := (I1.out.next hB)
      have hs1 := hB.size
      have I1 := hide hs2
      have I2 := hide hs'
      have HB := hide (HB.out.trans (hB.mono HB.out.size))
      clear hs2 hs' hown hB hjj
      go_wp2_with (fail)
      refine (rising_any I1.out _).mono ?_
      rintro e w5 ⟨rfl, rfl⟩
      rw [HE2.out]
      go_wp2_with (fail)
      refine (truths7_any K1.out.v HVL.out I1.out).mono ?_
      rintro e w6 ⟨AT, cT, rfl, _, hb⟩
      have K2 := hide (K1.out.next hb)
      have I1 := hide (I1.out.next hb)
      have I2 := hide (I2.out.next hb)
      have HB := hide (HB.out.trans (hb.mono HB.out.size))
      clear z c1 c2 c3 c4 c5 hb
      obtain ⟨z, c1, c2, c3, c4, c5⟩ := K2.out.cells
      have hg : 0 < (truthsM f (natInts wl)).length := by have := of_decide_eq_true HE3.out; omega
      go_wp2_with (fail)
      refine (truths7_any K2.out.v HVL.out I2.out).mono ?_
      rintro e w7 ⟨AU, cU, rfl, _, hb⟩
      have I1 := hide (I1.out.next hb)
      have I2 := hide (I2.out.next hb)
      have HB := hide (HB.out.trans (hb.mono HB.out.size))
      clear z c1 c2 c3 c4 c5 hb hg
      cases hso : decide (((truthsM f (bitsL b f.papers.length)).length : Int) = 0) with
      | false =>
        have HE5 := hide (HE4.out hso)
        have hb1 : (((truthsM f (bitsL b f.papers.length)).length : Int) == 0) = false := hso
        have hb2 : ¬ (truthsM f (bitsL b f.papers.length)).length = 0 := by have := of_decide_eq_false hso; omega
        have hb3 : ((truthsM f (bitsL b f.papers.length)).length == 0) = false := by simpa using hb2
        clear hso
        go_wp2_with (fail)
        refine (fewer_any I2.out I1.out).mono ?_
        rintro e w8 ⟨rfl, hd⟩
        rw [HE5.out]
        have hb := hd.below w7.heap.size
        have HB := hide (HB.out.trans (hb.mono HB.out.size))
        clear hd hb
        go_wp2_with (go_at_call 16; refine (awake_any _).mono ?_; rintro e v10 ⟨rfl, hb⟩)
        go_ret
        exact ⟨rfl, HB.out.trans (hb.mono HB.out.size)⟩
      | true =>
        have hb1 : (truthsM f (bitsL b f.papers.length)).length = 0 := by have := of_decide_eq_true hso; omega
        rw [hb1]
        clear hso hb1
        go_wp2_with (go_at_call 16; refine (awake_any _).mono ?_; rintro e v10 ⟨rfl, hb⟩)
        go_ret
        exact ⟨rfl, HB.out.trans (hb.mono HB.out.size)⟩

theorem claimFewest_any {f : File} {fa : FA} {w : World} (h : FileV w w.heap.size f fa) (b : Int) (hb0 : 0 ≤ b) (hb1 : b ≤ 255) :
    Calls Tryz.prog 8 #[fileVal f fa, .int .u8 b] w fun e w' => e = .returned (.bool true) ∧ Below w.heap.size w w' := by
  by_cases hc : (checkM f).2.2 = 0
  · exact fewest_ok h b hb0 hb1 hc
  · exact fewest_bad h b hc
end Go.Proofs.YtllmahcanipcpaaGreat
