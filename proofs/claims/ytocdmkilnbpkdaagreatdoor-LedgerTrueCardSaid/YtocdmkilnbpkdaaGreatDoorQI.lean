/- Ranks of sets of tallies; LedgerFewest. -/
import Derived.Test.YtocdmkilnbpkdaaGreatDoorQG
import Derived.Test.YtocdmkilnbpkdaaGreatDoorZZ
import Derived.OwnWalkIn
import Derived.OwnWalk
import Derived.Laws.AppendOwn
import Derived.Laws.StructEq
import Derived.TacticsInMore
import Derived.Deep.DeepCutAuto
set_option linter.unusedVariables false
set_option linter.unusedSimpArgs false
namespace Go.Proofs.YtocdmkilnbpkdaaGreatDoor
open Go.RowKit
attribute [local go_sem] Oper.semAt_some
theorem listN_more {s n : Nat} (hs : s < 2 ^ n) : ∀ d, listN s (n + d) = listN s n
 | 0 => rfl
 | d + 1 => by rw [← Nat.add_assoc, listN_succ, listN_more hs d, Nat.testBit_lt_two_pow (Nat.lt_of_lt_of_le hs (Nat.pow_le_pow_right (by omega) (by omega)))]; simp
theorem listN_six {s n : Nat} (hn : n ≤ 6) (hs : s < 2 ^ n) : listN s n = listN s 6 := by
 have := listN_more hs (6 - n)
 rw [show n + (6 - n) = 6 by omega] at this
 exact this.symm
/-- The rank of a list of numbers below 6: by how many, then in order. -/
def rk (l : List Nat) : Nat := l.length * 64 + (63 - (l.map fun i => 2 ^ (5 - i)).sum)
def rkFact : Bool := (List.range 64).all fun s => (List.range 64).all fun t =>
 (worse (listN s 6) (listN t 6) == decide (rk (listN t 6) < rk (listN s 6))) && (fewerB (natInts (listN s 6)) (natInts (listN t 6)) == decide (rk (listN s 6) < rk (listN t 6)))
theorem rkFact_true : rkFact = true := by kernel_rfl
theorem pow_64 {n s : Nat} (hn : n ≤ 6) (hs : s < 2 ^ n) : s < 64 := Nat.lt_of_lt_of_le hs (Nat.pow_le_pow_right (show 0 < 2 by omega) hn)
theorem rk_both {n s t : Nat} (hn : n ≤ 6) (hs : s < 2 ^ n) (ht : t < 2 ^ n) :
 worse (listN s n) (listN t n) = decide (rk (listN t n) < rk (listN s n)) ∧ fewerB (natInts (listN s n)) (natInts (listN t n)) = decide (rk (listN s n) < rk (listN t n)) := by
 have h := rkFact_true
 rw [rkFact, List.all_eq_true] at h
 have h2 := h s (List.mem_range.2 (pow_64 hn hs))
 rw [List.all_eq_true] at h2
 have h3 := h2 t (List.mem_range.2 (pow_64 hn ht))
 rw [Bool.and_eq_true, beq_iff_eq, beq_iff_eq] at h3
 rw [listN_six hn hs, listN_six hn ht]
 exact h3
def riFact : Bool := (List.range 7).all fun n => (List.range (2 ^ n)).all fun s => risingB (natInts (listN s n)) (-1) n && (List.range n).all fun i => s.testBit i == hasInt (natInts (listN s n)) i
theorem riFact_true : riFact = true := by kernel_rfl
theorem ri_both {n s : Nat} (hn : n ≤ 6) (hs : s < 2 ^ n) : risingB (natInts (listN s n)) (-1) n = true ∧ ∀ i, i < n → s.testBit i = hasInt (natInts (listN s n)) i := by
 have h := riFact_true
 rw [riFact, List.all_eq_true] at h
 have h1 := h n (List.mem_range.2 (by omega))
 rw [List.all_eq_true] at h1
 have h2 := h1 s (List.mem_range.2 hs)
 rw [Bool.and_eq_true, List.all_eq_true] at h2
 exact ⟨h2.1, fun i hi => by simpa using h2.2 i (List.mem_range.2 hi)⟩
theorem fwTo_least {n : Nat} {ans : Nat → Bool} (hn : n ≤ 6) : ∀ k, k ≤ 2 ^ n → (match fwTo n ans k with
 | none => ∀ j, j < k → ans j = false
 | some b => ∃ s, s < k ∧ ans s = true ∧ b = listN s n ∧ ∀ j, j < k → ans j = true → rk b ≤ rk (listN j n))
 | 0, _ => fun j hj => absurd hj (Nat.not_lt_zero j)
 | k + 1, hk => by
  have ih := fwTo_least (ans := ans) hn k (by omega)
  rw [fwTo]
  cases ho : fwTo n ans k with
  | none =>
   rw [ho] at ih
   simp only at ih ⊢
   cases ha : ans k with
   | true =>
    rw [if_pos rfl]
    refine ⟨k, by omega, ha, rfl, fun j hj hj2 => ?_⟩
    by_cases hjk : j = k
    · rw [hjk]; exact Nat.le_refl _
    · have := ih j (by omega); rw [this] at hj2; cases hj2
   | false =>
    rw [if_neg (by simp)]
    intro j hj
    by_cases hjk : j = k
    · rw [hjk]; exact ha
    · exact ih j (by omega)
  | some b =>
   rw [ho] at ih
   simp only at ih ⊢
   obtain ⟨s, hs, ha, rfl, hl⟩ := ih
   have hw := (rk_both hn (show k < 2 ^ n by omega) (show s < 2 ^ n by omega)).1
   rw [hw]
   by_cases hr : rk (listN s n) < rk (listN k n)
   · rw [if_pos (by simpa using hr)]
     refine ⟨s, by omega, ha, rfl, fun j hj hj2 => ?_⟩
     by_cases hjk : j = k
     · rw [hjk]; exact Nat.le_of_lt hr
     · exact hl j (by omega) hj2
   · rw [if_neg (by simpa using hr)]
     cases hk2 : ans k with
     | true =>
      rw [if_pos rfl]
      refine ⟨k, by omega, hk2, rfl, fun j hj hj2 => ?_⟩
      by_cases hjk : j = k
      · rw [hjk]; exact Nat.le_refl _
      · have := hl j (by omega) hj2; omega
     | false =>
      rw [if_neg (by simp)]
      refine ⟨s, by omega, ha, rfl, fun j hj hj2 => ?_⟩
      by_cases hjk : j = k
      · rw [hjk, hk2] at hj2; cases hj2
      · exact hl j (by omega) hj2
def bitsL (b : Int) (n : Nat) : List Int := ((List.range n).filter fun i => bitB i b).map fun i : Nat => (i : Int)
def biFact : Bool := (List.range 7).all fun n => (List.range 256).all fun b => bitsL b n == natInts (listN (b % 2 ^ n) n)
theorem biFact_true : biFact = true := by kernel_rfl
theorem bitsL_list {n : Nat} {b : Int} (hn : n ≤ 6) (h0 : 0 ≤ b) (hb : b ≤ 255) : ∃ s, s < 2 ^ n ∧ bitsL b n = natInts (listN s n) := by
 have h := biFact_true
 rw [biFact, List.all_eq_true] at h
 have h1 := h n (List.mem_range.2 (by omega))
 rw [List.all_eq_true] at h1
 have h2 := h1 b.toNat (List.mem_range.2 (by omega))
 rw [beq_iff_eq, show ((b.toNat : Nat) : Int) = b by omega] at h2
 exact ⟨b.toNat % 2 ^ n, Nat.mod_lt _ (Nat.pow_pos (by omega)), h2⟩

theorem hasInt_nat {l : List Nat} {i : Nat} : hasInt (natInts l) (i : Int) = l.contains i := by
 rw [Bool.eq_iff_iff, hasInt, natInts, List.any_eq_true, List.contains_iff_mem]
 constructor
 · rintro ⟨x, hx, e⟩
   obtain ⟨y, hy, rfl⟩ := List.mem_map.1 hx
   rw [beq_iff_eq] at e
   have : y = i := by omega
   rwa [← this]
 · intro h
   exact ⟨_, List.mem_map.2 ⟨i, h, rfl⟩, by simp⟩
theorem some_ext {b : Book} {p q : Nat → Bool} (h : ∀ i, i < b.tallies.length → p i = q i) : someB b p = someB b q := by
 have e : cB b p = cB b q := tall_ext rfl _ fun k hk => ⟨rfl, h k hk⟩
 rw [someB, someB, e]
theorem some_set {b : Book} (h6 : b.tallies.length ≤ 6) {s : Nat} (hs : s < 2 ^ b.tallies.length) : someB b (hasInt (natInts (listN s b.tallies.length)) ·) = someB b (fun i => s.testBit i) :=
 some_ext fun i hi => ((ri_both h6 hs).2 i hi).symm
/-- Without any tally there is a truth. -/
theorem some_all {b : Book} (hg : Good b) {p : Nat → Bool} (hp : ∀ i, i < b.tallies.length → p i = true) : someB b p = true := by
 have hc : ∀ j, j ≤ b.tallies.length → tallC b p j = tallC b p 0 := fun j => by
  induction j with
  | zero => intro _; rfl
  | succ j ih =>
   intro hj
   have e : tallC b p (j + 1) = tallC b p j := by rw [tallC]; exact if_pos (hp j (by omega))
   rw [e, ih (by omega)]
 have z : ∀ l : List Nat, sumL (fun _ => 0) l = 0 := fun l => by
  induction l with
  | nil => rfl
  | cons x l ih => simp [sumL, ih]
 refine truth_ne hg.way (cB_99 b p) (x := fun _ => 0) ⟨fun i hi => ?_, fun i hi _ => ?_⟩
 · have hi' : i < b.steps.length := hi
   rw [cB, hc _ (Nat.le_refl _)]
   show (tallC b p 0 i).lo ≤ 0 ∧ 0 ≤ (tallC b p 0 i).hi
   have e : tallC b p 0 i = ⟨0, 99⟩ := if_pos hi'
   rw [e]; simp
 · rw [z]; have := hg.way.loss i hi; dsimp only; omega
theorem wrong_of {b : Book} (hc : (checkM b).2.2 = 0) : ∃ s, s < 2 ^ b.tallies.length ∧ wrongV b = (listN s b.tallies.length, 0) ∧ someB b (fun i => s.testBit i) = true ∧ ∀ j, j < 2 ^ b.tallies.length → someB b (fun i => j.testBit i) = true → rk (listN s b.tallies.length) ≤ rk (listN j b.tallies.length) := by
 have hv := valid_of hc
 have hn := hv.tallies
 have hl := fwTo_least (ans := fun k => someB b (fun i => k.testBit i)) hn (2 ^ b.tallies.length) (Nat.le_refl _)
 have hw : wrongV b = ((fwTo b.tallies.length (fun k => someB b (fun i => k.testBit i)) (2 ^ b.tallies.length)).getD [], 0) := by rw [wrongV, if_neg (by rw [hc]; simp)]
 cases ho : fwTo b.tallies.length (fun k => someB b (fun i => k.testBit i)) (2 ^ b.tallies.length) with
 | none =>
  rw [ho] at hl
  have hp : 0 < 2 ^ b.tallies.length := Nat.pow_pos (by omega)
  have h1 := hl (2 ^ b.tallies.length - 1) (by omega)
  have h2 : someB b (fun i => (2 ^ b.tallies.length - 1).testBit i) = true := some_all hv.good fun i hi => by rw [Nat.testBit_two_pow_sub_one]; simpa using hi
  rw [h2] at h1; cases h1
 | some l =>
  rw [ho] at hl hw
  obtain ⟨s, hs, ha, rfl, hle⟩ := hl
  exact ⟨s, hs, hw, ha, hle⟩
theorem fewest_laws {b : Book} (hc : (checkM b).2.2 = 0) {x : Int} (h0 : 0 ≤ x) (hb : x ≤ 255) :
 ∃ L : List Nat, wrongV b = (L, 0) ∧ L.length ≤ 6 ∧ risingB (natInts L) (-1) b.tallies.length = true ∧ someB b (hasInt (natInts L) ·) = true ∧ (someB b (hasInt (bitsL x b.tallies.length) ·) = true → fewerB (bitsL x b.tallies.length) (natInts L) = false) := by
 have hn := (valid_of hc).tallies
 obtain ⟨s, hs, hw, ha, hle⟩ := wrong_of hc
 refine ⟨_, hw, by have := listN_le s b.tallies.length; omega, (ri_both hn hs).1, by rw [some_set hn hs]; exact ha, fun hso => ?_⟩
 obtain ⟨t, ht, e2⟩ := bitsL_list hn h0 hb
 rw [e2] at hso ⊢
 rw [some_set hn ht] at hso
 rw [(rk_both hn ht hs).2, decide_eq_false]
 have := hle t ht hso
 omega
set_option maxHeartbeats 2000000 in
set_option maxRecDepth 100000 in
theorem ledgerFewest_any {m : Int} {b : Book} {a : BA} {w : World} (hm : w.cell? ⟨0, 0, none⟩ = some (.int .i64 m)) (hw0 : 0 < w.heap.size) (h : BookV w w.heap.size b a) {x : Int} (hx : 0 ≤ x ∧ x ≤ 255) :
 Calls Tryz.prog 10 #[bookVal b a, .int .u8 x] w fun e w' => e = .returned (.bool true) ∧ Below w.heap.size w w' := by
 have hb0 : Below w.heap.size w (w.alloc (.cells (bookCells b a) 25)) := (Below.refl _ _).alloc (Nat.le_refl _) _
 have HX := hide (BoxB.made h)
 have HG := hide ((hb0.cell (p := ⟨0, 0, none⟩) hw0).trans hm)
 have HB := hide hb0
 have hz0 := Nat.lt_of_lt_of_le hw0 hb0.size
 clear h hm hb0 hw0
 go_enter Tryz.func10, Tryz.ntmps10
 go_upto_region 1 with (fail)
 generalize w.alloc (.cells (bookCells b a) 25) = w0 at *
 by_cases hv : (checkM b).2.2 = 0
 · have HVB := hide (show decide ((checkM b).2.2 = 0) = true by rw [hv]; rfl)
   obtain ⟨L, hw, hL6, hr, hso, hfe⟩ := fewest_laws hv hx.1 hx.2
   have HG1 := hide (valid12_good hv)
   have h6 := (valid_of hv).tallies
   have HW := hide hw
   have HR := hide hr
   have HSO := hide hso
   have HFE := hide hfe
   clear hv hw hr hso hfe
   have hxw : IntKind.i64.wrap x = x := IntWalk.i64_in _ (by omega)
   obtain ⟨gx, x0, x1⟩ := HX.out.cells
   go_upto_region 2 with (go_at_call 31; refine (wrong_any HX.out.v).mono ?_; rintro e y1 ⟨A, c, rfl, hi, hb⟩; rw [HW.out] at hi; rw [HW.out]; simp only at hi ⊢; have HI := hide hi; clear hi)
   clear gx x0 x1
   replace HG := hide ((hb.cell (p := ⟨0, 0, none⟩) hz0).trans HG.out)
   replace HB := hide (HB.out.trans (hb.mono HB.out.size))
   replace HX := hide (HX.out.next hb)
   replace hz0 := Nat.lt_of_lt_of_le hz0 hb.size
   clear hb
   obtain ⟨gx, x0, x1⟩ := HX.out.cells
   go_upto_region 4 with (go_at_call 41; refine (valid12_any HX.out.v).mono ?_; rintro e y2 ⟨rfl, hb⟩; rw [HVB.out])
   clear gx x0 x1
   replace HG := hide ((hb.cell (p := ⟨0, 0, none⟩) hz0).trans HG.out)
   replace HB := hide (HB.out.trans (hb.mono HB.out.size))
   replace HX := hide (HX.out.next hb)
   replace HI := hide (HI.out.next hb)
   replace hz0 := Nat.lt_of_lt_of_le hz0 hb.size
   clear hb
   obtain ⟨gx, x0, x1⟩ := HX.out.cells
   obtain ⟨i0, hinf, hz0a, hz1a, hz2a⟩ := info_parts Tryz.infoInt
   go_wp2_with fail
   clear gx x0 x1
   go_loopw [7, 8, 27, 28, 29, 30, 31, 32, 33, 34, 35, 36, 37, 38, 39, 40, 41] (fun v7 v8 _ _ _ _ _ _ _ _ _ _ _ _ _ _ _ wr => ∃ j : Nat, j ≤ b.tallies.length ∧ v8 = .int .i64 j ∧ Hid (Below y2.heap.size y2 wr) ∧ Hid (wr.ownsRow y2.heap.size 3 1 v7 (bitsL x j).length ((bitsL x j).map fun n : Int => .int .i64 n))) (fun v7 v8 _ _ _ _ _ _ _ _ _ _ _ _ _ _ _ _ => b.tallies.length - (intOf v8).toNat)
   case atStart => exact ⟨0, Nat.zero_le _, rfl, hide (Below.refl _ _), hide (World.ownsRow_nil _ _ _ _)⟩
   case round =>
    obtain ⟨j, hj, rfl, HBW, HO⟩ := hrel
    obtain ⟨u0, rfl⟩ : ∃ u0 : World, u0 = wr := ⟨_, rfl⟩
    have hj0 : (0 : Int) ≤ (j : Int) := Int.natCast_nonneg _
    have hb := HBW.out
    have hsz : y2.heap.size ≤ u0.heap.size := HBW.out.size
    replace HG := hide ((hb.cell (p := ⟨0, 0, none⟩) hz0).trans HG.out)
    replace HB := hide (HB.out.trans (hb.mono HB.out.size))
    replace HX := hide (HX.out.next hb)
    replace HI := hide (HI.out.next hb)
    replace hz0 := Nat.lt_of_lt_of_le hz0 hb.size
    clear hb
    obtain ⟨gx, x0, x1⟩ := HX.out.cells
    by_cases hlt : j < b.tallies.length
    · have hj1 : (j : Int) < (b.tallies.length : Int) := by omega
      have hle : (bitsL x j).length ≤ j := by
       have := List.length_filter_le (fun i => bitB i x) (List.range j)
       simpa [bitsL] using this
      have e : bitsL x (j + 1) = bitsL x j ++ if bitB j x then [(j : Int)] else [] := by
       simp only [bitsL, List.range_succ, List.filter_append, List.filter_cons, List.filter_nil, List.map_append]
       cases bitB j x <;> rfl
      have HE := hide e
      clear e
      have HBT := hide (fun w => bit_any x j w hx.1 (by omega) (by omega))
      cases hbt : bitB j x with
      | true =>
       have e2 : bitsL x (j + 1) = bitsL x j ++ [(j : Int)] := by rw [HE.out, hbt]; rfl
       have HE := hide e2
       clear e2
       rw [hbt] at HBT
       clear hbt
       go_wp2_with (first
        | (go_at_call 50; refine (HBT.out _).mono ?_; rintro e w9 ⟨rfl, rfl⟩)
        | (at_builtin
           refine wpList_append_own _ rfl _ _ 35 rfl y2.heap.size 3 i0 (.int .i64 0) 1 8 Tryz.underlying35 hinf hz0a hz1a hz2a rfl (by decide) _ _ _ rfl (HO.out.alloc _) ⟨u0.heap.size, 0, none⟩ 1 1 [.int .i64 j] rfl rfl ?c1 ?c2 ?c3 ?c4 ?c5 ?_
           case c1 => exact cell_one_new _ _ _
           case c2 => simp [Value.oneCell']
           case c3 => simp [maxLen]; omega
           case c4 => omega
           case c5 => simp; omega
           intro v' w1 hown' hg _
           have hb1 := app_below hsz HO.out hg
           clear hg))
       have HB2 := hide (HBW.out.trans hb1)
       go_roundw
       case rel => exact ⟨j + 1, by omega, by go_num, HB2, hide (by rw [HE.out]; simpa using hown')⟩
       case measure => simp [intOf]; omega
      | false =>
       have e2 : bitsL x (j + 1) = bitsL x j := by rw [HE.out, hbt]; simp
       have HE := hide e2
       clear e2
       rw [hbt] at HBT
       clear hbt
       go_wp2_with (first | (go_at_call 50; refine (HBT.out _).mono ?_; rintro e w9 ⟨rfl, rfl⟩))
       go_roundw
       case rel => exact ⟨j + 1, by omega, by go_num, HBW, hide (by rw [HE.out]; exact HO.out)⟩
       case measure => simp [intOf]; omega
    · obtain rfl : j = b.tallies.length := by omega
      obtain ⟨A', c', rfl, hs'⟩ := IntsS.of_own HO.out
      have HI2 := hide hs'
      clear hs' HO hinf hz0a hz1a hz2a
      generalize bitsL x b.tallies.length = ot at *
      have hrl := HI2.out.len
      clear hrl
      clear gx x0 x1
      obtain ⟨gx, x0, x1⟩ := HX.out.cells
      obtain ⟨gx, x0, x1⟩ := HX.out.cells
      cases hso2 : someB b (hasInt ot ·) with
      | true =>
       have HS2 := hide hso2
       have HF2 := hide (HFE.out hso2)
       clear hso2
       go_wp2_with (first | (go_at_call 51; refine (rising_any HI.out (b.tallies.length : Int)).mono ?_; rintro e w9 ⟨rfl, rfl⟩; rw [HR.out]) | (go_at_call 52; with_reducible refine (some12_any HX.out.v HG1.out.1 HG1.out.2 HI.out).mono ?_; rintro e y9 ⟨rfl, hb⟩; rw [HSO.out]; replace HG := hide ((hb.cell (p := ⟨0, 0, none⟩) hz0).trans HG.out); replace HB := hide (HB.out.trans (hb.mono HB.out.size)); replace HX := hide (HX.out.next hb); replace HI := hide (HI.out.next hb); replace HI2 := hide (HI2.out.next hb); replace hz0 := Nat.lt_of_lt_of_le hz0 hb.size; clear gx x0 x1 hb; obtain ⟨gx, x0, x1⟩ := HX.out.cells))
       refine (some12_any HX.out.v HG1.out.1 HG1.out.2 HI2.out).mono ?_
       rintro e y10 ⟨rfl, hb⟩
       rw [HS2.out]
       replace HG := hide ((hb.cell (p := ⟨0, 0, none⟩) hz0).trans HG.out)
       replace HB := hide (HB.out.trans (hb.mono HB.out.size))
       replace HX := hide (HX.out.next hb)
       replace HI := hide (HI.out.next hb)
       replace HI2 := hide (HI2.out.next hb)
       replace hz0 := Nat.lt_of_lt_of_le hz0 hb.size
       clear gx x0 x1 hb
       go_wp2_with (first | (go_at_call 53; refine (fewer_any HI2.out HI.out).mono ?_; rintro e y11 ⟨rfl, hd⟩; rw [HF2.out]; have hb := hd.below y10.heap.size; clear hd; replace HG := hide ((hb.cell (p := ⟨0, 0, none⟩) hz0).trans HG.out); replace HB := hide (HB.out.trans (hb.mono HB.out.size)); replace HX := hide (HX.out.next hb); replace HI := hide (HI.out.next hb); replace HI2 := hide (HI2.out.next hb); replace hz0 := Nat.lt_of_lt_of_le hz0 hb.size; clear hb) | (go_at_call 23; refine (awake12_any HG.out hz0).mono ?_; rintro e y3 ⟨rfl, hb⟩))
       go_ret
       exact ⟨rfl, HB.out.trans (hb.mono HB.out.size)⟩
      | false =>
       have HS2 := hide hso2
       clear hso2
       go_wp2_with (first | (go_at_call 51; refine (rising_any HI.out (b.tallies.length : Int)).mono ?_; rintro e w9 ⟨rfl, rfl⟩; rw [HR.out]) | (go_at_call 52; with_reducible refine (some12_any HX.out.v HG1.out.1 HG1.out.2 HI.out).mono ?_; rintro e y9 ⟨rfl, hb⟩; rw [HSO.out]; replace HG := hide ((hb.cell (p := ⟨0, 0, none⟩) hz0).trans HG.out); replace HB := hide (HB.out.trans (hb.mono HB.out.size)); replace HX := hide (HX.out.next hb); replace HI := hide (HI.out.next hb); replace HI2 := hide (HI2.out.next hb); replace hz0 := Nat.lt_of_lt_of_le hz0 hb.size; clear gx x0 x1 hb; obtain ⟨gx, x0, x1⟩ := HX.out.cells))
       refine (some12_any HX.out.v HG1.out.1 HG1.out.2 HI2.out).mono ?_
       rintro e y10 ⟨rfl, hb⟩
       rw [HS2.out]
       replace HG := hide ((hb.cell (p := ⟨0, 0, none⟩) hz0).trans HG.out)
       replace HB := hide (HB.out.trans (hb.mono HB.out.size))
       replace HX := hide (HX.out.next hb)
       replace HI := hide (HI.out.next hb)
       replace HI2 := hide (HI2.out.next hb)
       replace hz0 := Nat.lt_of_lt_of_le hz0 hb.size
       clear gx x0 x1 hb
       go_wp2_with (first | (go_at_call 23; refine (awake12_any HG.out hz0).mono ?_; rintro e y4 ⟨rfl, hb⟩))
       go_ret
       exact ⟨rfl, HB.out.trans (hb.mono HB.out.size)⟩
 · have HVB := hide (show decide ((checkM b).2.2 = 0) = false from decide_eq_false hv)
   have HW := hide (show wrongV b = ([], (checkM b).2.2) by rw [wrongV, if_pos hv])
   generalize hce : (checkM b).2.2 = ce at *
   have HCE := hide hce
   have hd : (ce != 0) = true := by simp [hv]
   clear hce hv
   obtain ⟨gx, x0, x1⟩ := HX.out.cells
   go_upto_region 2 with (go_at_call 31; refine (wrong_any HX.out.v).mono ?_; rintro e y1 ⟨A, c, rfl, hi, hb⟩; rw [HW.out]; clear hi)
   clear gx x0 x1
   replace HG := hide ((hb.cell (p := ⟨0, 0, none⟩) hz0).trans HG.out)
   replace HB := hide (HB.out.trans (hb.mono HB.out.size))
   replace HX := hide (HX.out.next hb)
   replace hz0 := Nat.lt_of_lt_of_le hz0 hb.size
   clear hb
   obtain ⟨gx, x0, x1⟩ := HX.out.cells
   go_upto_region 3 with (go_at_call 41; refine (valid12_any HX.out.v).mono ?_; rintro e y2 ⟨rfl, hb⟩; rw [HCE.out, HVB.out])
   clear gx x0 x1
   replace HG := hide ((hb.cell (p := ⟨0, 0, none⟩) hz0).trans HG.out)
   replace HB := hide (HB.out.trans (hb.mono HB.out.size))
   replace HX := hide (HX.out.next hb)
   replace hz0 := Nat.lt_of_lt_of_le hz0 hb.size
   clear hb
   obtain ⟨gx, x0, x1⟩ := HX.out.cells
   go_wp2_with (first | (go_at_call 23; refine (awake12_any HG.out hz0).mono ?_; rintro e y3 ⟨rfl, hb⟩))
   go_ret
   exact ⟨rfl, HB.out.trans (hb.mono HB.out.size)⟩
end Go.Proofs.YtocdmkilnbpkdaaGreatDoor
