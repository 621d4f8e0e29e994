/- The reference's Wrong of chapter 07 answers as turn's: the first of the choices is the least of the sets. -/
import Derived.Test.YtbkknliggnhpcaaRefL
import Derived.Test.YtbkknliggnhpcaaPd
import Derived.Test.YtbkknliggnhpcaaBox
import Derived.BigQuiet
import Derived.StillTailTactics
import Derived.Deep.DeepCutAuto
set_option linter.unusedVariables false
set_option linter.unusedSimpArgs false
namespace Go.Proofs.Ytbkknliggnhpcaa
open Go.RowKit
attribute [local go_sem ↓] Go.wp_at_zero Go.wp_at_succ

def ordFact : Bool := (List.range 5).all fun n => (List.range 5).all fun i => (List.range 8).all fun k => decide (n < i) || decide ((chTo n i).length ≤ k) ||
  (List.range (2 ^ n)).any fun s => nth (chTo n i) k == natInts (listN s n) && (List.range (2 ^ n)).all fun t => decide (rk (listN s n) < rk (listN t n)) || listN s n == listN t n ||
    decide ((listN t n).length < i) && (List.range 8).any (fun q => decide (q < (chTo n (listN t n).length).length) && nth (chTo n (listN t n).length) q == natInts (listN t n)) ||
    ((listN t n).length == i && (List.range k).any fun q => nth (chTo n i) q == natInts (listN t n))
theorem ordFact_true : ordFact = true := by kernel_rfl
def lenFact : Bool := (List.range 5).all fun n => (List.range 5).all fun i => decide ((chTo n i).length ≤ 8) && decide ((chTo n n).length = 1) && (nth (chTo n n) 0 == natInts (listN (2 ^ n - 1) n))
theorem lenFact_true : lenFact = true := by kernel_rfl
theorem len_facts {n i : Nat} (hn : n ≤ 4) (hi : i ≤ 4) : (chTo n i).length ≤ 8 ∧ (chTo n n).length = 1 ∧ nth (chTo n n) 0 = natInts (listN (2 ^ n - 1) n) := by
  have h := lenFact_true
  rw [lenFact, List.all_eq_true] at h
  have h1 := h n (List.mem_range.2 (by omega))
  rw [List.all_eq_true] at h1
  have h2 := h1 i (List.mem_range.2 (by omega))
  simp only [Bool.and_eq_true, decide_eq_true_eq, beq_iff_eq] at h2
  exact ⟨h2.1.1, h2.1.2, h2.2⟩
theorem ord_facts {n i k : Nat} (hn : n ≤ 4) (hi : i ≤ n) (hk : k < (chTo n i).length) : ∃ s, s < 2 ^ n ∧ nth (chTo n i) k = natInts (listN s n) ∧ ∀ t, t < 2 ^ n →
    rk (listN s n) < rk (listN t n) ∨ listN s n = listN t n ∨ (∃ j q, j < i ∧ q < (chTo n j).length ∧ nth (chTo n j) q = natInts (listN t n)) ∨ ∃ q, q < k ∧ nth (chTo n i) q = natInts (listN t n) := by
  have h := ordFact_true
  have hl := (len_facts hn (show i ≤ 4 by omega)).1
  rw [ordFact, List.all_eq_true] at h
  have h1 := h n (List.mem_range.2 (by omega))
  rw [List.all_eq_true] at h1
  have h2 := h1 i (List.mem_range.2 (by omega))
  rw [List.all_eq_true] at h2
  have h3 := h2 k (List.mem_range.2 (by omega))
  rw [decide_eq_false (show ¬ n < i by omega), decide_eq_false (show ¬ (chTo n i).length ≤ k by omega), Bool.false_or, Bool.false_or, List.any_eq_true] at h3
  obtain ⟨s, hs, h4⟩ := h3
  rw [Bool.and_eq_true, beq_iff_eq, List.all_eq_true] at h4
  refine ⟨s, List.mem_range.1 hs, h4.1, fun t ht => ?_⟩
  have h5 := h4.2 t (List.mem_range.2 ht)
  simp only [Bool.or_eq_true, Bool.and_eq_true, decide_eq_true_eq, beq_iff_eq, List.any_eq_true, List.mem_range] at h5
  rcases h5 with ((h5 | h5) | ⟨h5, q, hq, hq2, hq3⟩) | ⟨h5, q, hq, hq2⟩
  · exact .inl h5
  · exact .inr (.inl h5)
  · exact .inr (.inr (.inl ⟨_, q, h5, hq2, hq3⟩))
  · exact .inr (.inr (.inr ⟨q, hq, hq2⟩))

/-- The first choice without which there is a truth is what fewest finds. -/
theorem first_wrong {c : Cargo} (hv : Valid c) (hc : (checkM c).2.2 = 0) {i k : Nat} (hi : i ≤ c.seen.length) (hk : k < (chTo c.seen.length i).length)
    (hbef : ∀ j, j < i → ∀ q, q < (chTo c.seen.length j).length → someM c (nth (chTo c.seen.length j) q) = false) (hrow : ∀ q, q < k → someM c (nth (chTo c.seen.length i) q) = false)
    (hs : someM c (nth (chTo c.seen.length i) k) = true) : natInts (wrongV c).1 = nth (chTo c.seen.length i) k ∧ (wrongV c).1.length = (nth (chTo c.seen.length i) k).length ∧ (wrongV c).2 = 0 := by
  have hn := hv.seens
  have h16 : 2 ^ c.seen.length ≤ 16 := Nat.pow_le_pow_right (by omega) hn
  obtain ⟨s, hsl, he, ht⟩ := ord_facts hn hi hk
  rw [he] at hs ⊢
  have hl := fwTo_least (ans := someS c) hn (2 ^ c.seen.length) (Nat.le_refl _)
  rw [wrongV, if_neg (by simp [hc])]
  cases ho : fwTo c.seen.length (someS c) (2 ^ c.seen.length) with
  | none =>
    rw [ho] at hl
    have := hl s hsl
    rw [someS_list hv (by omega), hs] at this
    cases this
  | some l =>
    rw [ho] at hl
    obtain ⟨u, hu, ha, rfl, hm⟩ := hl
    have h1 := hm s hsl (by rw [someS_list hv (by omega)]; exact hs)
    rw [someS_list hv (by omega)] at ha
    have h2 : listN s c.seen.length = listN u c.seen.length := by
      rcases ht u hu with h | h | ⟨j, q, hj, hq, e⟩ | ⟨q, hq, e⟩
      · omega
      · exact h
      · have := hbef j hj q hq; rw [e, ha] at this; cases this
      · have := hrow q hq; rw [e, ha] at this; cases this
    rw [Option.getD_some, h2]
    exact ⟨rfl, (natInts_length _).symm, rfl⟩
theorem last_some {c : Cargo} (hv : Valid c) : someM c (nth (chTo c.seen.length c.seen.length) 0) = true := by
  have hn := hv.seens
  have h16 : 2 ^ c.seen.length ≤ 16 := Nat.pow_le_pow_right (by omega) hn
  have hp : 0 < 2 ^ c.seen.length := Nat.pow_pos (by omega)
  rw [(len_facts hn hn).2.2]
  exact someM_drop hv fun i hi => by
    rw [← (ri_both hn (show 2 ^ c.seen.length - 1 < 16 by omega)).2 i hi, Nat.testBit_two_pow_sub_one]; simpa using hi

set_option maxHeartbeats 4000000 in
set_option maxRecDepth 100000 in
theorem wrong7_any {A1 A2 A3 A4 : Option Addr} {c1 c2 c3 c4 : Nat} {c : Cargo} {w : World} (h : CargoV w w.heap.size c A1 A2 A3 A4 c1 c2 c3 c4) :
    Calls Try.prog 33 #[cargoVal c A1 A2 A3 A4 c1 c2 c3 c4] w fun e w' => ∃ A cp, e = .returned (.tuple #[.slice A (wrongV c).1.length cp, .int .i64 (wrongV c).2]) ∧ IntsS w' w'.heap.size A (wrongV c).1.length cp (natInts (wrongV c).1) ∧ Below w.heap.size w w' := by
  have HK := hide (BoxC.made h)
  have HB : Hid (Below w.heap.size w (w.alloc (.cells #[.slice A1 c.heat.length c1, .int .i64 c.gas, .slice A2 c.holds.length c2, .slice A3 c.lots.length c3, .slice A4 c.seen.length c4] 27))) := hide ((Below.refl _ _).alloc (Nat.le_refl _) _)
  clear h
  by_cases hc : (checkM c).2.2 = 0
  · have hval := valid_of hc
    have hsl := hval.seens
    have HVL := hide hval
    have HFW := hide (fun i k => first_wrong hval hc (i := i) (k := k))
    have HLS := hide (last_some hval)
    have HCH := hide (fun (w : World) A1 A2 A3 A4 c1 c2 c3 c4 (h : CargoV w w.heap.size c A1 A2 A3 A4 c1 c2 c3 c4) => (show Calls Try.prog 17 #[cargoVal c A1 A2 A3 A4 c1 c2 c3 c4] w fun e w' => e = .returned (.tuple #[.int .i64 (checkM c).1, .int .i64 (checkM c).2.1, .int .i64 0]) ∧ Below w.heap.size w w' from by
      have := check7_any h; rw [hc] at this; exact this))
    clear hc hval
    generalize (checkM c).1 = k1 at *
    generalize (checkM c).2.1 = k2 at *
    go_enter Try.func33, Try.ntmps33
    go_upto_region 1 with (fail)
    generalize (w.alloc (.cells #[.slice A1 c.heat.length c1, .int .i64 c.gas, .slice A2 c.holds.length c2, .slice A3 c.lots.length c3, .slice A4 c.seen.length c4] 27)) = v0 at *
    obtain ⟨hv, z, x0, x1, x2, x3, x4⟩ := HK.out
    have HV := hide hv
    clear hv
    go_upto_region 2 with (go_at_call 17; refine (HCH.out _ _ _ _ _ _ _ _ _ HV.out).mono ?_; rintro e v1 ⟨rfl, hb⟩)
    have HK := hide (HK.out.next hb)
    have HB := hide (HB.out.trans (hb.mono (by have := HB.out.size; exact this)))
    clear hb
    clear z x0 x1 x2 x3 x4 HV
    go_wp2_with fail
    go_loopw [7, 8, 9] (fun v7 _ _ wr => ∃ j : Nat, j ≤ c.seen.length ∧ v7 = .int .i64 j ∧ Below v1.heap.size v1 wr ∧ Hid (∀ i, i < j → ∀ q, q < (chTo c.seen.length i).length → someM c (nth (chTo c.seen.length i) q) = false)) (fun v7 _ _ _ => c.seen.length - (intOf v7).toNat)
    case atStart => exact ⟨0, Nat.zero_le _, rfl, Below.refl _ _, hide (fun i hi => absurd hi (Nat.not_lt_zero _))⟩
    case round =>
      obtain ⟨j, hj, rfl, hB, HP⟩ := hrel
      have hj0 : (0 : Int) ≤ (j : Int) := Int.natCast_nonneg _
      have HK1 := hide (HK.out.next hB)
      have HB1 := hide (HB.out.trans (hB.mono HB.out.size))
      obtain ⟨hv, z, x0, x1, x2, x3, x4⟩ := HK1.out
      clear hv
      by_cases hlt : j < c.seen.length
      · have hj1 : (j : Int) < (c.seen.length : Int) := by omega
        have HLN := hide (len_facts hsl (show j ≤ 4 by omega)).1
        go_wp2_with (go_at_call 95; refine (choices_any hsl (show j ≤ 4 by omega) _).mono ?_; rintro e w2 ⟨AL, cL, rfl, hL, hb2⟩)
        have HK2 := hide (HK1.out.next hb2)
        have HBV := hide (hB.trans (hb2.mono hB.size))
        have HL := hide hL
        have hlm := hL.bd
        clear hL hb2 z x0 x1 x2 x3 x4 hB HK1
        generalize hGG : chTo c.seen.length j = G at *
        have HGG := hide hGG
        clear hGG
        go_loopw [9] (fun v9 w3 => ∃ k : Nat, k ≤ G.length ∧ v9 = .int .i64 k ∧ Below w2.heap.size w2 w3 ∧ Hid (∀ q, q < k → someM c (nth G q) = false)) (fun v9 _ => G.length - (intOf v9).toNat)
        case atStart => exact ⟨0, Nat.zero_le _, rfl, Below.refl _ _, hide (fun q hq => absurd hq (Nat.not_lt_zero _))⟩
        case round =>
          obtain ⟨k, hk, rfl, hB2, HR⟩ := hrel
          have hk0 : (0 : Int) ≤ (k : Int) := Int.natCast_nonneg _
          have HK3 := hide (HK2.out.next hB2)
          have HBX := hide (HBV.out.trans (hB2.mono HBV.out.size))
          by_cases hlt2 : k < G.length
          · have hk1 : (k : Int) < (G.length : Int) := by omega
            obtain ⟨bg, og, Ag, cg, rfl, hbg, hgc, hgi⟩ := (HL.out.next hB2).at_ hlt2
            have HGI := hide hgi
            obtain ⟨hv, z, x0, x1, x2, x3, x4⟩ := HK3.out
            have HV := hide hv
            have HGC := hide hgc
            have HB3 := hide hB2
            clear hv hgi hB2
            go_wp2_with fail
            go_still_tail 5, (by kernel_rfl)
            change wpList _ _ _ _ _ wr.drew
            have hbD := (Below.refl wr.heap.size wr).drew
            have HK4 := hide (HK3.out.next hbD)
            have HV4 := hide (HV.out.next hbD)
            have HGI4 := hide (HGI.out.next hbD)
            have hgc4 := (hbD.cell (p := ⟨bg, og + k, none⟩) hbg).trans HGC.out
            have hbg4 : bg < wr.drew.heap.size := hbg
            have HBY := hide (HBX.out.trans (hbD.mono HBX.out.size))
            clear x0 x1 x2 x3 x4 z hgc HGC HGI HV hbD hbg
            have HW4 : Hid (Below w2.heap.size w2 wr.drew) := hide (HB3.out.drew)
            generalize wr.drew = w4 at *
            cases hsm : someM c (nth G k) with
            | true =>
              have HSM := hide hsm
              clear hsm
              go_wp2_with (go_at_call 50; refine (some7_any HV4.out HVL.out HGI4.out).mono ?_; rintro e w5 ⟨rfl, hb5⟩; rw [HSM.out]; have hgc5 := (hb5.cell (p := ⟨bg, og + k, none⟩) hbg4).trans hgc4; have hbg5 : bg < w5.heap.size := Nat.lt_of_lt_of_le hbg4 hb5.size)
              go_ret2
              obtain ⟨e1, e2, e3⟩ := HFW.out j k (by omega) (by rw [HGG.out]; exact hlt2) HP.out (by rw [HGG.out]; exact HR.out) (by rw [HGG.out]; exact HSM.out)
              rw [HGG.out] at e1 e2
              rw [e1, e2, e3]
              exact ⟨Ag, cg, rfl, HGI4.out.next hb5, HB.out.trans ((HBY.out.trans (hb5.mono HBY.out.size)).mono HB.out.size)⟩
            | false =>
              have HSM := hide hsm
              clear hsm
              go_wp2_with (go_at_call 50; refine (some7_any HV4.out HVL.out HGI4.out).mono ?_; rintro e w5 ⟨rfl, hb5⟩; rw [HSM.out])
              go_roundw
              case rel => exact ⟨k + 1, by omega, by go_num, HW4.out.trans (hb5.mono HW4.out.size), hide (fun q hq => by
                by_cases hqk : q = k
                · rw [hqk]; exact HSM.out
                · exact HR.out q (by omega))⟩
              case measure => simp [intOf]; omega
          · have hkk : k = G.length := by omega
            have HR2 : Hid (∀ q, q < G.length → someM c (nth G q) = false) := by rw [hkk] at HR; exact HR
            clear hkk
            have HB3 := hide hB2
            clear hB2
            go_wp2_with fail
            go_roundw
            case rel => exact ⟨j + 1, by omega, by go_num, HBX.out, hide (fun i hi => by
                by_cases hij : i = j
                · rw [hij, HGG.out]; exact HR2.out
                · exact HP.out i (by omega))⟩
            case measure => simp [intOf]; omega
      · obtain rfl : j = c.seen.length := by omega
        obtain ⟨hl8, hl1, hl2⟩ := len_facts hsl hsl
        have HL1 := hide hl1
        clear hl8 hl1 hl2
        go_wp2_with fail
        refine (choices_any hsl hsl _).mono ?_
        rintro e w2 ⟨AL, cL, rfl, hL, hb2⟩
        have hq0 : 0 < (chTo c.seen.length c.seen.length).length := by have := HL1.out; omega
        obtain ⟨bg, og, Ag, cg, rfl, hbg, hgc, hgi⟩ := hL.at_ hq0
        have hgi2 := hide hgi
        have hgc : w2.cell? ⟨bg, og, none⟩ = some (.slice Ag (nth (chTo c.seen.length c.seen.length) 0).length cg) := hgc
        clear hgi hL
        rw [HL1.out]
        go_wp2_with fail
        go_ret2
        obtain ⟨e1, e2, e3⟩ := HFW.out c.seen.length 0 (Nat.le_refl _) hq0 HP.out (fun q hq => absurd hq (Nat.not_lt_zero _)) HLS.out
        rw [e1, e2, e3]
        exact ⟨Ag, cg, rfl, hgi2.out, HB1.out.trans (hb2.mono HB1.out.size)⟩
  · have hc2 : ((checkM c).2.2 == 0) = false := by simpa using hc
    have hc3 : ((checkM c).2.2 != 0) = true := by simpa using hc
    have HWV := hide (show wrongV c = ([], (checkM c).2.2) by rw [wrongV, if_pos hc])
    have HCH := hide (fun (w : World) A1 A2 A3 A4 c1 c2 c3 c4 (h : CargoV w w.heap.size c A1 A2 A3 A4 c1 c2 c3 c4) => check7_any h)
    generalize (checkM c).1 = k1 at *
    generalize (checkM c).2.1 = k2 at *
    generalize (checkM c).2.2 = E at *
    go_enter Try.func33, Try.ntmps33
    go_upto_region 1 with (fail)
    generalize (w.alloc (.cells #[.slice A1 c.heat.length c1, .int .i64 c.gas, .slice A2 c.holds.length c2, .slice A3 c.lots.length c3, .slice A4 c.seen.length c4] 27)) = v0 at *
    obtain ⟨hv, z, x0, x1, x2, x3, x4⟩ := HK.out
    have HV := hide hv
    clear hv
    go_upto_region 2 with (go_at_call 17; refine (HCH.out _ _ _ _ _ _ _ _ _ HV.out).mono ?_; rintro e v1 ⟨rfl, hb⟩)
    have HK := hide (HK.out.next hb)
    have HB := hide (HB.out.trans (hb.mono (by have := HB.out.size; exact this)))
    clear hb
    clear z x0 x1 x2 x3 x4 HV
    go_wp2_with fail
    go_ret2
    rw [HWV.out]
    exact ⟨none, 0, rfl, IntsS.nil_, HB.out⟩
end Go.Proofs.Ytbkknliggnhpcaa
