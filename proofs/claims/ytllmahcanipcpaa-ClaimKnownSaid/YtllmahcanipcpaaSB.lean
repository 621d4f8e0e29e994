/- Contracts of the reference's paper and Check. -/
import Derived.Test.YtllmahcanipcpaaSA
import Derived.OwnWalkIn
import Derived.TacticsInMore
import Derived.Deep.DeepCutAuto
set_option linter.unusedVariables false
set_option linter.unusedSimpArgs false
namespace Go.Proofs.Ytllmahcanipcpaa
open Go.RowKit
attribute [local go_sem ↓] Go.wp_at_zero Go.wp_at_succ
attribute [local go_sem] Oper.semAt_some

theorem has_place (r : List Int) (p : Int) : hasInt r p = decide (0 ≤ placeM r p) := by rw [← idx_place, idxOf_any]; rfl
set_option maxHeartbeats 2000000 in
set_option maxRecDepth 100000 in
theorem paper7_any {f : File} {fa : FA} {w : World} (h : FileV w w.heap.size f fa) (p : Paper) :
    Calls Try.prog 47 #[fileVal f fa, .agg #[.int .i64 p.says, .int .i64 p.lot, .int .i64 p.of_]] w fun e w' => e = .returned (.int .i64 (paperE f 0 p)) ∧ Below w.heap.size w w' := by
  obtain ⟨ps, pl, po⟩ := p
  have hB0 : Below w.heap.size w ((w.alloc (.cells (fileCells f fa) 28)).alloc (.cells #[.int .i64 ps, .int .i64 pl, .int .i64 po] 48)) := ((Below.refl _ _).alloc (Nat.le_refl _) _).alloc (by simp) _
  have q1 : Blk ((w.alloc (.cells (fileCells f fa) 28)).alloc (.cells #[.int .i64 ps, .int .i64 pl, .int .i64 po] 48)) w.heap.size 28 (fileCells f fa) := Blk.made.alloc _
  have q2 : Blk ((w.alloc (.cells (fileCells f fa) 28)).alloc (.cells #[.int .i64 ps, .int .i64 pl, .int .i64 po] 48)) (w.heap.size + 1) 48 #[.int .i64 ps, .int .i64 pl, .int .i64 po] := Blk.made' (by simp)
  have HC0 := hide (h.next hB0)
  have HB0 := hide hB0
  have hm3 := h.m3
  unfold maxLen at hm3
  clear h hB0
  go_enter Try.func47, Try.ntmps47
  go_upto_region 1 with (fail)
  generalize ((w.alloc (.cells (fileCells f fa) 28)).alloc (.cells #[.int .i64 ps, .int .i64 pl, .int .i64 po] 48)) = w0 at *
  have p2 := q1.at_ 2
  have r0 := q2.at_ 0
  have r1 := q2.at_ 1
  have r2 := q2.at_ 2
  simp only [fileCells, List.getElem?_toArray, List.getElem?_cons_zero, List.getElem?_cons_succ] at p2 r0 r1 r2
  have hz1 := q1.lt
  have hz2 := q2.lt
  have HE := hide (show paperE f 0 ⟨ps, pl, po⟩ = if offP 0 3 ps then 7 else if offP 0 ((f.lots.length : Int) - 1) pl then 4
    else if ps < 2 then (if hasInt (nth f.lots pl.toNat).route po then 0 else 4) else if offP 0 ((f.lots.length : Int) - 1) po then 4 else if pl = po then 2 else 0 from rfl)
  have hl0 : (0 : Int) ≤ (f.lots.length : Int) := Int.natCast_nonneg _
  have hw1 : IntKind.i64.wrap ((f.lots.length : Int) - 1) = (f.lots.length : Int) - 1 := IntWalk.i64_in _ (by omega)
  generalize hEE : paperE f 0 ⟨ps, pl, po⟩ = E at *
  have HEE := hide hEE
  clear hEE
  clear q1 q2
  have hi2 : True := trivial
  have hi3 : True := trivial
  cases h1 : offP 0 3 ps with
  | true =>
    have hi1 : inB ps 0 3 = false := by rw [inB_off, h1]; rfl
    have HX := hide (show E = 7 by rw [HE.out, h1]; rfl)
    clear h1
    go_wp2_with (go_at_call 45; refine (in_any _ _ _ _).mono ?_; rintro e w' ⟨rfl, rfl⟩; first | rw [hi1] | rw [hi2] | rw [hi3])
    go_ret
    exact ⟨by rw [HEE.out, HX.out]; rfl, HB0.out⟩
  | false =>
    have hi1 : inB ps 0 3 = true := by rw [inB_off, h1]; rfl
    have hps := offP_false.1 h1
    cases h2 : offP 0 ((f.lots.length : Int) - 1) pl with
    | true =>
      have hi2 : inB pl 0 ((f.lots.length : Int) - 1) = false := by rw [inB_off, h2]; rfl
      have HX := hide (show E = 4 by rw [HE.out, h1, h2]; rfl)
      clear h1 h2
      go_wp2_with (go_at_call 45; refine (in_any _ _ _ _).mono ?_; rintro e w' ⟨rfl, rfl⟩; first | rw [hi1] | rw [hi2] | rw [hi3])
      go_ret
      exact ⟨by rw [HEE.out, HX.out]; rfl, HB0.out⟩
    | false =>
      have hi2 : inB pl 0 ((f.lots.length : Int) - 1) = true := by rw [inB_off, h2]; rfl
      have hpl := offP_false.1 h2
      have HE2 := hide (show E = if ps < 2 then (if hasInt (nth f.lots pl.toNat).route po then 0 else 4) else if offP 0 ((f.lots.length : Int) - 1) po then 4 else if pl = po then 2 else 0 by rw [HE.out, h1, h2]; rfl)
      clear h1 h2 HE
      by_cases h3 : ps < 2
      · have h3' : ps ≤ 1 := by omega
        obtain ⟨k, rfl⟩ : ∃ k : Nat, pl = (k : Int) := ⟨pl.toNat, by omega⟩
        have hk0 : (0 : Int) ≤ (k : Int) := Int.natCast_nonneg _
        have hk1 : (k : Int) < (f.lots.length : Int) := by omega
        have hk : k < f.lots.length := by omega
        rw [Int.toNat_natCast] at HE2
        obtain ⟨bl, ol, hA3, hbl, y0, -, -, -⟩ := HC0.out.lots.lots hk
        have HRT := hide (HC0.out.routes k hk)
        rw [hA3] at p2
        have HHP := hide (has_place (nth f.lots k).route po)
        cases h4 : decide (0 ≤ placeM (nth f.lots k).route po) with
        | true =>
          have hge : ¬ placeM (nth f.lots k).route po < 0 := by have := of_decide_eq_true h4; omega
          have HX := hide (show E = 0 by rw [HE2.out, if_pos h3, HHP.out, h4]; rfl)
          clear h4 HE2 HHP
          go_wp2_with (go_at_call 45; refine (in_any _ _ _ _).mono ?_; rintro e w' ⟨rfl, rfl⟩; first | rw [hi1] | rw [hi2] | rw [hi3])
          go_quiet (first | (go_at_call 75; exact Calls.quiet_of_same ((place_any (HRT.out.drewN _) _).mono (fun _ _ h => ⟨h.1, h.2.symm⟩))))
          go_wp2_with fail
          go_ret
          exact ⟨by rw [HEE.out, HX.out]; rfl, below_drewN HB0.out _⟩
        | false =>
          have hge : placeM (nth f.lots k).route po < 0 := by have := of_decide_eq_false h4; omega
          have HX := hide (show E = 4 by rw [HE2.out, if_pos h3, HHP.out, h4]; rfl)
          clear h4 HE2 HHP
          go_wp2_with (go_at_call 45; refine (in_any _ _ _ _).mono ?_; rintro e w' ⟨rfl, rfl⟩; first | rw [hi1] | rw [hi2] | rw [hi3])
          go_quiet (first | (go_at_call 75; exact Calls.quiet_of_same ((place_any (HRT.out.drewN _) _).mono (fun _ _ h => ⟨h.1, h.2.symm⟩))))
          go_wp2_with fail
          go_ret
          exact ⟨by rw [HEE.out, HX.out]; rfl, below_drewN HB0.out _⟩
      · have h3' : ¬ ps ≤ 1 := by omega
        cases h4 : offP 0 ((f.lots.length : Int) - 1) po with
        | true =>
          have hi3 : inB po 0 ((f.lots.length : Int) - 1) = false := by rw [inB_off, h4]; rfl
          have HX := hide (show E = 4 by rw [HE2.out, if_neg h3, h4]; rfl)
          clear h4
          go_wp2_with (go_at_call 45; refine (in_any _ _ _ _).mono ?_; rintro e w' ⟨rfl, rfl⟩; first | rw [hi1] | rw [hi2] | rw [hi3])
          go_ret
          exact ⟨by rw [HEE.out, HX.out]; rfl, HB0.out⟩
        | false =>
          have hi3 : inB po 0 ((f.lots.length : Int) - 1) = true := by rw [inB_off, h4]; rfl
          by_cases h5 : po = pl
          · have h5' : (po == pl) = true := by simpa using h5
            have HX := hide (show E = 2 by rw [HE2.out, if_neg h3, h4, if_pos h5.symm]; rfl)
            clear h4 h5
            go_wp2_with (go_at_call 45; refine (in_any _ _ _ _).mono ?_; rintro e w' ⟨rfl, rfl⟩; first | rw [hi1] | rw [hi2] | rw [hi3])
            go_ret
            exact ⟨by rw [HEE.out, HX.out]; rfl, HB0.out⟩
          · have h5' : (po == pl) = false := by simpa using h5
            have HX := hide (show E = 0 by rw [HE2.out, if_neg h3, h4, if_neg (by simp), if_neg (fun e => h5 e.symm)])
            clear h4 h5
            go_wp2_with (go_at_call 45; refine (in_any _ _ _ _).mono ?_; rintro e w' ⟨rfl, rfl⟩; first | rw [hi1] | rw [hi2] | rw [hi3])
            go_ret
            exact ⟨by rw [HEE.out, HX.out]; rfl, HB0.out⟩
theorem failM_long {α : Type} {f : Nat → α → Int} {l : List α} {most : Int} (h : most < l.length) : failM f l most = (0, 3) := if_pos h
theorem failM_hit {α : Type} [Inhabited α] {f : Nat → α → Int} {l : List α} {most : Int} {i : Nat} (hm : (l.length : Int) ≤ most) (hi : i < l.length) (hk : ∀ k, k < i → f k (nth l k) = 0) {e : Int} (he : f i (nth l i) = e) (hne : e ≠ 0) : failM f l most = ((i : Int), e) := by
  rw [failM, if_neg (by omega)]
  have key : ∀ (xs : List α) (s i : Nat), i < xs.length → (∀ k, k < i → f (s + k) (nth xs k) = 0) → f (s + i) (nth xs i) = e → firstE f xs s = (((s + i : Nat) : Int), e) := by
    intro xs
    induction xs with
    | nil => intro s i hi; simp at hi
    | cons x xs ih =>
      intro s i hi hk he
      rw [firstE]
      cases i with
      | zero =>
        have he : f s x = e := by simpa [nth] using he
        rw [if_neg (by rw [he]; exact hne), he]; rfl
      | succ i =>
        have h0 : f s x = 0 := by have := hk 0 (by omega); simpa [nth] using this
        rw [if_pos h0, ih (s + 1) i (by simpa using hi) (fun k hkk => by have := hk (k + 1) (by omega); rw [show s + (k + 1) = s + 1 + k by omega] at this; simpa [nth] using this) (by rw [show s + (i + 1) = s + 1 + i by omega] at he; simpa [nth] using he)]
        congr 2; omega
  have := key l 0 i hi (fun k hkk => by rw [Nat.zero_add]; exact hk k hkk) (by rw [Nat.zero_add]; exact he)
  rw [Nat.zero_add] at this
  exact this
theorem failM_none {α : Type} [Inhabited α] {f : Nat → α → Int} {l : List α} {most : Int} (hm : (l.length : Int) ≤ most) (hk : ∀ k, k < l.length → f k (nth l k) = 0) : failM f l most = (0, 0) := by
  rw [failM, if_neg (by omega)]
  exact firstE_ok l 0 (fun j hj => by rw [Nat.zero_add]; exact hk j hj)
set_option maxHeartbeats 4000000 in
set_option maxRecDepth 100000 in
theorem check7_any {f : File} {fa : FA} {w : World} (h : FileV w w.heap.size f fa) :
    Calls Try.prog 9 #[fileVal f fa] w fun e w' => e = .returned (.tuple #[.int .i64 (checkM f).1, .int .i64 (checkM f).2.1, .int .i64 (checkM f).2.2]) ∧ Below w.heap.size w w' := by
  have HB0 : Hid (Below w.heap.size w (w.alloc (.cells (fileCells f fa) 28))) := hide ((Below.refl _ _).alloc (Nat.le_refl _) _)
  have HBX := hide (BoxF.made h)
  have hm1 := h.m1
  have hm2 := h.m2
  have hm3 := h.m3
  have hm4 := h.m4
  have hm5 := h.m5
  unfold maxLen at hm1 hm2 hm3 hm4 hm5
  have HSM := hide h.small
  clear h
  go_enter Try.func9, Try.ntmps9
  go_upto_region 1 with (fail)
  generalize (w.alloc (.cells (fileCells f fa) 28)) = w0 at *
  obtain ⟨hz, p0, p1, p2, p3, p4⟩ := HBX.out.cells
  have HC := hide (show checkM f = if (failM (partyE f) f.parties 4).2 ≠ 0 then (1, failM (partyE f) f.parties 4)
    else if f.untils.length ≠ f.parties.length then (2, 0, 3)
    else if (failM dayE f.untils 4).2 ≠ 0 then (2, failM dayE f.untils 4)
    else if (failM (lotE f) f.lots 4).2 ≠ 0 then (3, failM (lotE f) f.lots 4)
    else if (failM (paperE f) f.papers 5).2 ≠ 0 then (4, failM (paperE f) f.papers 5)
    else if (failM (claimE f) f.claims 5).2 ≠ 0 then (5, failM (claimE f) f.claims 5)
    else (0, 0, 0) from rfl)
  generalize hCC : checkM f = C at *
  have HCC := hide hCC
  clear hCC
  have hp0 : (0 : Int) ≤ (f.parties.length : Int) := Int.natCast_nonneg _
  have hu0 : (0 : Int) ≤ (f.untils.length : Int) := Int.natCast_nonneg _
  have hl0 : (0 : Int) ≤ (f.lots.length : Int) := Int.natCast_nonneg _
  have ha0 : (0 : Int) ≤ (f.papers.length : Int) := Int.natCast_nonneg _
  have hc0 : (0 : Int) ≤ (f.claims.length : Int) := Int.natCast_nonneg _
  by_cases hlong : (4 : Int) < f.parties.length
  · have HX := hide (show C = (1, 0, 3) by rw [HC.out, failM_long hlong]; rfl)
    go_wp2_with fail
    go_ret3
    exact ⟨by rw [HCC.out, HX.out]; rfl, HB0.out⟩
  have HL1 := hide (show (f.parties.length : Int) ≤ 4 by omega)
  go_wp2_with fail
  go_loopw [5] (fun v5 wr => ∃ i : Nat, i ≤ f.parties.length ∧ v5 = .int .i64 i ∧ Hid (∀ k, k < i → partyE f k (nth f.parties k) = 0) ∧ Below w0.heap.size w0 wr) (fun v5 _ => f.parties.length - (intOf v5).toNat)
  case atStart => exact ⟨0, Nat.zero_le _, rfl, hide (fun k hk => by omega), Below.refl _ _⟩
  case round =>
    obtain ⟨i, hi, rfl, HK, hB⟩ := hrel
    have hi0 : (0 : Int) ≤ (i : Int) := Int.natCast_nonneg _
    have q := (HBX.out.next hB)
    obtain ⟨hz, p0, p1, p2, p3, p4⟩ := q.cells
    have hzr := hB.size
    have HB := hide hB
    clear q hB
    by_cases hlt : i < f.parties.length
    · have hi1 : (i : Int) < (f.parties.length : Int) := by omega
      obtain ⟨bs, os, hA, hbs, hcs⟩ := HBX.out.v.parties.strs hlt
      have hcs := (HB.out.cell (p := ⟨bs, os + i, none⟩) hbs).trans hcs
      have HFR := hide (fun n => fresh7_any (c := fa.c1) (n := i) (w := wr.drewN n) (((HBX.out.v.parties.below HB.out).more HB.out.size) |> fun h => row_pre h hi) (by omega) (by omega) (nth f.parties i) (HSM.out i hlt))
      have HPE := hide (show partyE f i (nth f.parties i) = if nameB (nth f.parties i) then (if (f.parties.take i).any (eqS (nth f.parties i)) then 5 else 0) else 6 from rfl)
      rw [hA] at p0 HFR
      clear hA
      have hbr : bs < wr.heap.size := by omega
      have hi2 : (i : Int) ≤ (f.parties.length : Int) := by omega
      have hi3 : i ≤ fa.c1 := by omega
      have hi4 : (i : Int) ≤ (fa.c1 : Int) := by omega
      generalize hvv : (nth f.parties i) = v at *
      have HVV := hide hvv
      clear hvv
      generalize fa.c1 = k1 at *
      go_wp2_with fail
      cases hpe : (partyE f i v != 0) with
      | true =>
        have hne : partyE f i v ≠ 0 := by simpa using hpe
        have HX := hide (show C = (1, (i : Int), partyE f i v) by rw [HC.out, failM_hit (f := partyE f) HL1.out hlt HK.out (HVV.out ▸ rfl : partyE f i (nth f.parties i) = partyE f i v) hne, if_pos hne])
        go_quiet (first | (go_at_call 44; exact Calls.quiet_of_same ((HFR.out _).mono (fun _ _ h => ⟨by rw [h.1, ← HPE.out], h.2.symm⟩))))
        go_wp2_with fail
        go_ret3
        exact ⟨by rw [HCC.out, HX.out]; rfl, HB0.out.trans ((below_drewN HB.out _).mono HB0.out.size)⟩
      | false =>
        have hne : partyE f i v = 0 := by simpa using hpe
        rw [hne] at hpe HPE
        have HNE := hide hne
        go_quiet (first | (go_at_call 44; exact Calls.quiet_of_same ((HFR.out _).mono (fun _ _ h => ⟨by rw [h.1, ← HPE.out], h.2.symm⟩))))
        go_wp2_with fail
        go_roundw
        case rel => exact ⟨i + 1, by omega, by go_num, hide (fun k hk => by
          rcases Nat.lt_or_ge k i with h1 | h1
          · exact HK.out k h1
          · rw [show k = i by omega, HVV.out]; exact HNE.out), below_drewN HB.out _⟩
        case measure => simp [intOf]; omega
    · obtain rfl : i = f.parties.length := by omega
      have hnot : ¬ (f.parties.length : Int) < (f.parties.length : Int) := by omega
      have HC1 := hide (show C = if f.untils.length ≠ f.parties.length then (2, 0, 3)
        else if (failM dayE f.untils 4).2 ≠ 0 then (2, failM dayE f.untils 4)
        else if (failM (lotE f) f.lots 4).2 ≠ 0 then (3, failM (lotE f) f.lots 4)
        else if (failM (paperE f) f.papers 5).2 ≠ 0 then (4, failM (paperE f) f.papers 5)
        else if (failM (claimE f) f.claims 5).2 ≠ 0 then (5, failM (claimE f) f.claims 5)
        else (0, 0, 0) by rw [HC.out, failM_none HL1.out HK.out, if_neg (by simp)])
      clear HC
      by_cases hul : f.untils.length = f.parties.length
      · have hub : ((f.untils.length : Int) != (f.parties.length : Int)) = false := by simp; omega
        have HUL := hide hul
        have HB1 := hide (HB0.out.trans (HB.out.mono HB0.out.size))
        have hu4 : (f.untils.length : Int) ≤ 4 := by have := HL1.out; omega
        have HU4 := hide hu4
        clear hul
        go_wp2_with fail
        obtain ⟨wa, rfl⟩ : ∃ wa : World, wa = wr := ⟨_, rfl⟩
        have HBA := hide (HBX.out.next HB.out)
        go_loopw [7] (fun v7 wr => ∃ i : Nat, i ≤ f.untils.length ∧ v7 = .int .i64 i ∧ Hid (∀ k, k < i → dayE k (nth f.untils k) = 0) ∧ Below wa.heap.size wa wr) (fun v7 _ => f.untils.length - (intOf v7).toNat)
        case atStart => exact ⟨0, Nat.zero_le _, rfl, hide (fun k hk => by omega), Below.refl _ _⟩
        case round =>
          clear HK hi0 hlt hi hnot hub
          obtain ⟨i, hi, rfl, HK, hB⟩ := hrel
          have hi0 : (0 : Int) ≤ (i : Int) := Int.natCast_nonneg _
          have q := (HBA.out.next hB)
          obtain ⟨hz, p0, p1, p2, p3, p4⟩ := q.cells
          have hzr := hB.size
          have HB := hide hB
          clear q hB
          by_cases hlt : i < f.untils.length
          · have hi1 : (i : Int) < (f.untils.length : Int) := by omega
            obtain ⟨bs, os, hA, hbs, hcs⟩ := HBA.out.v.untils.ints hlt
            have hcs := (HB.out.cell (p := ⟨bs, os + i, none⟩) hbs).trans hcs
            rw [hA] at p1
            clear hA
            have hbr : bs < wr.heap.size := by omega
            have HDE := hide (show dayE i (nth f.untils i) = if offP 0 60 (nth f.untils i) then 7 else 0 from rfl)
            generalize hvv : (nth f.untils i) = v at *
            have HVV := hide hvv
            clear hvv
            cases hof : offP 0 60 v with
            | true =>
              have hin : inB v 0 60 = false := by rw [inB_off, hof]; rfl
              have HX := hide (show C = (2, (i : Int), 7) by rw [HC1.out, if_neg (by simp [HUL.out]), failM_hit (f := dayE) HU4.out hlt HK.out (e := 7) (by rw [HVV.out, HDE.out, hof]; rfl) (by decide)]; rfl)
              clear hof
              go_wp2_with (go_at_call 45; refine (in_any _ _ _ _).mono ?_; rintro e w' ⟨rfl, rfl⟩; rw [hin])
              go_ret3
              exact ⟨by rw [HCC.out, HX.out]; rfl, HB1.out.trans (HB.out.mono HB1.out.size)⟩
            | false =>
              have hin : inB v 0 60 = true := by rw [inB_off, hof]; rfl
              have HNE := hide (show dayE i v = 0 by rw [HDE.out, hof]; rfl)
              clear hof
              go_wp2_with (go_at_call 45; refine (in_any _ _ _ _).mono ?_; rintro e w' ⟨rfl, rfl⟩; rw [hin])
              go_roundw
              case rel => exact ⟨i + 1, by omega, by go_num, hide (fun k hk => by
                rcases Nat.lt_or_ge k i with h1 | h1
                · exact HK.out k h1
                · rw [show k = i by omega, HVV.out]; exact HNE.out), HB.out⟩
              case measure => simp [intOf]; omega
          · obtain rfl : i = f.untils.length := by omega
            have hnot : ¬ (f.untils.length : Int) < (f.untils.length : Int) := by omega
            have HC2 := hide (show C = if (failM (lotE f) f.lots 4).2 ≠ 0 then (3, failM (lotE f) f.lots 4)
              else if (failM (paperE f) f.papers 5).2 ≠ 0 then (4, failM (paperE f) f.papers 5)
              else if (failM (claimE f) f.claims 5).2 ≠ 0 then (5, failM (claimE f) f.claims 5)
              else (0, 0, 0) by rw [HC1.out, if_neg (by simp [HUL.out]), failM_none HU4.out HK.out, if_neg (by simp)])
            clear HC1
            by_cases hlo : (4 : Int) < f.lots.length
            · have HX := hide (show C = (3, 0, 3) by rw [HC2.out, failM_long hlo]; rfl)
              go_wp2_with fail
              go_ret3
              exact ⟨by rw [HCC.out, HX.out]; rfl, HB1.out.trans (HB.out.mono HB1.out.size)⟩
            · have HL3 := hide (show (f.lots.length : Int) ≤ 4 by omega)
              have HB2 := hide (HB1.out.trans (HB.out.mono HB1.out.size))
              have HX_wb := hide (HBA.out.next HB.out)
              go_wp2_with fail
              obtain ⟨wb, rfl⟩ : ∃ wb : World, wb = wr := ⟨_, rfl⟩
              go_loopw [8] (fun v wr => ∃ i : Nat, i ≤ f.lots.length ∧ v = .int .i64 i ∧ Hid (∀ k, k < i → lotE f k (nth f.lots k) = 0) ∧ Below wb.heap.size wb wr) (fun v _ => f.lots.length - (intOf v).toNat)
              case atStart => exact ⟨0, Nat.zero_le _, rfl, hide (fun k hk => by omega), Below.refl _ _⟩
              case round =>
                clear HK hi0 hlt hi hnot
                obtain ⟨i, hi, rfl, HK, hB⟩ := hrel
                have hi0 : (0 : Int) ≤ (i : Int) := Int.natCast_nonneg _
                have q := (HX_wb.out.next hB)
                obtain ⟨hz, p0, p1, p2, p3, p4⟩ := q.cells
                have hzr := hB.size
                have HBR := hide q
                have HB := hide hB
                clear q hB
                by_cases hlt : i < f.lots.length
                · have hi1 : (i : Int) < (f.lots.length : Int) := by omega
                  obtain ⟨bl, ol, hA, hbl, y0, y1, y2, y3⟩ := HBR.out.v.lots.lots hlt
                  have HFV := hide (show fileVal f fa = .agg #[.slice fa.A1 f.parties.length fa.c1, .slice fa.A2 f.untils.length fa.c2, .slice (some ⟨bl, ol, none⟩) f.lots.length fa.c3, .slice fa.A4 f.papers.length fa.c4, .slice fa.A5 f.claims.length fa.c5] by rw [← hA])
                  rw [hA] at p2
                  clear hA
                  have HDE := hide (show lotE f i (nth f.lots i) = lotE f 0 (nth f.lots i) from rfl)
                  cases hpe : (lotE f 0 (nth f.lots i) != 0) with
                  | true =>
                    have hne : lotE f 0 (nth f.lots i) ≠ 0 := by simpa using hpe
                    have HX := hide (show C = (3, (i : Int), lotE f 0 (nth f.lots i)) by rw [HC2.out, failM_hit (f := lotE f) HL3.out hlt HK.out HDE.out hne, if_pos hne])
                    go_wp2_with fail
                    refine wp_region_rel (dst := fun oi => [72, 73, 74, 75, 76, 77, 78, 9].getD oi 0) (mono := fun oi => decide (oi < 8)) (pre := fun oi => decide (oi < 8)) (R := LKeep (fun _ => False) (fun _ => True))
                      (Pv := fun oi v W => match oi with
                        | 0 => v = .agg #[.slice fa.A1 f.parties.length fa.c1, .slice fa.A2 f.untils.length fa.c2, .slice (some ⟨bl, ol, none⟩) f.lots.length fa.c3, .slice fa.A4 f.papers.length fa.c4, .slice fa.A5 f.claims.length fa.c5]
                        | 1 => v = .pointer (some ⟨w.heap.size, 2, none⟩)
                        | 2 => v = .slice (some ⟨bl, ol, none⟩) f.lots.length fa.c3
                        | 3 => v = .int .i64 (i : Nat)
                        | 4 => v = .pointer (some ⟨bl, ol + i * 4, none⟩)
                        | 5 => v = .agg #[.slice (fa.R i) (nth f.lots i).route.length (fa.K i), .int .i64 (nth f.lots i).turned.lo, .int .i64 (nth f.lots i).turned.hi, .int .i64 (nth f.lots i).worth]
                        | 6 => v = .int .i64 (lotE f 0 (nth f.lots i))
                        | 7 => v = .int .i64 (lotE f 0 (nth f.lots i))
                        | _ => True) (by kernel_rfl) (by kernel_rfl) (LKeep.refl _ _) (fun _ _ _ h h' => h.trans h') ?hstX ?hstepX ?hendX
                    case hstX =>
                      intro oi v W W' h hk
                      match oi, h with
                      | 0, h => exact h
                      | 1, h => exact h
                      | 2, h => exact h
                      | 3, h => exact h
                      | 4, h => exact h
                      | 5, h => exact h
                      | 6, h => exact h
                      | 7, h => exact h
                      | oi + 8, h => exact trivial
                    case hstepX =>
                      intro oi hoi hom listed vs ao W hU hk0 hpv haft Ko hK
                      have hkk := (LKeep.drew (fun _ => False) (M := fun _ => True) wr (fun h => h)).trans hk0
                      have hk := hkk.1
                      have hkm := hkk.2
                      clear hkk
                      match oi, hoi, hom with
                      | 0, hoi, hom =>
                        have z1 : ao.tmps[1]?.getD undef = .pointer (some ⟨w.heap.size, 0, none⟩) := hU.same 1 (by decide)
                        have y0 := (hk.cell (b := w.heap.size) (o := 0) (by omega) (fun h => h)).trans (p0)
                        have y1 := (hk.cell (b := w.heap.size) (o := 1) (by omega) (fun h => h)).trans (p1)
                        have y2 := (hk.cell (b := w.heap.size) (o := 2) (by omega) (fun h => h)).trans (p2)
                        have y3 := (hk.cell (b := w.heap.size) (o := 3) (by omega) (fun h => h)).trans (p3)
                        have y4 := (hk.cell (b := w.heap.size) (o := 4) (by omega) (fun h => h)).trans (p4)
                        refine wpOp_value (v := .agg #[.slice fa.A1 f.parties.length fa.c1, .slice fa.A2 f.untils.length fa.c2, .slice (some ⟨bl, ol, none⟩) f.lots.length fa.c3, .slice fa.A4 f.papers.length fa.c4, .slice fa.A5 f.claims.length fa.c5]) (W' := W) rfl rfl ?_ (hK _ _ (LKeep.refl _ _ _) rfl)
                        go_simp
                      | 1, hoi, hom =>
                        have z1 : ao.tmps[1]?.getD undef = .pointer (some ⟨w.heap.size, 0, none⟩) := hU.same 1 (by decide)
                        refine wpOp_value (v := .pointer (some ⟨w.heap.size, 2, none⟩)) (W' := W) rfl rfl ?_ (hK _ _ (LKeep.refl _ _ _) rfl)
                        go_simp
                      | 2, hoi, hom =>
                        have l1 := haft _ rfl { on := 1, ground := .data } (by simp) rfl
                        have hv1 : vs 1 = .pointer (some ⟨w.heap.size, 2, none⟩) := hpv 1 l1
                        have s1 : ao.tmps[73]?.getD undef = vs 1 := hU.slot 1 (by decide) l1
                        rw [hv1] at s1
                        have y0 := (hk.cell (b := w.heap.size) (o := 2) (by omega) (fun h => h)).trans (p2)
                        refine wpOp_value (v := .slice (some ⟨bl, ol, none⟩) f.lots.length fa.c3) (W' := W) rfl rfl ?_ (hK _ _ (LKeep.refl _ _ _) rfl)
                        go_simp
                      | 3, hoi, hom =>
                        have z8 : ao.tmps[8]?.getD undef = .int .i64 (i : Nat) := hU.same 8 (by decide)
                        refine wpOp_value (v := .int .i64 (i : Nat)) (W' := W) rfl rfl ?_ (hK _ _ (LKeep.refl _ _ _) rfl)
                        go_simp
                      | 4, hoi, hom =>
                        have l2 := haft _ rfl { on := 2, ground := .data } (by simp) rfl
                        have hv2 : vs 2 = .slice (some ⟨bl, ol, none⟩) f.lots.length fa.c3 := hpv 2 l2
                        have s2 : ao.tmps[74]?.getD undef = vs 2 := hU.slot 2 (by decide) l2
                        rw [hv2] at s2
                        have l3 := haft _ rfl { on := 3, ground := .data } (by simp) rfl
                        have hv3 : vs 3 = .int .i64 (i : Nat) := hpv 3 l3
                        have s3 : ao.tmps[75]?.getD undef = vs 3 := hU.slot 3 (by decide) l3
                        rw [hv3] at s3
                        refine wpOp_value (v := .pointer (some ⟨bl, ol + i * 4, none⟩)) (W' := W) rfl rfl ?_ (hK _ _ (LKeep.refl _ _ _) rfl)
                        go_simp
                      | 5, hoi, hom =>
                        have l4 := haft _ rfl { on := 4, ground := .data } (by simp) rfl
                        have hv4 : vs 4 = .pointer (some ⟨bl, ol + i * 4, none⟩) := hpv 4 l4
                        have s4 : ao.tmps[76]?.getD undef = vs 4 := hU.slot 4 (by decide) l4
                        rw [hv4] at s4
                        have y0 := (hk.cell (b := bl) (o := ol + i * 4) (by omega) (fun h => h)).trans (y0)
                        have y1 := (hk.cell (b := bl) (o := ol + i * 4 + 1) (by omega) (fun h => h)).trans (y1)
                        have y2 := (hk.cell (b := bl) (o := ol + i * 4 + 2) (by omega) (fun h => h)).trans (y2)
                        have y3 := (hk.cell (b := bl) (o := ol + i * 4 + 3) (by omega) (fun h => h)).trans (y3)
                        refine wpOp_value (v := .agg #[.slice (fa.R i) (nth f.lots i).route.length (fa.K i), .int .i64 (nth f.lots i).turned.lo, .int .i64 (nth f.lots i).turned.hi, .int .i64 (nth f.lots i).worth]) (W' := W) rfl rfl ?_ (hK _ _ (LKeep.refl _ _ _) rfl)
                        go_simp
                      | 6, hoi, hom =>
                        have l0 := haft _ rfl { on := 0, ground := .data } (by simp) rfl
                        have hv0 : vs 0 = .agg #[.slice fa.A1 f.parties.length fa.c1, .slice fa.A2 f.untils.length fa.c2, .slice (some ⟨bl, ol, none⟩) f.lots.length fa.c3, .slice fa.A4 f.papers.length fa.c4, .slice fa.A5 f.claims.length fa.c5] := hpv 0 l0
                        have s0 : ao.tmps[72]?.getD undef = vs 0 := hU.slot 0 (by decide) l0
                        rw [hv0] at s0
                        have l5 := haft _ rfl { on := 5, ground := .data } (by simp) rfl
                        have hv5 : vs 5 = .agg #[.slice (fa.R i) (nth f.lots i).route.length (fa.K i), .int .i64 (nth f.lots i).turned.lo, .int .i64 (nth f.lots i).turned.hi, .int .i64 (nth f.lots i).worth] := hpv 5 l5
                        have s5 : ao.tmps[77]?.getD undef = vs 5 := hU.slot 5 (by decide) l5
                        rw [hv5] at s5
                        have hbq := hk.below (B := wr.heap.size) (fun k h => h.elim) (Nat.le_refl _)
                        have hFW := HBR.out.v.next hbq
                        have hIW := (HBR.out.v.routes i hlt).next hbq
                        have hcall := lot7_any hFW (nth f.lots i) hIW
                        rw [HFV.out] at hcall
                        refine wpOp_enter (f := 46) (args := #[.agg #[.slice fa.A1 f.parties.length fa.c1, .slice fa.A2 f.untils.length fa.c2, .slice (some ⟨bl, ol, none⟩) f.lots.length fa.c3, .slice fa.A4 f.papers.length fa.c4, .slice fa.A5 f.claims.length fa.c5], .agg #[.slice (fa.R i) (nth f.lots i).route.length (fa.K i), .int .i64 (nth f.lots i).turned.lo, .int .i64 (nth f.lots i).turned.hi, .int .i64 (nth f.lots i).worth]]) (W' := W) rfl rfl ?_ ((hcall).mono (fun e w'' h => ?_))
                        · go_simp
                        · obtain ⟨he, hbw⟩ := h
                          exact ⟨_, he, hK _ _ (LKeep.below hbw (fun h => h)) rfl⟩
                      | 7, hoi, hom =>
                        have l6 := haft _ rfl { on := 6, ground := .data } (by simp) rfl
                        have hv6 : vs 6 = .int .i64 (lotE f 0 (nth f.lots i)) := hpv 6 l6
                        have s6 : ao.tmps[78]?.getD undef = vs 6 := hU.slot 6 (by decide) l6
                        rw [hv6] at s6
                        refine wpOp_value (v := .int .i64 (lotE f 0 (nth f.lots i))) (W' := W) rfl rfl ?_ (hK _ _ (LKeep.refl _ _ _) rfl)
                        go_simp
                      | oi + 8, hoi, hom => exact absurd (of_decide_eq_true hom) (by omega)
                    case hendX =>
                      intro listed vs ao W hG hk0 hpv hpre
                      have hkk := (LKeep.drew (fun _ => False) (M := fun _ => True) wr (fun h => h)).trans hk0
                      have hk := hkk.1
                      have hkm := hkk.2
                      clear hkk
                      have hact := hG.act
                      have hT := hG.lst hpre 0 #[true, true, true, true, true, true, true, true] rfl (by kernel_rfl) (hpre 0 (by decide) (by decide))
                      rw [hG.ix hT (l := [0, 1, 2, 3, 4, 5, 6, 7]) (by kernel_rfl)] at hact
                      rw [hG.lo hT (k := 0) (by kernel_rfl)]
                      have hv0 : vs 0 = .agg #[.slice fa.A1 f.parties.length fa.c1, .slice fa.A2 f.untils.length fa.c2, .slice (some ⟨bl, ol, none⟩) f.lots.length fa.c3, .slice fa.A4 f.papers.length fa.c4, .slice fa.A5 f.claims.length fa.c5] := hpv 0 (hpre 0 (by decide) (by decide))
                      have hv1 : vs 1 = .pointer (some ⟨w.heap.size, 2, none⟩) := hpv 1 (hpre 1 (by decide) (by decide))
                      have hv2 : vs 2 = .slice (some ⟨bl, ol, none⟩) f.lots.length fa.c3 := hpv 2 (hpre 2 (by decide) (by decide))
                      have hv3 : vs 3 = .int .i64 (i : Nat) := hpv 3 (hpre 3 (by decide) (by decide))
                      have hv4 : vs 4 = .pointer (some ⟨bl, ol + i * 4, none⟩) := hpv 4 (hpre 4 (by decide) (by decide))
                      have hv5 : vs 5 = .agg #[.slice (fa.R i) (nth f.lots i).route.length (fa.K i), .int .i64 (nth f.lots i).turned.lo, .int .i64 (nth f.lots i).turned.hi, .int .i64 (nth f.lots i).worth] := hpv 5 (hpre 5 (by decide) (by decide))
                      have hv6 : vs 6 = .int .i64 (lotE f 0 (nth f.lots i)) := hpv 6 (hpre 6 (by decide) (by decide))
                      have hv7 : vs 7 = .int .i64 (lotE f 0 (nth f.lots i)) := hpv 7 (hpre 7 (by decide) (by decide))
                      clear hpv hpre hG hk0
                      obtain rfl : ao = _ := hact
                      subst hT
                      simp only [setAll, List.setIfInBounds_toArray, List.set_cons_succ, List.set_cons_zero, List.getD_cons_succ, List.getD_cons_zero]
                      simp only [hv0, hv1, hv2, hv3, hv4, hv5, hv6, hv7]
                      clear hv0 hv1 hv2 hv3 hv4 hv5 hv6 hv7
                      refine wpAny_done (by kernel_rfl) ?_ _
                      have hbz := hk.below (B := wr.heap.size) (fun k h => h.elim) (Nat.le_refl _)
                      have HBZ := hide (HB.out.trans (hbz.mono HB.out.size))
                      clear hk hkm hbz y0 y1 y2 y3 p0 p1 p2 p3 p4
                      go_wp2_with fail
                      go_ret3
                      exact ⟨by rw [HCC.out, HX.out]; rfl, HB2.out.trans (HBZ.out.mono HB2.out.size)⟩
                  | false =>
                    have HNE := hide (HDE.out.trans (by simpa using hpe))
                    go_wp2_with fail
                    refine wp_region_rel (dst := fun oi => [72, 73, 74, 75, 76, 77, 78, 9].getD oi 0) (mono := fun oi => decide (oi < 8)) (pre := fun oi => decide (oi < 8)) (R := LKeep (fun _ => False) (fun _ => True))
                      (Pv := fun oi v W => match oi with
                        | 0 => v = .agg #[.slice fa.A1 f.parties.length fa.c1, .slice fa.A2 f.untils.length fa.c2, .slice (some ⟨bl, ol, none⟩) f.lots.length fa.c3, .slice fa.A4 f.papers.length fa.c4, .slice fa.A5 f.claims.length fa.c5]
                        | 1 => v = .pointer (some ⟨w.heap.size, 2, none⟩)
                        | 2 => v = .slice (some ⟨bl, ol, none⟩) f.lots.length fa.c3
                        | 3 => v = .int .i64 (i : Nat)
                        | 4 => v = .pointer (some ⟨bl, ol + i * 4, none⟩)
                        | 5 => v = .agg #[.slice (fa.R i) (nth f.lots i).route.length (fa.K i), .int .i64 (nth f.lots i).turned.lo, .int .i64 (nth f.lots i).turned.hi, .int .i64 (nth f.lots i).worth]
                        | 6 => v = .int .i64 (lotE f 0 (nth f.lots i))
                        | 7 => v = .int .i64 (lotE f 0 (nth f.lots i))
                        | _ => True) (by kernel_rfl) (by kernel_rfl) (LKeep.refl _ _) (fun _ _ _ h h' => h.trans h') ?hstX ?hstepX ?hendX
                    case hstX =>
                      intro oi v W W' h hk
                      match oi, h with
                      | 0, h => exact h
                      | 1, h => exact h
                      | 2, h => exact h
                      | 3, h => exact h
                      | 4, h => exact h
                      | 5, h => exact h
                      | 6, h => exact h
                      | 7, h => exact h
                      | oi + 8, h => exact trivial
                    case hstepX =>
                      intro oi hoi hom listed vs ao W hU hk0 hpv haft Ko hK
                      have hkk := (LKeep.drew (fun _ => False) (M := fun _ => True) wr (fun h => h)).trans hk0
                      have hk := hkk.1
                      have hkm := hkk.2
                      clear hkk
                      match oi, hoi, hom with
                      | 0, hoi, hom =>
                        have z1 : ao.tmps[1]?.getD undef = .pointer (some ⟨w.heap.size, 0, none⟩) := hU.same 1 (by decide)
                        have y0 := (hk.cell (b := w.heap.size) (o := 0) (by omega) (fun h => h)).trans (p0)
                        have y1 := (hk.cell (b := w.heap.size) (o := 1) (by omega) (fun h => h)).trans (p1)
                        have y2 := (hk.cell (b := w.heap.size) (o := 2) (by omega) (fun h => h)).trans (p2)
                        have y3 := (hk.cell (b := w.heap.size) (o := 3) (by omega) (fun h => h)).trans (p3)
                        have y4 := (hk.cell (b := w.heap.size) (o := 4) (by omega) (fun h => h)).trans (p4)
                        refine wpOp_value (v := .agg #[.slice fa.A1 f.parties.length fa.c1, .slice fa.A2 f.untils.length fa.c2, .slice (some ⟨bl, ol, none⟩) f.lots.length fa.c3, .slice fa.A4 f.papers.length fa.c4, .slice fa.A5 f.claims.length fa.c5]) (W' := W) rfl rfl ?_ (hK _ _ (LKeep.refl _ _ _) rfl)
                        go_simp
                      | 1, hoi, hom =>
                        have z1 : ao.tmps[1]?.getD undef = .pointer (some ⟨w.heap.size, 0, none⟩) := hU.same 1 (by decide)
                        refine wpOp_value (v := .pointer (some ⟨w.heap.size, 2, none⟩)) (W' := W) rfl rfl ?_ (hK _ _ (LKeep.refl _ _ _) rfl)
                        go_simp
                      | 2, hoi, hom =>
                        have l1 := haft _ rfl { on := 1, ground := .data } (by simp) rfl
                        have hv1 : vs 1 = .pointer (some ⟨w.heap.size, 2, none⟩) := hpv 1 l1
                        have s1 : ao.tmps[73]?.getD undef = vs 1 := hU.slot 1 (by decide) l1
                        rw [hv1] at s1
                        have y0 := (hk.cell (b := w.heap.size) (o := 2) (by omega) (fun h => h)).trans (p2)
                        refine wpOp_value (v := .slice (some ⟨bl, ol, none⟩) f.lots.length fa.c3) (W' := W) rfl rfl ?_ (hK _ _ (LKeep.refl _ _ _) rfl)
                        go_simp
                      | 3, hoi, hom =>
                        have z8 : ao.tmps[8]?.getD undef = .int .i64 (i : Nat) := hU.same 8 (by decide)
                        refine wpOp_value (v := .int .i64 (i : Nat)) (W' := W) rfl rfl ?_ (hK _ _ (LKeep.refl _ _ _) rfl)
                        go_simp
                      | 4, hoi, hom =>
                        have l2 := haft _ rfl { on := 2, ground := .data } (by simp) rfl
                        have hv2 : vs 2 = .slice (some ⟨bl, ol, none⟩) f.lots.length fa.c3 := hpv 2 l2
                        have s2 : ao.tmps[74]?.getD undef = vs 2 := hU.slot 2 (by decide) l2
                        rw [hv2] at s2
                        have l3 := haft _ rfl { on := 3, ground := .data } (by simp) rfl
                        have hv3 : vs 3 = .int .i64 (i : Nat) := hpv 3 l3
                        have s3 : ao.tmps[75]?.getD undef = vs 3 := hU.slot 3 (by decide) l3
                        rw [hv3] at s3
                        refine wpOp_value (v := .pointer (some ⟨bl, ol + i * 4, none⟩)) (W' := W) rfl rfl ?_ (hK _ _ (LKeep.refl _ _ _) rfl)
                        go_simp
                      | 5, hoi, hom =>
                        have l4 := haft _ rfl { on := 4, ground := .data } (by simp) rfl
                        have hv4 : vs 4 = .pointer (some ⟨bl, ol + i * 4, none⟩) := hpv 4 l4
                        have s4 : ao.tmps[76]?.getD undef = vs 4 := hU.slot 4 (by decide) l4
                        rw [hv4] at s4
                        have y0 := (hk.cell (b := bl) (o := ol + i * 4) (by omega) (fun h => h)).trans (y0)
                        have y1 := (hk.cell (b := bl) (o := ol + i * 4 + 1) (by omega) (fun h => h)).trans (y1)
                        have y2 := (hk.cell (b := bl) (o := ol + i * 4 + 2) (by omega) (fun h => h)).trans (y2)
                        have y3 := (hk.cell (b := bl) (o := ol + i * 4 + 3) (by omega) (fun h => h)).trans (y3)
                        refine wpOp_value (v := .agg #[.slice (fa.R i) (nth f.lots i).route.length (fa.K i), .int .i64 (nth f.lots i).turned.lo, .int .i64 (nth f.lots i).turned.hi, .int .i64 (nth f.lots i).worth]) (W' := W) rfl rfl ?_ (hK _ _ (LKeep.refl _ _ _) rfl)
                        go_simp
                      | 6, hoi, hom =>
                        have l0 := haft _ rfl { on := 0, ground := .data } (by simp) rfl
                        have hv0 : vs 0 = .agg #[.slice fa.A1 f.parties.length fa.c1, .slice fa.A2 f.untils.length fa.c2, .slice (some ⟨bl, ol, none⟩) f.lots.length fa.c3, .slice fa.A4 f.papers.length fa.c4, .slice fa.A5 f.claims.length fa.c5] := hpv 0 l0
                        have s0 : ao.tmps[72]?.getD undef = vs 0 := hU.slot 0 (by decide) l0
                        rw [hv0] at s0
                        have l5 := haft _ rfl { on := 5, ground := .data } (by simp) rfl
                        have hv5 : vs 5 = .agg #[.slice (fa.R i) (nth f.lots i).route.length (fa.K i), .int .i64 (nth f.lots i).turned.lo, .int .i64 (nth f.lots i).turned.hi, .int .i64 (nth f.lots i).worth] := hpv 5 l5
                        have s5 : ao.tmps[77]?.getD undef = vs 5 := hU.slot 5 (by decide) l5
                        rw [hv5] at s5
                        have hbq := hk.below (B := wr.heap.size) (fun k h => h.elim) (Nat.le_refl _)
                        have hFW := HBR.out.v.next hbq
                        have hIW := (HBR.out.v.routes i hlt).next hbq
                        have hcall := lot7_any hFW (nth f.lots i) hIW
                        rw [HFV.out] at hcall
                        refine wpOp_enter (f := 46) (args := #[.agg #[.slice fa.A1 f.parties.length fa.c1, .slice fa.A2 f.untils.length fa.c2, .slice (some ⟨bl, ol, none⟩) f.lots.length fa.c3, .slice fa.A4 f.papers.length fa.c4, .slice fa.A5 f.claims.length fa.c5], .agg #[.slice (fa.R i) (nth f.lots i).route.length (fa.K i), .int .i64 (nth f.lots i).turned.lo, .int .i64 (nth f.lots i).turned.hi, .int .i64 (nth f.lots i).worth]]) (W' := W) rfl rfl ?_ ((hcall).mono (fun e w'' h => ?_))
                        · go_simp
                        · obtain ⟨he, hbw⟩ := h
                          exact ⟨_, he, hK _ _ (LKeep.below hbw (fun h => h)) rfl⟩
                      | 7, hoi, hom =>
                        have l6 := haft _ rfl { on := 6, ground := .data } (by simp) rfl
                        have hv6 : vs 6 = .int .i64 (lotE f 0 (nth f.lots i)) := hpv 6 l6
                        have s6 : ao.tmps[78]?.getD undef = vs 6 := hU.slot 6 (by decide) l6
                        rw [hv6] at s6
                        refine wpOp_value (v := .int .i64 (lotE f 0 (nth f.lots i))) (W' := W) rfl rfl ?_ (hK _ _ (LKeep.refl _ _ _) rfl)
                        go_simp
                      | oi + 8, hoi, hom => exact absurd (of_decide_eq_true hom) (by omega)
                    case hendX =>
                      intro listed vs ao W hG hk0 hpv hpre
                      have hkk := (LKeep.drew (fun _ => False) (M := fun _ => True) wr (fun h => h)).trans hk0
                      have hk := hkk.1
                      have hkm := hkk.2
                      clear hkk
                      have hact := hG.act
                      have hT := hG.lst hpre 0 #[true, true, true, true, true, true, true, true] rfl (by kernel_rfl) (hpre 0 (by decide) (by decide))
                      rw [hG.ix hT (l := [0, 1, 2, 3, 4, 5, 6, 7]) (by kernel_rfl)] at hact
                      rw [hG.lo hT (k := 0) (by kernel_rfl)]
                      have hv0 : vs 0 = .agg #[.slice fa.A1 f.parties.length fa.c1, .slice fa.A2 f.untils.length fa.c2, .slice (some ⟨bl, ol, none⟩) f.lots.length fa.c3, .slice fa.A4 f.papers.length fa.c4, .slice fa.A5 f.claims.length fa.c5] := hpv 0 (hpre 0 (by decide) (by decide))
                      have hv1 : vs 1 = .pointer (some ⟨w.heap.size, 2, none⟩) := hpv 1 (hpre 1 (by decide) (by decide))
                      have hv2 : vs 2 = .slice (some ⟨bl, ol, none⟩) f.lots.length fa.c3 := hpv 2 (hpre 2 (by decide) (by decide))
                      have hv3 : vs 3 = .int .i64 (i : Nat) := hpv 3 (hpre 3 (by decide) (by decide))
                      have hv4 : vs 4 = .pointer (some ⟨bl, ol + i * 4, none⟩) := hpv 4 (hpre 4 (by decide) (by decide))
                      have hv5 : vs 5 = .agg #[.slice (fa.R i) (nth f.lots i).route.length (fa.K i), .int .i64 (nth f.lots i).turned.lo, .int .i64 (nth f.lots i).turned.hi, .int .i64 (nth f.lots i).worth] := hpv 5 (hpre 5 (by decide) (by decide))
                      have hv6 : vs 6 = .int .i64 (lotE f 0 (nth f.lots i)) := hpv 6 (hpre 6 (by decide) (by decide))
                      have hv7 : vs 7 = .int .i64 (lotE f 0 (nth f.lots i)) := hpv 7 (hpre 7 (by decide) (by decide))
                      clear hpv hpre hG hk0
                      obtain rfl : ao = _ := hact
                      subst hT
                      simp only [setAll, List.setIfInBounds_toArray, List.set_cons_succ, List.set_cons_zero, List.getD_cons_succ, List.getD_cons_zero]
                      simp only [hv0, hv1, hv2, hv3, hv4, hv5, hv6, hv7]
                      clear hv0 hv1 hv2 hv3 hv4 hv5 hv6 hv7
                      refine wpAny_done (by kernel_rfl) ?_ _
                      have hbz := hk.below (B := wr.heap.size) (fun k h => h.elim) (Nat.le_refl _)
                      have HBZ := hide (HB.out.trans (hbz.mono HB.out.size))
                      clear hk hkm hbz y0 y1 y2 y3 p0 p1 p2 p3 p4
                      go_wp2_with fail
                      go_roundw
                      case rel => exact ⟨i + 1, by omega, by go_num, hide (fun k hk => by
                        rcases Nat.lt_or_ge k i with h1 | h1
                        · exact HK.out k h1
                        · rw [show k = i by omega]; exact HNE.out), HBZ.out⟩
                      case measure => simp [intOf]; omega
                · obtain rfl : i = f.lots.length := by omega
                  have hnot : ¬ (f.lots.length : Int) < (f.lots.length : Int) := by omega
                  have HC3 := hide (show C = if (failM (paperE f) f.papers 5).2 ≠ 0 then (4, failM (paperE f) f.papers 5) else if (failM (claimE f) f.claims 5).2 ≠ 0 then (5, failM (claimE f) f.claims 5) else (0, 0, 0) by rw [HC2.out, failM_none HL3.out HK.out, if_neg (by simp)])
                  clear HC2
                  by_cases hlo : (5 : Int) < f.papers.length
                  · have HX := hide (show C = (4, 0, 3) by rw [HC3.out, failM_long hlo]; rfl)
                    go_wp2_with fail
                    go_ret3
                    exact ⟨by rw [HCC.out, HX.out]; rfl, HB2.out.trans (HB.out.mono HB2.out.size)⟩
                  · have HL4 := hide (show (f.papers.length : Int) ≤ 5 by omega)
                    have HB3 := hide (HB2.out.trans (HB.out.mono HB2.out.size))
                    have HX_wc := hide HBR.out
                    go_wp2_with fail
                    obtain ⟨wc, rfl⟩ : ∃ wc : World, wc = wr := ⟨_, rfl⟩
                    go_loopw [10] (fun v wr => ∃ i : Nat, i ≤ f.papers.length ∧ v = .int .i64 i ∧ Hid (∀ k, k < i → paperE f k (nth f.papers k) = 0) ∧ Below wc.heap.size wc wr) (fun v _ => f.papers.length - (intOf v).toNat)
                    case atStart => exact ⟨0, Nat.zero_le _, rfl, hide (fun k hk => by omega), Below.refl _ _⟩
                    case round =>
                      clear HK hi0 hlt hi hnot
                      obtain ⟨i, hi, rfl, HK, hB⟩ := hrel
                      have hi0 : (0 : Int) ≤ (i : Int) := Int.natCast_nonneg _
                      have q := (HX_wc.out.next hB)
                      obtain ⟨hz, p0, p1, p2, p3, p4⟩ := q.cells
                      have hzr := hB.size
                      have HBR := hide q
                      have HB := hide hB
                      clear q hB
                      by_cases hlt : i < f.papers.length
                      · have hi1 : (i : Int) < (f.papers.length : Int) := by omega
                        obtain ⟨bl, ol, hA, hbl, y0, y1, y2⟩ := HBR.out.v.papers.papers hlt
                        have HFV := hide (show fileVal f fa = .agg #[.slice fa.A1 f.parties.length fa.c1, .slice fa.A2 f.untils.length fa.c2, .slice fa.A3 f.lots.length fa.c3, .slice (some ⟨bl, ol, none⟩) f.papers.length fa.c4, .slice fa.A5 f.claims.length fa.c5] by rw [← hA])
                        rw [hA] at p3
                        clear hA
                        have HDE := hide (show paperE f i (nth f.papers i) = paperE f 0 (nth f.papers i) from rfl)
                        cases hpe : (paperE f 0 (nth f.papers i) != 0) with
                        | true =>
                          have hne : paperE f 0 (nth f.papers i) ≠ 0 := by simpa using hpe
                          have HX := hide (show C = (4, (i : Int), paperE f 0 (nth f.papers i)) by rw [HC3.out, failM_hit (f := paperE f) HL4.out hlt HK.out HDE.out hne, if_pos hne])
                          go_wp2_with fail
                          refine wp_region_rel (dst := fun oi => [94, 95, 96, 97, 98, 99, 100, 11].getD oi 0) (mono := fun oi => decide (oi < 8)) (pre := fun oi => decide (oi < 8)) (R := LKeep (fun _ => False) (fun _ => True))
                            (Pv := fun oi v W => match oi with
                              | 0 => v = .agg #[.slice fa.A1 f.parties.length fa.c1, .slice fa.A2 f.untils.length fa.c2, .slice fa.A3 f.lots.length fa.c3, .slice (some ⟨bl, ol, none⟩) f.papers.length fa.c4, .slice fa.A5 f.claims.length fa.c5]
                              | 1 => v = .pointer (some ⟨w.heap.size, 3, none⟩)
                              | 2 => v = .slice (some ⟨bl, ol, none⟩) f.papers.length fa.c4
                              | 3 => v = .int .i64 (i : Nat)
                              | 4 => v = .pointer (some ⟨bl, ol + i * 3, none⟩)
                              | 5 => v = .agg #[.int .i64 (nth f.papers i).says, .int .i64 (nth f.papers i).lot, .int .i64 (nth f.papers i).of_]
                              | 6 => v = .int .i64 (paperE f 0 (nth f.papers i))
                              | 7 => v = .int .i64 (paperE f 0 (nth f.papers i))
                              | _ => True) (by kernel_rfl) (by kernel_rfl) (LKeep.refl _ _) (fun _ _ _ h h' => h.trans h') ?hstX ?hstepX ?hendX
                          case hstX =>
                            intro oi v W W' h hk
                            match oi, h with
                            | 0, h => exact h
                            | 1, h => exact h
                            | 2, h => exact h
                            | 3, h => exact h
                            | 4, h => exact h
                            | 5, h => exact h
                            | 6, h => exact h
                            | 7, h => exact h
                            | oi + 8, h => exact trivial
                          case hstepX =>
                            intro oi hoi hom listed vs ao W hU hk0 hpv haft Ko hK
                            have hkk := (LKeep.drew (fun _ => False) (M := fun _ => True) wr (fun h => h)).trans hk0
                            have hk := hkk.1
                            have hkm := hkk.2
                            clear hkk
                            match oi, hoi, hom with
                            | 0, hoi, hom =>
                              have z1 : ao.tmps[1]?.getD undef = .pointer (some ⟨w.heap.size, 0, none⟩) := hU.same 1 (by decide)
                              have y0 := (hk.cell (b := w.heap.size) (o := 0) (by omega) (fun h => h)).trans (p0)
                              have y1 := (hk.cell (b := w.heap.size) (o := 1) (by omega) (fun h => h)).trans (p1)
                              have y2 := (hk.cell (b := w.heap.size) (o := 2) (by omega) (fun h => h)).trans (p2)
                              have y3 := (hk.cell (b := w.heap.size) (o := 3) (by omega) (fun h => h)).trans (p3)
                              have y4 := (hk.cell (b := w.heap.size) (o := 4) (by omega) (fun h => h)).trans (p4)
                              refine wpOp_value (v := .agg #[.slice fa.A1 f.parties.length fa.c1, .slice fa.A2 f.untils.length fa.c2, .slice fa.A3 f.lots.length fa.c3, .slice (some ⟨bl, ol, none⟩) f.papers.length fa.c4, .slice fa.A5 f.claims.length fa.c5]) (W' := W) rfl rfl ?_ (hK _ _ (LKeep.refl _ _ _) rfl)
                              go_simp
                            | 1, hoi, hom =>
                              have z1 : ao.tmps[1]?.getD undef = .pointer (some ⟨w.heap.size, 0, none⟩) := hU.same 1 (by decide)
                              refine wpOp_value (v := .pointer (some ⟨w.heap.size, 3, none⟩)) (W' := W) rfl rfl ?_ (hK _ _ (LKeep.refl _ _ _) rfl)
                              go_simp
                            | 2, hoi, hom =>
                              have l1 := haft _ rfl { on := 1, ground := .data } (by simp) rfl
                              have hv1 : vs 1 = .pointer (some ⟨w.heap.size, 3, none⟩) := hpv 1 l1
                              have s1 : ao.tmps[95]?.getD undef = vs 1 := hU.slot 1 (by decide) l1
                              rw [hv1] at s1
                              have y0 := (hk.cell (b := w.heap.size) (o := 3) (by omega) (fun h => h)).trans (p3)
                              refine wpOp_value (v := .slice (some ⟨bl, ol, none⟩) f.papers.length fa.c4) (W' := W) rfl rfl ?_ (hK _ _ (LKeep.refl _ _ _) rfl)
                              go_simp
                            | 3, hoi, hom =>
                              have z10 : ao.tmps[10]?.getD undef = .int .i64 (i : Nat) := hU.same 10 (by decide)
                              refine wpOp_value (v := .int .i64 (i : Nat)) (W' := W) rfl rfl ?_ (hK _ _ (LKeep.refl _ _ _) rfl)
                              go_simp
                            | 4, hoi, hom =>
                              have l2 := haft _ rfl { on := 2, ground := .data } (by simp) rfl
                              have hv2 : vs 2 = .slice (some ⟨bl, ol, none⟩) f.papers.length fa.c4 := hpv 2 l2
                              have s2 : ao.tmps[96]?.getD undef = vs 2 := hU.slot 2 (by decide) l2
                              rw [hv2] at s2
                              have l3 := haft _ rfl { on := 3, ground := .data } (by simp) rfl
                              have hv3 : vs 3 = .int .i64 (i : Nat) := hpv 3 l3
                              have s3 : ao.tmps[97]?.getD undef = vs 3 := hU.slot 3 (by decide) l3
                              rw [hv3] at s3
                              refine wpOp_value (v := .pointer (some ⟨bl, ol + i * 3, none⟩)) (W' := W) rfl rfl ?_ (hK _ _ (LKeep.refl _ _ _) rfl)
                              go_simp
                            | 5, hoi, hom =>
                              have l4 := haft _ rfl { on := 4, ground := .data } (by simp) rfl
                              have hv4 : vs 4 = .pointer (some ⟨bl, ol + i * 3, none⟩) := hpv 4 l4
                              have s4 : ao.tmps[98]?.getD undef = vs 4 := hU.slot 4 (by decide) l4
                              rw [hv4] at s4
                              have y0 := (hk.cell (b := bl) (o := ol + i * 3) (by omega) (fun h => h)).trans (y0)
                              have y1 := (hk.cell (b := bl) (o := ol + i * 3 + 1) (by omega) (fun h => h)).trans (y1)
                              have y2 := (hk.cell (b := bl) (o := ol + i * 3 + 2) (by omega) (fun h => h)).trans (y2)
                              refine wpOp_value (v := .agg #[.int .i64 (nth f.papers i).says, .int .i64 (nth f.papers i).lot, .int .i64 (nth f.papers i).of_]) (W' := W) rfl rfl ?_ (hK _ _ (LKeep.refl _ _ _) rfl)
                              go_simp
                            | 6, hoi, hom =>
                              have l0 := haft _ rfl { on := 0, ground := .data } (by simp) rfl
                              have hv0 : vs 0 = .agg #[.slice fa.A1 f.parties.length fa.c1, .slice fa.A2 f.untils.length fa.c2, .slice fa.A3 f.lots.length fa.c3, .slice (some ⟨bl, ol, none⟩) f.papers.length fa.c4, .slice fa.A5 f.claims.length fa.c5] := hpv 0 l0
                              have s0 : ao.tmps[94]?.getD undef = vs 0 := hU.slot 0 (by decide) l0
                              rw [hv0] at s0
                              have l5 := haft _ rfl { on := 5, ground := .data } (by simp) rfl
                              have hv5 : vs 5 = .agg #[.int .i64 (nth f.papers i).says, .int .i64 (nth f.papers i).lot, .int .i64 (nth f.papers i).of_] := hpv 5 l5
                              have s5 : ao.tmps[99]?.getD undef = vs 5 := hU.slot 5 (by decide) l5
                              rw [hv5] at s5
                              have hbq := hk.below (B := wr.heap.size) (fun k h => h.elim) (Nat.le_refl _)
                              have hFW := HBR.out.v.next hbq
                              have hcall := paper7_any hFW (nth f.papers i)
                              rw [HFV.out] at hcall
                              refine wpOp_enter (f := 47) (args := #[.agg #[.slice fa.A1 f.parties.length fa.c1, .slice fa.A2 f.untils.length fa.c2, .slice fa.A3 f.lots.length fa.c3, .slice (some ⟨bl, ol, none⟩) f.papers.length fa.c4, .slice fa.A5 f.claims.length fa.c5], .agg #[.int .i64 (nth f.papers i).says, .int .i64 (nth f.papers i).lot, .int .i64 (nth f.papers i).of_]]) (W' := W) rfl rfl ?_ ((hcall).mono (fun e w'' h => ?_))
                              · go_simp
                              · obtain ⟨he, hbw⟩ := h
                                exact ⟨_, he, hK _ _ (LKeep.below hbw (fun h => h)) rfl⟩
                            | 7, hoi, hom =>
                              have l6 := haft _ rfl { on := 6, ground := .data } (by simp) rfl
                              have hv6 : vs 6 = .int .i64 (paperE f 0 (nth f.papers i)) := hpv 6 l6
                              have s6 : ao.tmps[100]?.getD undef = vs 6 := hU.slot 6 (by decide) l6
                              rw [hv6] at s6
                              refine wpOp_value (v := .int .i64 (paperE f 0 (nth f.papers i))) (W' := W) rfl rfl ?_ (hK _ _ (LKeep.refl _ _ _) rfl)
                              go_simp
                            | oi + 8, hoi, hom => exact absurd (of_decide_eq_true hom) (by omega)
                          case hendX =>
                            intro listed vs ao W hG hk0 hpv hpre
                            have hkk := (LKeep.drew (fun _ => False) (M := fun _ => True) wr (fun h => h)).trans hk0
                            have hk := hkk.1
                            have hkm := hkk.2
                            clear hkk
                            have hact := hG.act
                            have hT := hG.lst hpre 0 #[true, true, true, true, true, true, true, true] rfl (by kernel_rfl) (hpre 0 (by decide) (by decide))
                            rw [hG.ix hT (l := [0, 1, 2, 3, 4, 5, 6, 7]) (by kernel_rfl)] at hact
                            rw [hG.lo hT (k := 0) (by kernel_rfl)]
                            have hv0 : vs 0 = .agg #[.slice fa.A1 f.parties.length fa.c1, .slice fa.A2 f.untils.length fa.c2, .slice fa.A3 f.lots.length fa.c3, .slice (some ⟨bl, ol, none⟩) f.papers.length fa.c4, .slice fa.A5 f.claims.length fa.c5] := hpv 0 (hpre 0 (by decide) (by decide))
                            have hv1 : vs 1 = .pointer (some ⟨w.heap.size, 3, none⟩) := hpv 1 (hpre 1 (by decide) (by decide))
                            have hv2 : vs 2 = .slice (some ⟨bl, ol, none⟩) f.papers.length fa.c4 := hpv 2 (hpre 2 (by decide) (by decide))
                            have hv3 : vs 3 = .int .i64 (i : Nat) := hpv 3 (hpre 3 (by decide) (by decide))
                            have hv4 : vs 4 = .pointer (some ⟨bl, ol + i * 3, none⟩) := hpv 4 (hpre 4 (by decide) (by decide))
                            have hv5 : vs 5 = .agg #[.int .i64 (nth f.papers i).says, .int .i64 (nth f.papers i).lot, .int .i64 (nth f.papers i).of_] := hpv 5 (hpre 5 (by decide) (by decide))
                            have hv6 : vs 6 = .int .i64 (paperE f 0 (nth f.papers i)) := hpv 6 (hpre 6 (by decide) (by decide))
                            have hv7 : vs 7 = .int .i64 (paperE f 0 (nth f.papers i)) := hpv 7 (hpre 7 (by decide) (by decide))
                            clear hpv hpre hG hk0
                            obtain rfl : ao = _ := hact
                            subst hT
                            simp only [setAll, List.setIfInBounds_toArray, List.set_cons_succ, List.set_cons_zero, List.getD_cons_succ, List.getD_cons_zero]
                            simp only [hv0, hv1, hv2, hv3, hv4, hv5, hv6, hv7]
                            clear hv0 hv1 hv2 hv3 hv4 hv5 hv6 hv7
                            refine wpAny_done (by kernel_rfl) ?_ _
                            have hbz := hk.below (B := wr.heap.size) (fun k h => h.elim) (Nat.le_refl _)
                            have HBZ := hide (HB.out.trans (hbz.mono HB.out.size))
                            clear hk hkm hbz y0 y1 y2 p0 p1 p2 p3 p4
                            go_wp2_with fail
                            go_ret3
                            exact ⟨by rw [HCC.out, HX.out]; rfl, HB3.out.trans (HBZ.out.mono HB3.out.size)⟩
                        | false =>
                          have HNE := hide (HDE.out.trans (by simpa using hpe))
                          go_wp2_with fail
                          refine wp_region_rel (dst := fun oi => [94, 95, 96, 97, 98, 99, 100, 11].getD oi 0) (mono := fun oi => decide (oi < 8)) (pre := fun oi => decide (oi < 8)) (R := LKeep (fun _ => False) (fun _ => True))
                            (Pv := fun oi v W => match oi with
                              | 0 => v = .agg #[.slice fa.A1 f.parties.length fa.c1, .slice fa.A2 f.untils.length fa.c2, .slice fa.A3 f.lots.length fa.c3, .slice (some ⟨bl, ol, none⟩) f.papers.length fa.c4, .slice fa.A5 f.claims.length fa.c5]
                              | 1 => v = .pointer (some ⟨w.heap.size, 3, none⟩)
                              | 2 => v = .slice (some ⟨bl, ol, none⟩) f.papers.length fa.c4
                              | 3 => v = .int .i64 (i : Nat)
                              | 4 => v = .pointer (some ⟨bl, ol + i * 3, none⟩)
                              | 5 => v = .agg #[.int .i64 (nth f.papers i).says, .int .i64 (nth f.papers i).lot, .int .i64 (nth f.papers i).of_]
                              | 6 => v = .int .i64 (paperE f 0 (nth f.papers i))
                              | 7 => v = .int .i64 (paperE f 0 (nth f.papers i))
                              | _ => True) (by kernel_rfl) (by kernel_rfl) (LKeep.refl _ _) (fun _ _ _ h h' => h.trans h') ?hstX ?hstepX ?hendX
                          case hstX =>
                            intro oi v W W' h hk
                            match oi, h with
                            | 0, h => exact h
                            | 1, h => exact h
                            | 2, h => exact h
                            | 3, h => exact h
                            | 4, h => exact h
                            | 5, h => exact h
                            | 6, h => exact h
                            | 7, h => exact h
                            | oi + 8, h => exact trivial
                          case hstepX =>
                            intro oi hoi hom listed vs ao W hU hk0 hpv haft Ko hK
                            have hkk := (LKeep.drew (fun _ => False) (M := fun _ => True) wr (fun h => h)).trans hk0
                            have hk := hkk.1
                            have hkm := hkk.2
                            clear hkk
                            match oi, hoi, hom with
                            | 0, hoi, hom =>
                              have z1 : ao.tmps[1]?.getD undef = .pointer (some ⟨w.heap.size, 0, none⟩) := hU.same 1 (by decide)
                              have y0 := (hk.cell (b := w.heap.size) (o := 0) (by omega) (fun h => h)).trans (p0)
                              have y1 := (hk.cell (b := w.heap.size) (o := 1) (by omega) (fun h => h)).trans (p1)
                              have y2 := (hk.cell (b := w.heap.size) (o := 2) (by omega) (fun h => h)).trans (p2)
                              have y3 := (hk.cell (b := w.heap.size) (o := 3) (by omega) (fun h => h)).trans (p3)
                              have y4 := (hk.cell (b := w.heap.size) (o := 4) (by omega) (fun h => h)).trans (p4)
                              refine wpOp_value (v := .agg #[.slice fa.A1 f.parties.length fa.c1, .slice fa.A2 f.untils.length fa.c2, .slice fa.A3 f.lots.length fa.c3, .slice (some ⟨bl, ol, none⟩) f.papers.length fa.c4, .slice fa.A5 f.claims.length fa.c5]) (W' := W) rfl rfl ?_ (hK _ _ (LKeep.refl _ _ _) rfl)
                              go_simp
                            | 1, hoi, hom =>
                              have z1 : ao.tmps[1]?.getD undef = .pointer (some ⟨w.heap.size, 0, none⟩) := hU.same 1 (by decide)
                              refine wpOp_value (v := .pointer (some ⟨w.heap.size, 3, none⟩)) (W' := W) rfl rfl ?_ (hK _ _ (LKeep.refl _ _ _) rfl)
                              go_simp
                            | 2, hoi, hom =>
                              have l1 := haft _ rfl { on := 1, ground := .data } (by simp) rfl
                              have hv1 : vs 1 = .pointer (some ⟨w.heap.size, 3, none⟩) := hpv 1 l1
                              have s1 : ao.tmps[95]?.getD undef = vs 1 := hU.slot 1 (by decide) l1
                              rw [hv1] at s1
                              have y0 := (hk.cell (b := w.heap.size) (o := 3) (by omega) (fun h => h)).trans (p3)
                              refine wpOp_value (v := .slice (some ⟨bl, ol, none⟩) f.papers.length fa.c4) (W' := W) rfl rfl ?_ (hK _ _ (LKeep.refl _ _ _) rfl)
                              go_simp
                            | 3, hoi, hom =>
                              have z10 : ao.tmps[10]?.getD undef = .int .i64 (i : Nat) := hU.same 10 (by decide)
                              refine wpOp_value (v := .int .i64 (i : Nat)) (W' := W) rfl rfl ?_ (hK _ _ (LKeep.refl _ _ _) rfl)
                              go_simp
                            | 4, hoi, hom =>
                              have l2 := haft _ rfl { on := 2, ground := .data } (by simp) rfl
                              have hv2 : vs 2 = .slice (some ⟨bl, ol, none⟩) f.papers.length fa.c4 := hpv 2 l2
                              have s2 : ao.tmps[96]?.getD undef = vs 2 := hU.slot 2 (by decide) l2
                              rw [hv2] at s2
                              have l3 := haft _ rfl { on := 3, ground := .data } (by simp) rfl
                              have hv3 : vs 3 = .int .i64 (i : Nat) := hpv 3 l3
                              have s3 : ao.tmps[97]?.getD undef = vs 3 := hU.slot 3 (by decide) l3
                              rw [hv3] at s3
                              refine wpOp_value (v := .pointer (some ⟨bl, ol + i * 3, none⟩)) (W' := W) rfl rfl ?_ (hK _ _ (LKeep.refl _ _ _) rfl)
                              go_simp
                            | 5, hoi, hom =>
                              have l4 := haft _ rfl { on := 4, ground := .data } (by simp) rfl
                              have hv4 : vs 4 = .pointer (some ⟨bl, ol + i * 3, none⟩) := hpv 4 l4
                              have s4 : ao.tmps[98]?.getD undef = vs 4 := hU.slot 4 (by decide) l4
                              rw [hv4] at s4
                              have y0 := (hk.cell (b := bl) (o := ol + i * 3) (by omega) (fun h => h)).trans (y0)
                              have y1 := (hk.cell (b := bl) (o := ol + i * 3 + 1) (by omega) (fun h => h)).trans (y1)
                              have y2 := (hk.cell (b := bl) (o := ol + i * 3 + 2) (by omega) (fun h => h)).trans (y2)
                              refine wpOp_value (v := .agg #[.int .i64 (nth f.papers i).says, .int .i64 (nth f.papers i).lot, .int .i64 (nth f.papers i).of_]) (W' := W) rfl rfl ?_ (hK _ _ (LKeep.refl _ _ _) rfl)
                              go_simp
                            | 6, hoi, hom =>
                              have l0 := haft _ rfl { on := 0, ground := .data } (by simp) rfl
                              have hv0 : vs 0 = .agg #[.slice fa.A1 f.parties.length fa.c1, .slice fa.A2 f.untils.length fa.c2, .slice fa.A3 f.lots.length fa.c3, .slice (some ⟨bl, ol, none⟩) f.papers.length fa.c4, .slice fa.A5 f.claims.length fa.c5] := hpv 0 l0
                              have s0 : ao.tmps[94]?.getD undef = vs 0 := hU.slot 0 (by decide) l0
                              rw [hv0] at s0
                              have l5 := haft _ rfl { on := 5, ground := .data } (by simp) rfl
                              have hv5 : vs 5 = .agg #[.int .i64 (nth f.papers i).says, .int .i64 (nth f.papers i).lot, .int .i64 (nth f.papers i).of_] := hpv 5 l5
                              have s5 : ao.tmps[99]?.getD undef = vs 5 := hU.slot 5 (by decide) l5
                              rw [hv5] at s5
                              have hbq := hk.below (B := wr.heap.size) (fun k h => h.elim) (Nat.le_refl _)
                              have hFW := HBR.out.v.next hbq
                              have hcall := paper7_any hFW (nth f.papers i)
                              rw [HFV.out] at hcall
                              refine wpOp_enter (f := 47) (args := #[.agg #[.slice fa.A1 f.parties.length fa.c1, .slice fa.A2 f.untils.length fa.c2, .slice fa.A3 f.lots.length fa.c3, .slice (some ⟨bl, ol, none⟩) f.papers.length fa.c4, .slice fa.A5 f.claims.length fa.c5], .agg #[.int .i64 (nth f.papers i).says, .int .i64 (nth f.papers i).lot, .int .i64 (nth f.papers i).of_]]) (W' := W) rfl rfl ?_ ((hcall).mono (fun e w'' h => ?_))
                              · go_simp
                              · obtain ⟨he, hbw⟩ := h
                                exact ⟨_, he, hK _ _ (LKeep.below hbw (fun h => h)) rfl⟩
                            | 7, hoi, hom =>
                              have l6 := haft _ rfl { on := 6, ground := .data } (by simp) rfl
                              have hv6 : vs 6 = .int .i64 (paperE f 0 (nth f.papers i)) := hpv 6 l6
                              have s6 : ao.tmps[100]?.getD undef = vs 6 := hU.slot 6 (by decide) l6
                              rw [hv6] at s6
                              refine wpOp_value (v := .int .i64 (paperE f 0 (nth f.papers i))) (W' := W) rfl rfl ?_ (hK _ _ (LKeep.refl _ _ _) rfl)
                              go_simp
                            | oi + 8, hoi, hom => exact absurd (of_decide_eq_true hom) (by omega)
                          case hendX =>
                            intro listed vs ao W hG hk0 hpv hpre
                            have hkk := (LKeep.drew (fun _ => False) (M := fun _ => True) wr (fun h => h)).trans hk0
                            have hk := hkk.1
                            have hkm := hkk.2
                            clear hkk
                            have hact := hG.act
                            have hT := hG.lst hpre 0 #[true, true, true, true, true, true, true, true] rfl (by kernel_rfl) (hpre 0 (by decide) (by decide))
                            rw [hG.ix hT (l := [0, 1, 2, 3, 4, 5, 6, 7]) (by kernel_rfl)] at hact
                            rw [hG.lo hT (k := 0) (by kernel_rfl)]
                            have hv0 : vs 0 = .agg #[.slice fa.A1 f.parties.length fa.c1, .slice fa.A2 f.untils.length fa.c2, .slice fa.A3 f.lots.length fa.c3, .slice (some ⟨bl, ol, none⟩) f.papers.length fa.c4, .slice fa.A5 f.claims.length fa.c5] := hpv 0 (hpre 0 (by decide) (by decide))
                            have hv1 : vs 1 = .pointer (some ⟨w.heap.size, 3, none⟩) := hpv 1 (hpre 1 (by decide) (by decide))
                            have hv2 : vs 2 = .slice (some ⟨bl, ol, none⟩) f.papers.length fa.c4 := hpv 2 (hpre 2 (by decide) (by decide))
                            have hv3 : vs 3 = .int .i64 (i : Nat) := hpv 3 (hpre 3 (by decide) (by decide))
                            have hv4 : vs 4 = .pointer (some ⟨bl, ol + i * 3, none⟩) := hpv 4 (hpre 4 (by decide) (by decide))
                            have hv5 : vs 5 = .agg #[.int .i64 (nth f.papers i).says, .int .i64 (nth f.papers i).lot, .int .i64 (nth f.papers i).of_] := hpv 5 (hpre 5 (by decide) (by decide))
                            have hv6 : vs 6 = .int .i64 (paperE f 0 (nth f.papers i)) := hpv 6 (hpre 6 (by decide) (by decide))
                            have hv7 : vs 7 = .int .i64 (paperE f 0 (nth f.papers i)) := hpv 7 (hpre 7 (by decide) (by decide))
                            clear hpv hpre hG hk0
                            obtain rfl : ao = _ := hact
                            subst hT
                            simp only [setAll, List.setIfInBounds_toArray, List.set_cons_succ, List.set_cons_zero, List.getD_cons_succ, List.getD_cons_zero]
                            simp only [hv0, hv1, hv2, hv3, hv4, hv5, hv6, hv7]
                            clear hv0 hv1 hv2 hv3 hv4 hv5 hv6 hv7
                            refine wpAny_done (by kernel_rfl) ?_ _
                            have hbz := hk.below (B := wr.heap.size) (fun k h => h.elim) (Nat.le_refl _)
                            have HBZ := hide (HB.out.trans (hbz.mono HB.out.size))
                            clear hk hkm hbz y0 y1 y2 p0 p1 p2 p3 p4
                            go_wp2_with fail
                            go_roundw
                            case rel => exact ⟨i + 1, by omega, by go_num, hide (fun k hk => by
                              rcases Nat.lt_or_ge k i with h1 | h1
                              · exact HK.out k h1
                              · rw [show k = i by omega]; exact HNE.out), HBZ.out⟩
                            case measure => simp [intOf]; omega
                      · obtain rfl : i = f.papers.length := by omega
                        have hnot : ¬ (f.papers.length : Int) < (f.papers.length : Int) := by omega
                        have HC4 := hide (show C = if (failM (claimE f) f.claims 5).2 ≠ 0 then (5, failM (claimE f) f.claims 5) else (0, 0, 0) by rw [HC3.out, failM_none HL4.out HK.out, if_neg (by simp)])
                        clear HC3
                        by_cases hlo : (5 : Int) < f.claims.length
                        · have HX := hide (show C = (5, 0, 3) by rw [HC4.out, failM_long hlo]; rfl)
                          go_wp2_with fail
                          go_ret3
                          exact ⟨by rw [HCC.out, HX.out]; rfl, HB3.out.trans (HB.out.mono HB3.out.size)⟩
                        · have HL5 := hide (show (f.claims.length : Int) ≤ 5 by omega)
                          have HB4 := hide (HB3.out.trans (HB.out.mono HB3.out.size))
                          have HX_wd := hide HBR.out
                          go_wp2_with fail
                          obtain ⟨wd, rfl⟩ : ∃ wd : World, wd = wr := ⟨_, rfl⟩
                          go_loopw [12] (fun v wr => ∃ i : Nat, i ≤ f.claims.length ∧ v = .int .i64 i ∧ Hid (∀ k, k < i → claimE f k (nth f.claims k) = 0) ∧ Below wd.heap.size wd wr) (fun v _ => f.claims.length - (intOf v).toNat)
                          case atStart => exact ⟨0, Nat.zero_le _, rfl, hide (fun k hk => by omega), Below.refl _ _⟩
                          case round =>
                            clear HK hi0 hlt hi hnot
                            obtain ⟨i, hi, rfl, HK, hB⟩ := hrel
                            have hi0 : (0 : Int) ≤ (i : Int) := Int.natCast_nonneg _
                            have q := (HX_wd.out.next hB)
                            obtain ⟨hz, p0, p1, p2, p3, p4⟩ := q.cells
                            have hzr := hB.size
                            have HBR := hide q
                            have HB := hide hB
                            clear q hB
                            by_cases hlt : i < f.claims.length
                            · have hi1 : (i : Int) < (f.claims.length : Int) := by omega
                              obtain ⟨bl, ol, hA, hbl, y0, y1, y2⟩ := HBR.out.v.claims.claims hlt
                              rw [hA] at p4
                              clear hA
                              have hw1 : IntKind.i64.wrap ((f.lots.length : Int) - 1) = (f.lots.length : Int) - 1 := IntWalk.i64_in _ (by omega)
                              have hw2 : IntKind.i64.wrap ((f.parties.length : Int) - 1) = (f.parties.length : Int) - 1 := IntWalk.i64_in _ (by omega)
                              have HBZ : Hid (Below wd.heap.size wd (wr.alloc (.cells #[.int .i64 (nth f.claims i).lot, .int .i64 (nth f.claims i).against, .int .i64 (nth f.claims i).day] 52))) := hide (HB.out.alloc hzr _)
                              have hi1' : True := trivial
                              have hi2' : True := trivial
                              have hi3' : True := trivial
                              have HDE := hide (show claimE f i (nth f.claims i) = if offP 0 ((f.lots.length : Int) - 1) (nth f.claims i).lot || offP 0 ((f.parties.length : Int) - 1) (nth f.claims i).against then 4 else if offP 0 60 (nth f.claims i).day then 7 else 0 from rfl)
                              cases h1 : offP 0 ((f.lots.length : Int) - 1) (nth f.claims i).lot with
                              | true =>
                                have hi1' : inB (nth f.claims i).lot 0 ((f.lots.length : Int) - 1) = false := by rw [inB_off, h1]; rfl
                                have HX := hide (show C = (5, (i : Int), 4) by rw [HC4.out, failM_hit (f := claimE f) HL5.out hlt HK.out (e := 4) (by rw [HDE.out, h1]; rfl) (by decide)]; rfl)
                                clear h1
                                go_wp2_with (go_at_call 45; refine (in_any _ _ _ _).mono ?_; rintro e w' ⟨rfl, rfl⟩; first | rw [hi1'] | rw [hi2'] | rw [hi3'])
                                go_ret3
                                exact ⟨by rw [HCC.out, HX.out]; rfl, HB4.out.trans (HBZ.out.mono HB4.out.size)⟩
                              | false =>
                                have hi1' : inB (nth f.claims i).lot 0 ((f.lots.length : Int) - 1) = true := by rw [inB_off, h1]; rfl
                                cases h2 : offP 0 ((f.parties.length : Int) - 1) (nth f.claims i).against with
                                | true =>
                                  have hi2' : inB (nth f.claims i).against 0 ((f.parties.length : Int) - 1) = false := by rw [inB_off, h2]; rfl
                                  have HX := hide (show C = (5, (i : Int), 4) by rw [HC4.out, failM_hit (f := claimE f) HL5.out hlt HK.out (e := 4) (by rw [HDE.out, h1, h2]; rfl) (by decide)]; rfl)
                                  clear h1 h2
                                  go_wp2_with (go_at_call 45; refine (in_any _ _ _ _).mono ?_; rintro e w' ⟨rfl, rfl⟩; first | rw [hi1'] | rw [hi2'] | rw [hi3'])
                                  go_ret3
                                  exact ⟨by rw [HCC.out, HX.out]; rfl, HB4.out.trans (HBZ.out.mono HB4.out.size)⟩
                                | false =>
                                  have hi2' : inB (nth f.claims i).against 0 ((f.parties.length : Int) - 1) = true := by rw [inB_off, h2]; rfl
                                  cases h3 : offP 0 60 (nth f.claims i).day with
                                  | true =>
                                    have hi3' : inB (nth f.claims i).day 0 60 = false := by rw [inB_off, h3]; rfl
                                    have HX := hide (show C = (5, (i : Int), 7) by rw [HC4.out, failM_hit (f := claimE f) HL5.out hlt HK.out (e := 7) (by rw [HDE.out, h1, h2, h3]; rfl) (by decide)]; rfl)
                                    clear h1 h2 h3
                                    go_wp2_with (go_at_call 45; refine (in_any _ _ _ _).mono ?_; rintro e w' ⟨rfl, rfl⟩; first | rw [hi1'] | rw [hi2'] | rw [hi3'])
                                    go_ret3
                                    exact ⟨by rw [HCC.out, HX.out]; rfl, HB4.out.trans (HBZ.out.mono HB4.out.size)⟩
                                  | false =>
                                    have hi3' : inB (nth f.claims i).day 0 60 = true := by rw [inB_off, h3]; rfl
                                    have HNE := hide (show claimE f i (nth f.claims i) = 0 by rw [HDE.out, h1, h2, h3]; rfl)
                                    clear h1 h2 h3
                                    go_wp2_with (go_at_call 45; refine (in_any _ _ _ _).mono ?_; rintro e w' ⟨rfl, rfl⟩; first | rw [hi1'] | rw [hi2'] | rw [hi3'])
                                    go_roundw
                                    case rel => exact ⟨i + 1, by omega, by go_num, hide (fun k hk => by
                                      rcases Nat.lt_or_ge k i with h1 | h1
                                      · exact HK.out k h1
                                      · rw [show k = i by omega]; exact HNE.out), HBZ.out⟩
                                    case measure => simp [intOf]; omega
                            · obtain rfl : i = f.claims.length := by omega
                              have hnot : ¬ (f.claims.length : Int) < (f.claims.length : Int) := by omega
                              have HX := hide (show C = (0, 0, 0) by rw [HC4.out, failM_none HL5.out HK.out, if_neg (by simp)])
                              go_wp2_with fail
                              go_ret3
                              exact ⟨by rw [HCC.out, HX.out]; rfl, HB4.out.trans (HB.out.mono HB4.out.size)⟩
      · have hub : ((f.untils.length : Int) != (f.parties.length : Int)) = true := by simp; omega
        have HX := hide (show C = (2, 0, 3) by rw [HC1.out, if_pos hul])
        go_wp2_with fail
        go_ret3
        exact ⟨by rw [HCC.out, HX.out]; rfl, HB0.out.trans (HB.out.mono HB0.out.size)⟩
end Go.Proofs.Ytllmahcanipcpaa
