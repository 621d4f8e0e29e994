/- Wrong of package ledger: the fewest tallies that must be wrong. -/
import Derived.Test.YtocdmkilnbpkdaaGreatDoorZY
import Derived.OwnWalkIn
import Derived.TacticsInMore
import Derived.Deep.DeepCutAuto
set_option linter.unusedVariables false
set_option linter.unusedSimpArgs false
namespace Go.Proofs.YtocdmkilnbpkdaaGreatDoor
open Go.RowKit
attribute [local go_sem] Oper.semAt_some
def wrongV (b : Book) : List Nat × Int := if (checkM b).2.2 ≠ 0 then ([], (checkM b).2.2) else ((fwTo b.tallies.length (fun k => someB b (fun i => k.testBit i)) (2 ^ b.tallies.length)).getD [], 0)
set_option maxHeartbeats 4000000 in
set_option maxRecDepth 100000 in
theorem wrong_any {w : World} {b : Book} {a : BA} (h : BookV w w.heap.size b a) :
 Calls Tryz.prog 31 #[bookVal b a] w fun e w' => ∃ A cp, e = .returned (.tuple #[.slice A (wrongV b).1.length cp, .int .i64 (wrongV b).2]) ∧ IntsS w' w'.heap.size A (wrongV b).1.length cp (natInts (wrongV b).1) ∧ Below w.heap.size w w' := by
 have hB0 : Below w.heap.size w (w.alloc (.cells (bookCells b a) 25)) := (Below.refl _ _).alloc (Nat.le_refl _) _
 have q1 : Blk (w.alloc (.cells (bookCells b a) 25)) w.heap.size 25 (bookCells b a) := Blk.made
 have HC0 := hide (h.next hB0)
 have HQ1 := hide q1
 have HB0 := hide hB0
 have hm4 := h.m2
 unfold maxLen at hm4
 have HWV := hide (show wrongV b = if (checkM b).2.2 ≠ 0 then ([], (checkM b).2.2) else ((fwTo b.tallies.length (fun k => someB b (fun i => k.testBit i)) (2 ^ b.tallies.length)).getD [], 0) from rfl)
 have HVO := hide (fun h => valid_of (b := b) h)
 clear h hB0 q1
 go_enter Tryz.func31, Tryz.ntmps31
 go_wp2_with fail
 generalize (w.alloc (.cells (bookCells b a) 25)) = w0 at *
 refine (check_any HC0.out).mono ?_
 rintro e w1' ⟨rfl, hb1'⟩
 have hz0 := HQ1.out.lt
 have hz1' := hb1'.size
 have HC := hide (HC0.out.next hb1')
 have HQ := hide (HQ1.out.next hb1')
 have HB1 := hide (HB0.out.trans (hb1'.mono (by omega)))
 generalize (checkM b).2.2 = E at *
 clear hb1' HC0 HQ1
 cases hce : (E != 0) with
 | true =>
  have HNE := hide (show E ≠ 0 by simpa using hce)
  go_wp2_with fail
  go_ret2
  have hR := HWV.out
  rw [if_pos HNE.out] at hR
  rw [hR]
  exact ⟨none, 0, rfl, IntsS.nil_, HB1.out⟩
 | false =>
  have hE : E = 0 := by simpa using hce
  have hv := HVO.out hE
  have hR := HWV.out
  rw [if_neg (by simp [hE])] at hR
  have HR := hide hR
  have hm := hv.tallies
  have HV := hide hv
  clear hR hv HWV HVO hce
  subst hE
  obtain ⟨wb, rfl⟩ : ∃ wb : World, wb = w1' := ⟨_, rfl⟩
  have p3 := HQ.out.at_ 1
  simp only [List.getElem?_toArray, List.getElem?_cons_zero, List.getElem?_cons_succ] at p3
  have hbz := HQ.out.lt
  have hN : wrap64 (2 ^ b.tallies.length) = ((2 ^ b.tallies.length : Nat) : Int) := by
   have h : ∀ m : Fin 7, wrap64 (2 ^ (m : Nat)) = ((2 ^ (m : Nat) : Nat) : Int) := of_decide_eq_true (by kernel_rfl)
   exact h ⟨b.tallies.length, by omega⟩
  have hN16 : 2 ^ b.tallies.length ≤ 64 := Nat.pow_le_pow_right (by omega) hm
  have hm0 : (0 : Int) ≤ (b.tallies.length : Int) := Int.natCast_nonneg _
  go_wp2_with fail
  rw [hN]
  clear hN
  have HF := hide (show ∀ k, fwTo b.tallies.length (fun k => someB b (fun i => k.testBit i)) (k + 1) = match fwTo b.tallies.length (fun k => someB b (fun i => k.testBit i)) k with
   | none => if someB b (fun i => k.testBit i) then some (listN k b.tallies.length) else none
   | some bb => if worse (listN k b.tallies.length) bb then some bb else if someB b (fun i => k.testBit i) then some (listN k b.tallies.length) else some bb from fun _ => rfl)
  have HF0 := hide (show fwTo b.tallies.length (fun k => someB b (fun i => k.testBit i)) 0 = none from rfl)
  have HFL := hide (fun k b' => fwTo_len (many := b.tallies.length) (ans := fun k => someB b (fun i => k.testBit i)) (k := k) (b := b'))
  generalize hNN : 2 ^ b.tallies.length = N at *
  have HNN := hide hNN
  clear hNN
  generalize fwTo b.tallies.length (fun k => someB b (fun i => k.testBit i)) = FW at *
  go_loopw [2, 4, 5, 6, 22] (fun v2 v4 _ _ i wr => ∃ k : Nat, k ≤ N ∧ i = .int .i64 k ∧ Best 0 wr v2 v4 (FW k) ∧ Below wb.heap.size wb wr) (fun _ _ _ _ i _ => N - (intOf i).toNat)
  case atStart => exact ⟨0, Nat.zero_le _, rfl, by rw [HF0.out]; exact ⟨rfl, rfl⟩, Below.refl _ _⟩
  case round =>
   obtain ⟨k, hk, rfl, hbest, hkeep⟩ := hrel
   have hk0 : (0 : Int) ≤ (k : Int) := Int.natCast_nonneg _
   by_cases hlt : k < N
   · have hk1 : (k : Int) < (N : Int) := by omega
     have hz := hkeep.size
     have HL := hide (list_any (set := k) (many := b.tallies.length) (by omega) hm wr)
     have HC := hide (HC.out.next hkeep)
     have q := HQ.out.next hkeep
     have p0 := q.at_ 0
     have p1 := q.at_ 1
     simp only [List.getElem?_toArray, List.getElem?_cons_zero, List.getElem?_cons_succ] at p0 p1
     have hk64 : k < 64 := by omega
     have hbz := q.lt
     have HS := hide (HF.out k)
     have HB := hide hbest
     have HKP := hide hkeep
     clear hbest hkeep q
     cases ho : FW k with
     | none =>
      have hb := HB.out
      rw [ho] at hb
      obtain ⟨rfl, rfl⟩ := hb
      have HS := hide (HS.out.trans (by rw [ho] : _ = if someB b (fun i => k.testBit i) then some (listN k b.tallies.length) else none))
      cases ha : someB b (fun i => k.testBit i) with
      | true =>
       have HA := hide ha
       clear ha
       go_wp2_with (first | (go_at_call 75; refine HL.out.mono ?_; rintro e w1 ⟨g1, c1, rfl, hi1, hA1, hb1⟩; have hz1 := hb1.size; have hC1 := HC.out.next hb1; have hkb := Keep.of_below' hb1 (fun _ => False); have u0 := (hb1.cell (p := ⟨w.heap.size, 0, none⟩) hbz).trans p0; have u1 := (hb1.cell (p := ⟨w.heap.size, 1, none⟩) hbz).trans p1; have hbz1 : w.heap.size < w1.heap.size := (by omega); clear p0 p1) | (go_at_call 76; refine hcm.mono ?_; rintro e w' ⟨rfl, rfl⟩) | (go_at_call 74; refine (look_any (but := (k : Nat)) hC1 HV.out.good hk64).mono ?_; rintro e w3 ⟨g, h, ok, rfl, hl, hlk, hB3⟩; have hok := (look_hands HV.out.good hlk).1; replace hok := hok.trans HA.out; subst hok; clear hl hlk))
       have hb13 : Below w1.heap.size w1 w3 := hB3
       have hk13 := Keep.of_below' hb13 (fun _ => False)
       go_roundw
       case rel =>
        refine ⟨k + 1, by omega, by go_num, ?_, HKP.out.trans ((hb1.trans (hb13.mono hz1)).mono hz)⟩
        rw [HS.out, HA.out, if_pos rfl]
        exact Best.new ⟨hi1.len, hi1.cap, hi1.max, (hi1.next hb13).row⟩ (fun _ _ => Nat.zero_le _)
       case measure => simp [intOf]; omega
      | false =>
       have HA := hide ha
       clear ha
       go_wp2_with (first | (go_at_call 75; refine HL.out.mono ?_; rintro e w1 ⟨g1, c1, rfl, hi1, hA1, hb1⟩; have hz1 := hb1.size; have hC1 := HC.out.next hb1; have hkb := Keep.of_below' hb1 (fun _ => False); have u0 := (hb1.cell (p := ⟨w.heap.size, 0, none⟩) hbz).trans p0; have u1 := (hb1.cell (p := ⟨w.heap.size, 1, none⟩) hbz).trans p1; have hbz1 : w.heap.size < w1.heap.size := (by omega); clear p0 p1) | (go_at_call 76; refine hcm.mono ?_; rintro e w' ⟨rfl, rfl⟩) | (go_at_call 74; refine (look_any (but := (k : Nat)) hC1 HV.out.good hk64).mono ?_; rintro e w3 ⟨g, h, ok, rfl, hl, hlk, hB3⟩; have hok := (look_hands HV.out.good hlk).1; replace hok := hok.trans HA.out; subst hok; clear hl hlk))
       have hb13 : Below w1.heap.size w1 w3 := hB3
       have hk13 := Keep.of_below' hb13 (fun _ => False)
       go_roundw
       case rel =>
        refine ⟨k + 1, by omega, by go_num, ?_, HKP.out.trans ((hb1.trans (hb13.mono hz1)).mono hz)⟩
        rw [HS.out, HA.out, if_neg (by simp)]
        exact ⟨rfl, rfl⟩
       case measure => simp [intOf]; omega
     | some bb =>
      have hb := HB.out
      rw [ho] at hb
      obtain ⟨rfl, A, c, rfl, hb2, hb3⟩ := hb
      have HS := hide (HS.out.trans (by rw [ho] : _ = if worse (listN k b.tallies.length) bb then some bb else if someB b (fun i => k.testBit i) then some (listN k b.tallies.length) else some bb))
      have HBB := hide (Best.new hb2 hb3)
      have HB2 := hide hb2
      clear hb2 hb3
      have hll := listN_le k b.tallies.length
      have hbl := HFL.out k bb ho
      by_cases hg : bb.length < (listN k b.tallies.length).length
      · have HW := hide (show worse (listN k b.tallies.length) bb = true by simp [worse, hg])
        have hg1 : (bb.length : Int) < ((listN k b.tallies.length).length : Int) := by omega
        go_wp2_with (first | (go_at_call 75; refine HL.out.mono ?_; rintro e w1 ⟨g1, c1, rfl, hi1, hA1, hb1⟩; have hz1 := hb1.size; have hC1 := HC.out.next hb1; have hkb := Keep.of_below' hb1 (fun _ => False); have u0 := (hb1.cell (p := ⟨w.heap.size, 0, none⟩) hbz).trans p0; have u1 := (hb1.cell (p := ⟨w.heap.size, 1, none⟩) hbz).trans p1; have hbz1 : w.heap.size < w1.heap.size := (by omega); clear p0 p1; have hcm := compare_any hi1 (HB2.out.next hb1) (by omega) (by omega)) | (go_at_call 76; refine hcm.mono ?_; rintro e w' ⟨rfl, rfl⟩) | (go_at_call 74; refine (look_any (but := (k : Nat)) hC1 HV.out.good hk64).mono ?_; rintro e w3 ⟨g, h, ok, rfl, hl, hlk, hB3⟩; have hok := (look_hands HV.out.good hlk).1; replace hok := hok.trans HA.out; subst hok; clear hl hlk))
        go_roundw
        case rel =>
         refine ⟨k + 1, by omega, by go_num, ?_, HKP.out.trans (hb1.mono hz)⟩
         rw [HS.out, HW.out, if_pos rfl]
         exact HBB.out.keep hkb (fun q hq => hq.elim)
        case measure => simp [intOf]; omega
      · have hg1 : ¬ (bb.length : Int) < ((listN k b.tallies.length).length : Int) := by omega
        by_cases hq : (listN k b.tallies.length).length = bb.length
        · have hq1 : (((listN k b.tallies.length).length : Int) == (bb.length : Int)) = true := by simp; omega
          by_cases hc : cmpL (natInts (listN k b.tallies.length)) (natInts bb) > 0
          · have HW := hide (show worse (listN k b.tallies.length) bb = true by simp [worse, hq, hc])
            have hc1 : 0 < cmpL (natInts (listN k b.tallies.length)) (natInts bb) := hc
            have HQ' := hide hq
            clear hq hg
            go_wp2_with (first | (go_at_call 75; refine HL.out.mono ?_; rintro e w1 ⟨g1, c1, rfl, hi1, hA1, hb1⟩; have hz1 := hb1.size; have hC1 := HC.out.next hb1; have hkb := Keep.of_below' hb1 (fun _ => False); have u0 := (hb1.cell (p := ⟨w.heap.size, 0, none⟩) hbz).trans p0; have u1 := (hb1.cell (p := ⟨w.heap.size, 1, none⟩) hbz).trans p1; have hbz1 : w.heap.size < w1.heap.size := (by omega); clear p0 p1; have hcm := compare_any hi1 (HB2.out.next hb1) (by omega) (by omega)) | (go_at_call 76; refine hcm.mono ?_; rintro e w' ⟨rfl, rfl⟩) | (go_at_call 74; refine (look_any (but := (k : Nat)) hC1 HV.out.good hk64).mono ?_; rintro e w3 ⟨g, h, ok, rfl, hl, hlk, hB3⟩; have hok := (look_hands HV.out.good hlk).1; replace hok := hok.trans HA.out; subst hok; clear hl hlk))
            go_roundw
            case rel =>
             refine ⟨k + 1, by omega, by go_num, ?_, HKP.out.trans (hb1.mono hz)⟩
             rw [HS.out, HW.out, if_pos rfl]
             exact HBB.out.keep hkb (fun q hq => hq.elim)
            case measure => simp [intOf]; omega
          · have HW := hide (show worse (listN k b.tallies.length) bb = false by simp [worse, hg, hq]; omega)
            have hc1 : ¬ 0 < cmpL (natInts (listN k b.tallies.length)) (natInts bb) := hc
            have HQ' := hide hq
            clear hq hg
            cases ha : someB b (fun i => k.testBit i) with
            | true =>
             have HA := hide ha
             clear ha
             go_wp2_with (first | (go_at_call 75; refine HL.out.mono ?_; rintro e w1 ⟨g1, c1, rfl, hi1, hA1, hb1⟩; have hz1 := hb1.size; have hC1 := HC.out.next hb1; have hkb := Keep.of_below' hb1 (fun _ => False); have u0 := (hb1.cell (p := ⟨w.heap.size, 0, none⟩) hbz).trans p0; have u1 := (hb1.cell (p := ⟨w.heap.size, 1, none⟩) hbz).trans p1; have hbz1 : w.heap.size < w1.heap.size := (by omega); clear p0 p1; have hcm := compare_any hi1 (HB2.out.next hb1) (by omega) (by omega)) | (go_at_call 76; refine hcm.mono ?_; rintro e w' ⟨rfl, rfl⟩) | (go_at_call 74; refine (look_any (but := (k : Nat)) hC1 HV.out.good hk64).mono ?_; rintro e w3 ⟨g, h, ok, rfl, hl, hlk, hB3⟩; have hok := (look_hands HV.out.good hlk).1; replace hok := hok.trans HA.out; subst hok; clear hl hlk))
             have hb13 : Below w1.heap.size w1 w3 := hB3
             have hk13 := Keep.of_below' hb13 (fun _ => False)
             go_roundw
             case rel =>
              refine ⟨k + 1, by omega, by go_num, ?_, HKP.out.trans ((hb1.trans (hb13.mono hz1)).mono hz)⟩
              rw [HS.out, HW.out, if_neg (by simp), HA.out, if_pos rfl]
              exact Best.new ⟨hi1.len, hi1.cap, hi1.max, (hi1.next hb13).row⟩ (fun _ _ => Nat.zero_le _)
             case measure => simp [intOf]; omega
            | false =>
             have HA := hide ha
             clear ha
             go_wp2_with (first | (go_at_call 75; refine HL.out.mono ?_; rintro e w1 ⟨g1, c1, rfl, hi1, hA1, hb1⟩; have hz1 := hb1.size; have hC1 := HC.out.next hb1; have hkb := Keep.of_below' hb1 (fun _ => False); have u0 := (hb1.cell (p := ⟨w.heap.size, 0, none⟩) hbz).trans p0; have u1 := (hb1.cell (p := ⟨w.heap.size, 1, none⟩) hbz).trans p1; have hbz1 : w.heap.size < w1.heap.size := (by omega); clear p0 p1; have hcm := compare_any hi1 (HB2.out.next hb1) (by omega) (by omega)) | (go_at_call 76; refine hcm.mono ?_; rintro e w' ⟨rfl, rfl⟩) | (go_at_call 74; refine (look_any (but := (k : Nat)) hC1 HV.out.good hk64).mono ?_; rintro e w3 ⟨g, h, ok, rfl, hl, hlk, hB3⟩; have hok := (look_hands HV.out.good hlk).1; replace hok := hok.trans HA.out; subst hok; clear hl hlk))
             have hb13 : Below w1.heap.size w1 w3 := hB3
             have hk13 := Keep.of_below' hb13 (fun _ => False)
             go_roundw
             case rel =>
              refine ⟨k + 1, by omega, by go_num, ?_, HKP.out.trans ((hb1.trans (hb13.mono hz1)).mono hz)⟩
              rw [HS.out, HW.out, if_neg (by simp), HA.out, if_neg (by simp)]
              exact (HBB.out.keep hkb (fun q hq => hq.elim)).keep hk13 (fun q hq => hq.elim)
             case measure => simp [intOf]; omega
        · have hq1 : (((listN k b.tallies.length).length : Int) == (bb.length : Int)) = false := by simp; omega
          have HW := hide (show worse (listN k b.tallies.length) bb = false by simp [worse, hg, hq])
          have HQ' := hide hq
          clear hq hg
          cases ha : someB b (fun i => k.testBit i) with
          | true =>
           have HA := hide ha
           clear ha
           go_wp2_with (first | (go_at_call 75; refine HL.out.mono ?_; rintro e w1 ⟨g1, c1, rfl, hi1, hA1, hb1⟩; have hz1 := hb1.size; have hC1 := HC.out.next hb1; have hkb := Keep.of_below' hb1 (fun _ => False); have u0 := (hb1.cell (p := ⟨w.heap.size, 0, none⟩) hbz).trans p0; have u1 := (hb1.cell (p := ⟨w.heap.size, 1, none⟩) hbz).trans p1; have hbz1 : w.heap.size < w1.heap.size := (by omega); clear p0 p1; have hcm := compare_any hi1 (HB2.out.next hb1) (by omega) (by omega)) | (go_at_call 76; refine hcm.mono ?_; rintro e w' ⟨rfl, rfl⟩) | (go_at_call 74; refine (look_any (but := (k : Nat)) hC1 HV.out.good hk64).mono ?_; rintro e w3 ⟨g, h, ok, rfl, hl, hlk, hB3⟩; have hok := (look_hands HV.out.good hlk).1; replace hok := hok.trans HA.out; subst hok; clear hl hlk))
           have hb13 : Below w1.heap.size w1 w3 := hB3
           have hk13 := Keep.of_below' hb13 (fun _ => False)
           go_roundw
           case rel =>
            refine ⟨k + 1, by omega, by go_num, ?_, HKP.out.trans ((hb1.trans (hb13.mono hz1)).mono hz)⟩
            rw [HS.out, HW.out, if_neg (by simp), HA.out, if_pos rfl]
            exact Best.new ⟨hi1.len, hi1.cap, hi1.max, (hi1.next hb13).row⟩ (fun _ _ => Nat.zero_le _)
           case measure => simp [intOf]; omega
          | false =>
           have HA := hide ha
           clear ha
           go_wp2_with (first | (go_at_call 75; refine HL.out.mono ?_; rintro e w1 ⟨g1, c1, rfl, hi1, hA1, hb1⟩; have hz1 := hb1.size; have hC1 := HC.out.next hb1; have hkb := Keep.of_below' hb1 (fun _ => False); have u0 := (hb1.cell (p := ⟨w.heap.size, 0, none⟩) hbz).trans p0; have u1 := (hb1.cell (p := ⟨w.heap.size, 1, none⟩) hbz).trans p1; have hbz1 : w.heap.size < w1.heap.size := (by omega); clear p0 p1; have hcm := compare_any hi1 (HB2.out.next hb1) (by omega) (by omega)) | (go_at_call 76; refine hcm.mono ?_; rintro e w' ⟨rfl, rfl⟩) | (go_at_call 74; refine (look_any (but := (k : Nat)) hC1 HV.out.good hk64).mono ?_; rintro e w3 ⟨g, h, ok, rfl, hl, hlk, hB3⟩; have hok := (look_hands HV.out.good hlk).1; replace hok := hok.trans HA.out; subst hok; clear hl hlk))
           have hb13 : Below w1.heap.size w1 w3 := hB3
           have hk13 := Keep.of_below' hb13 (fun _ => False)
           go_roundw
           case rel =>
            refine ⟨k + 1, by omega, by go_num, ?_, HKP.out.trans ((hb1.trans (hb13.mono hz1)).mono hz)⟩
            rw [HS.out, HW.out, if_neg (by simp), HA.out, if_neg (by simp)]
            exact (HBB.out.keep hkb (fun q hq => hq.elim)).keep hk13 (fun q hq => hq.elim)
           case measure => simp [intOf]; omega
   · obtain rfl : k = N := by omega
     have hk1 : ¬ (k : Int) < (k : Int) := by omega
     have HB := hide hbest
     have HKP := hide hkeep
     clear hbest hkeep
     cases ho : FW k with
     | none =>
      have hb := HB.out
      rw [ho] at hb
      obtain ⟨rfl, rfl⟩ := hb
      go_wp2_with fail
      go_ret2
      rw [HR.out, ho]
      exact ⟨none, 0, rfl, IntsS.nil_, HB1.out.trans (HKP.out.mono HB1.out.size)⟩
     | some bb =>
      have hb := HB.out
      rw [ho] at hb
      obtain ⟨rfl, A, c, rfl, hb2, hb3⟩ := hb
      have HB2 := hide hb2
      clear hb2 hb3
      go_wp2_with fail
      go_ret2
      rw [HR.out, ho]
      exact ⟨A, c, rfl, HB2.out, HB1.out.trans (HKP.out.mono HB1.out.size)⟩
end Go.Proofs.YtocdmkilnbpkdaaGreatDoor
