/- The law ClaimClaim. -/
import Derived.Test.YtllmahcanipcpaaGreatLB
import Derived.Test.YtllmahcanipcpaaGreatLO
import Derived.Test.YtllmahcanipcpaaGreatTD
import Derived.Test.YtllmahcanipcpaaGreatST
import Derived.BigQuiet
import Derived.Laws.StructEq
import Derived.SizedLaws
import Derived.OwnWalkIn
import Derived.TacticsInMore
import Derived.Deep.DeepCutAuto
set_option linter.unusedVariables false
set_option linter.unusedSimpArgs false
namespace Go.Proofs.YtllmahcanipcpaaGreat
open Go.RowKit
attribute [local go_sem ↓] Go.wp_at_zero Go.wp_at_succ
attribute [local go_sem] Oper.semAt_some

theorem reach_more {n : Nat} (h : n * 24 ≤ reachBytes) : (n + 1) * 24 ≤ 140737488355328 := by unfold reachBytes at h; omega
set_option maxHeartbeats 8000000 in
set_option maxRecDepth 100000 in
theorem claimClaim_any {f : File} {fa : FA} {w : World} (h : FileV w w.heap.size f fa) (hr : f.claims.length * 24 ≤ reachBytes) (c : Claim) :
    Calls Tryz.prog 10 #[fileVal f fa, .agg #[.int .i64 c.lot, .int .i64 c.against, .int .i64 c.day]] w fun e w' => e = .returned (.bool true) ∧ Below w.heap.size w w' := by
  have hrb := reach_more hr
  clear hr
  have hB0 : Below w.heap.size w ((w.alloc (.cells (fileCells f fa) 28)).alloc (.cells #[.int .i64 c.lot, .int .i64 c.against, .int .i64 c.day] 59)) := ((Below.refl _ _).alloc (Nat.le_refl _) _).alloc (by simp) _
  have K : Hid (BoxF ((w.alloc (.cells (fileCells f fa) 28)).alloc (.cells #[.int .i64 c.lot, .int .i64 c.against, .int .i64 c.day] 59)) w.heap.size f fa) := hide ⟨h.next hB0, Blk.made.alloc _⟩
  have Q : Hid (Blk ((w.alloc (.cells (fileCells f fa) 28)).alloc (.cells #[.int .i64 c.lot, .int .i64 c.against, .int .i64 c.day] 59)) (w.heap.size + 1) 59 #[.int .i64 c.lot, .int .i64 c.against, .int .i64 c.day]) := hide (Blk.made' (by simp))
  have HB := hide hB0
  have HCL := hide (fun (a : someT f = true) (b : (checkM (moreF f c)).2.2 = 0) => (show (∃ oo oz : List Nat, openV f = (oo, 0) ∧ openV (moreF f c) = (oz, 0) ∧ (natInts oz).all (hasInt (natInts oo)) = true) ∧ _ from ⟨(open_more a (more_some a b)).imp fun oo ⟨oz, x, y, z, _⟩ => ⟨oz, x, y, z⟩, claim_laws a (more_some a b)⟩))
  clear h hB0
  go_enter Tryz.func10, Tryz.ntmps10
  go_upto_region 1 with (fail)
  generalize ((w.alloc (.cells (fileCells f fa) 28)).alloc (.cells #[.int .i64 c.lot, .int .i64 c.against, .int .i64 c.day] 59)) = y0 at *
  obtain ⟨zK, cK1, cK2, cK3, cK4, cK5⟩ := K.out.cells
  have zQ := Q.out.lt
  have cQ0 := Q.out.at_ 0
  have cQ1 := Q.out.at_ 1
  have cQ2 := Q.out.at_ 2
  simp only [List.getElem?_toArray, List.getElem?_cons_zero, List.getElem?_cons_succ] at cQ0 cQ1 cQ2
  go_upto_region 2 with (go_at_call 42; refine (more7_any K.out.v hrb c).mono ?_; rintro e y1 ⟨fb, rfl, hF, hb⟩)
  clear zK cK1 cK2 cK3 cK4 cK5 zQ cQ0 cQ1 cQ2
  have K := hide (K.out.next hb)
  have Q := hide (Q.out.next hb)
  have HB := hide (HB.out.trans (hb.mono HB.out.size))
  clear hb
  obtain ⟨zK, cK1, cK2, cK3, cK4, cK5⟩ := K.out.cells
  have zQ := Q.out.lt
  have cQ0 := Q.out.at_ 0
  have cQ1 := Q.out.at_ 1
  have cQ2 := Q.out.at_ 2
  simp only [List.getElem?_toArray, List.getElem?_cons_zero, List.getElem?_cons_succ] at cQ0 cQ1 cQ2
  clear zK cK1 cK2 cK3 cK4 cK5 zQ cQ0 cQ1 cQ2
  have Z := hide (BoxF.made hF)
  have hb : Below y1.heap.size y1 (y1.alloc (.cells (fileCells (moreF f c) fb) 28)) := (Below.refl _ _).alloc (Nat.le_refl _) _
  clear hF
  have K := hide (K.out.next hb)
  have Q := hide (Q.out.next hb)
  have HB := hide (HB.out.trans (hb.mono HB.out.size))
  clear hb
  generalize (y1.alloc (.cells (fileCells (moreF f c) fb) 28)) = y2 at *
  have HPN := hide (show (moreF f c).parties.length = f.parties.length from rfl)
  generalize moreF f c = zf at *
  cases hs : someT f with
  | false =>
    obtain ⟨zK, cK1, cK2, cK3, cK4, cK5⟩ := K.out.cells
    have zQ := Q.out.lt
    have cQ0 := Q.out.at_ 0
    have cQ1 := Q.out.at_ 1
    have cQ2 := Q.out.at_ 2
    simp only [List.getElem?_toArray, List.getElem?_cons_zero, List.getElem?_cons_succ] at cQ0 cQ1 cQ2
    obtain ⟨zZ, cZ1, cZ2, cZ3, cZ4, cZ5⟩ := Z.out.cells
    go_wp2_with fail
    refine (someL_any K.out.v hs).mono ?_
    rintro e y3 ⟨rfl, hb⟩
    clear zK cK1 cK2 cK3 cK4 cK5 zQ cQ0 cQ1 cQ2 zZ cZ1 cZ2 cZ3 cZ4 cZ5
    have K := hide (K.out.next hb)
    have Q := hide (Q.out.next hb)
    have Z := hide (Z.out.next hb)
    have HB := hide (HB.out.trans (hb.mono HB.out.size))
    clear hb
    obtain ⟨zK, cK1, cK2, cK3, cK4, cK5⟩ := K.out.cells
    have zQ := Q.out.lt
    have cQ0 := Q.out.at_ 0
    have cQ1 := Q.out.at_ 1
    have cQ2 := Q.out.at_ 2
    simp only [List.getElem?_toArray, List.getElem?_cons_zero, List.getElem?_cons_succ] at cQ0 cQ1 cQ2
    obtain ⟨zZ, cZ1, cZ2, cZ3, cZ4, cZ5⟩ := Z.out.cells
    go_wp2_with fail
    refine (awake_any _).mono ?_
    rintro e yz ⟨rfl, hb⟩
    go_wp2_with fail
    go_ret
    exact ⟨rfl, HB.out.trans (hb.mono HB.out.size)⟩
  | true =>
    have HS := hide hs
    obtain ⟨zK, cK1, cK2, cK3, cK4, cK5⟩ := K.out.cells
    have zQ := Q.out.lt
    have cQ0 := Q.out.at_ 0
    have cQ1 := Q.out.at_ 1
    have cQ2 := Q.out.at_ 2
    simp only [List.getElem?_toArray, List.getElem?_cons_zero, List.getElem?_cons_succ] at cQ0 cQ1 cQ2
    obtain ⟨zZ, cZ1, cZ2, cZ3, cZ4, cZ5⟩ := Z.out.cells
    go_wp2_with fail
    refine (someL_any K.out.v HS.out).mono ?_
    rintro e y3 ⟨rfl, hb⟩
    clear zK cK1 cK2 cK3 cK4 cK5 zQ cQ0 cQ1 cQ2 zZ cZ1 cZ2 cZ3 cZ4 cZ5
    have K := hide (K.out.next hb)
    have Q := hide (Q.out.next hb)
    have Z := hide (Z.out.next hb)
    have HB := hide (HB.out.trans (hb.mono HB.out.size))
    clear hb
    obtain ⟨zK, cK1, cK2, cK3, cK4, cK5⟩ := K.out.cells
    have zQ := Q.out.lt
    have cQ0 := Q.out.at_ 0
    have cQ1 := Q.out.at_ 1
    have cQ2 := Q.out.at_ 2
    simp only [List.getElem?_toArray, List.getElem?_cons_zero, List.getElem?_cons_succ] at cQ0 cQ1 cQ2
    obtain ⟨zZ, cZ1, cZ2, cZ3, cZ4, cZ5⟩ := Z.out.cells
    cases hz : decide ((checkM zf).2.2 = 0) with
    | false =>
      go_wp2_with fail
      refine (valid7_any Z.out.v hz).mono ?_
      rintro e y4 ⟨rfl, hb⟩
      clear zK cK1 cK2 cK3 cK4 cK5 zQ cQ0 cQ1 cQ2 zZ cZ1 cZ2 cZ3 cZ4 cZ5
      have K := hide (K.out.next hb)
      have Q := hide (Q.out.next hb)
      have Z := hide (Z.out.next hb)
      have HB := hide (HB.out.trans (hb.mono HB.out.size))
      clear hb
      obtain ⟨zK, cK1, cK2, cK3, cK4, cK5⟩ := K.out.cells
      have zQ := Q.out.lt
      have cQ0 := Q.out.at_ 0
      have cQ1 := Q.out.at_ 1
      have cQ2 := Q.out.at_ 2
      simp only [List.getElem?_toArray, List.getElem?_cons_zero, List.getElem?_cons_succ] at cQ0 cQ1 cQ2
      obtain ⟨zZ, cZ1, cZ2, cZ3, cZ4, cZ5⟩ := Z.out.cells
      go_wp2_with fail
      refine (awake_any _).mono ?_
      rintro e yz ⟨rfl, hb⟩
      go_wp2_with fail
      go_ret
      exact ⟨rfl, HB.out.trans (hb.mono HB.out.size)⟩
    | true =>
      have HZ := hide hz
      obtain ⟨h1, ss, sz, h2⟩ := HCL.out hs (of_decide_eq_true hz)
      obtain ⟨oo, oz, o1, o2, o3⟩ := h1
      have O1 := hide o1
      have O2 := hide o2
      have O3 := hide o3
      have H2 := hide h2
      have hpl4 := (some_ok hs).1.parties
      have hcl5 := (some_ok hs).1.claims
      clear h2 o1 o2 o3 HCL hs hz
      go_wp2_with fail
      refine (valid7_any Z.out.v HZ.out).mono ?_
      rintro e y4 ⟨rfl, hb⟩
      clear zK cK1 cK2 cK3 cK4 cK5 zQ cQ0 cQ1 cQ2 zZ cZ1 cZ2 cZ3 cZ4 cZ5
      have K := hide (K.out.next hb)
      have Q := hide (Q.out.next hb)
      have Z := hide (Z.out.next hb)
      have HB := hide (HB.out.trans (hb.mono HB.out.size))
      clear hb
      obtain ⟨zK, cK1, cK2, cK3, cK4, cK5⟩ := K.out.cells
      have zQ := Q.out.lt
      have cQ0 := Q.out.at_ 0
      have cQ1 := Q.out.at_ 1
      have cQ2 := Q.out.at_ 2
      simp only [List.getElem?_toArray, List.getElem?_cons_zero, List.getElem?_cons_succ] at cQ0 cQ1 cQ2
      obtain ⟨zZ, cZ1, cZ2, cZ3, cZ4, cZ5⟩ := Z.out.cells
      have hc := open_any K.out.v
      rw [O1.out] at hc
      dsimp only at hc
      go_wp2_with fail
      refine (hc).mono ?_
      rintro e y5 ⟨A5, q5, rfl, hi, hb⟩
      clear zK cK1 cK2 cK3 cK4 cK5 zQ cQ0 cQ1 cQ2 zZ cZ1 cZ2 cZ3 cZ4 cZ5
      have K := hide (K.out.next hb)
      have Q := hide (Q.out.next hb)
      have Z := hide (Z.out.next hb)
      have HB := hide (HB.out.trans (hb.mono HB.out.size))
      clear hb
      have J1 := hide hi
      clear hi
      obtain ⟨zK, cK1, cK2, cK3, cK4, cK5⟩ := K.out.cells
      have zQ := Q.out.lt
      have cQ0 := Q.out.at_ 0
      have cQ1 := Q.out.at_ 1
      have cQ2 := Q.out.at_ 2
      simp only [List.getElem?_toArray, List.getElem?_cons_zero, List.getElem?_cons_succ] at cQ0 cQ1 cQ2
      obtain ⟨zZ, cZ1, cZ2, cZ3, cZ4, cZ5⟩ := Z.out.cells
      have hc := open_any Z.out.v
      rw [O2.out] at hc
      dsimp only at hc
      go_wp2_with fail
      refine (hc).mono ?_
      rintro e y6 ⟨A6, q6, rfl, hi, hb⟩
      clear zK cK1 cK2 cK3 cK4 cK5 zQ cQ0 cQ1 cQ2 zZ cZ1 cZ2 cZ3 cZ4 cZ5
      have K := hide (K.out.next hb)
      have Q := hide (Q.out.next hb)
      have Z := hide (Z.out.next hb)
      have J1 := hide (J1.out.next hb)
      have HB := hide (HB.out.trans (hb.mono HB.out.size))
      clear hb
      have J2 := hide hi
      clear hi
      obtain ⟨zK, cK1, cK2, cK3, cK4, cK5⟩ := K.out.cells
      have zQ := Q.out.lt
      have cQ0 := Q.out.at_ 0
      have cQ1 := Q.out.at_ 1
      have cQ2 := Q.out.at_ 2
      simp only [List.getElem?_toArray, List.getElem?_cons_zero, List.getElem?_cons_succ] at cQ0 cQ1 cQ2
      obtain ⟨zZ, cZ1, cZ2, cZ3, cZ4, cZ5⟩ := Z.out.cells
      go_wp2_with fail
      refine (subset_any J2.out J1.out O3.out).mono ?_
      rintro e y7 ⟨rfl, rfl⟩
      go_wp2_with fail
      go_loopw [10, 11, 12, 13, 14, 15, 16] (fun v10 _ _ _ _ _ _ wr => ∃ j1 : Nat, j1 ≤ f.parties.length ∧ v10 = .int .i64 j1 ∧ Below y6.heap.size y6 wr) (fun v10 _ _ _ _ _ _ _ => f.parties.length - (intOf v10).toNat)
      case atStart => exact ⟨0, Nat.zero_le _, rfl, Below.refl _ _⟩
      case round =>
        obtain ⟨j1, hj1, rfl, hB⟩ := hrel
        obtain ⟨w1, rfl⟩ : ∃ w1 : World, w1 = wr := ⟨_, rfl⟩
        have hj10 : (0 : Int) ≤ (j1 : Int) := Int.natCast_nonneg _
        have HL1 := hide hB
        clear zK cK1 cK2 cK3 cK4 cK5 zQ cQ0 cQ1 cQ2 zZ cZ1 cZ2 cZ3 cZ4 cZ5
        have K := hide (K.out.next hB)
        have Q := hide (Q.out.next hB)
        have Z := hide (Z.out.next hB)
        have J1 := hide (J1.out.next hB)
        have J2 := hide (J2.out.next hB)
        have HB := hide (HB.out.trans (hB.mono HB.out.size))
        clear hB
        by_cases hlt1 : j1 < f.parties.length
        · have hj11 : (j1 : Int) < ((f.parties.length : Nat) : Int) := by omega
          obtain ⟨zK, cK1, cK2, cK3, cK4, cK5⟩ := K.out.cells
          have zQ := Q.out.lt
          have cQ0 := Q.out.at_ 0
          have cQ1 := Q.out.at_ 1
          have cQ2 := Q.out.at_ 2
          simp only [List.getElem?_toArray, List.getElem?_cons_zero, List.getElem?_cons_succ] at cQ0 cQ1 cQ2
          obtain ⟨zZ, cZ1, cZ2, cZ3, cZ4, cZ5⟩ := Z.out.cells
          go_wp2_with fail
          have HC0 := hide (show claimedTo f ((j1 : Nat) : Int) 0 = false from rfl)
          go_loopw [11, 12] (fun v11 v12 wr => ∃ j2 : Nat, j2 ≤ f.claims.length ∧ v12 = .int .i64 j2 ∧ Below w1.heap.size w1 wr ∧ v11 = .bool (claimedTo f ((j1 : Nat) : Int) j2)) (fun _ v12 _ => f.claims.length - (intOf v12).toNat)
          case atStart => exact ⟨0, Nat.zero_le _, rfl, Below.refl _ _, by rw [HC0.out]⟩
          case round =>
            obtain ⟨j2, hj2, rfl, hB, rfl⟩ := hrel
            obtain ⟨w2, rfl⟩ : ∃ w2 : World, w2 = wr := ⟨_, rfl⟩
            have hj20 : (0 : Int) ≤ (j2 : Int) := Int.natCast_nonneg _
            have HL2 := hide hB
            clear zK cK1 cK2 cK3 cK4 cK5 zQ cQ0 cQ1 cQ2 zZ cZ1 cZ2 cZ3 cZ4 cZ5
            have K := hide (K.out.next hB)
            have Q := hide (Q.out.next hB)
            have Z := hide (Z.out.next hB)
            have J1 := hide (J1.out.next hB)
            have J2 := hide (J2.out.next hB)
            have HB := hide (HB.out.trans (hB.mono HB.out.size))
            have HL1 := hide (HL1.out.trans (hB.mono HL1.out.size))
            clear hB
            by_cases hlt2 : j2 < f.claims.length
            · have hj21 : (j2 : Int) < ((f.claims.length : Nat) : Int) := by omega
              obtain ⟨zK, cK1, cK2, cK3, cK4, cK5⟩ := K.out.cells
              have zQ := Q.out.lt
              have cQ0 := Q.out.at_ 0
              have cQ1 := Q.out.at_ 1
              have cQ2 := Q.out.at_ 2
              simp only [List.getElem?_toArray, List.getElem?_cons_zero, List.getElem?_cons_succ] at cQ0 cQ1 cQ2
              obtain ⟨zZ, cZ1, cZ2, cZ3, cZ4, cZ5⟩ := Z.out.cells
              obtain ⟨bq, oq, eq_, hbq, hq1, hq2, hq3⟩ := K.out.v.claims.claims (show j2 < f.claims.length by omega)
              have HSU := hide (claimedTo_succ f ((j1 : Nat) : Int) j2)
              have zq := hbq
              generalize (nth f.claims j2).lot = q1 at *
              generalize (nth f.claims j2).against = q2 at *
              generalize (nth f.claims j2).day = q3 at *
              rw [eq_] at cK5
              clear eq_
              cases hct : claimedTo f ((j1 : Nat) : Int) j2 with
              | true =>
                have HX := hide (show claimedTo f ((j1 : Nat) : Int) (j2 + 1) = true by rw [HSU.out, hct]; rfl)
                go_wp2_with fail
                go_roundw
                case rel => exact ⟨j2 + 1, by omega, by go_num, HL2.out, by rw [HX.out]⟩
                case measure => simp [intOf]; omega
              | false =>
                cases hqe : (q2 == ((j1 : Nat) : Int)) with
                | true =>
                  have HX := hide (show claimedTo f ((j1 : Nat) : Int) (j2 + 1) = true by rw [HSU.out, hct, hqe]; rfl)
                  go_wp2_with fail
                  go_roundw
                  case rel => exact ⟨j2 + 1, by omega, by go_num, HL2.out, by rw [HX.out]⟩
                  case measure => simp [intOf]; omega
                | false =>
                  have HX := hide (show claimedTo f ((j1 : Nat) : Int) (j2 + 1) = false by rw [HSU.out, hct, hqe]; rfl)
                  go_wp2_with fail
                  go_roundw
                  case rel => exact ⟨j2 + 1, by omega, by go_num, HL2.out, by rw [HX.out]⟩
                  case measure => simp [intOf]; omega
            · have hx2 := hide (show j2 = f.claims.length by omega)
              obtain ⟨zK, cK1, cK2, cK3, cK4, cK5⟩ := K.out.cells
              have zQ := Q.out.lt
              have cQ0 := Q.out.at_ 0
              have cQ1 := Q.out.at_ 1
              have cQ2 := Q.out.at_ 2
              simp only [List.getElem?_toArray, List.getElem?_cons_zero, List.getElem?_cons_succ] at cQ0 cQ1 cQ2
              obtain ⟨zZ, cZ1, cZ2, cZ3, cZ4, cZ5⟩ := Z.out.cells
              obtain ⟨h21, h22, h23, h24, h25, h26⟩ := H2.out j1 hlt1
              have hcx := owesX K.out.v ((j1 : Nat) : Int) h21
              have H22 := hide h22
              have HCE := hide (show claimedTo f ((j1 : Nat) : Int) j2 = claimedTo f ((j1 : Nat) : Int) f.claims.length by rw [hx2.out])
              rw [HCE.out]
              have HN1 := hide h23
              have HN2 := hide h24
              have HN3 := hide h25
              have HN4 := hide h26
              clear h21 h22 h23 h24 h25 h26
              generalize ss j1 = s1 at *
              generalize sz j1 = s2 at *
              obtain ⟨a, b⟩ := s1
              obtain ⟨a2, b2⟩ := s2
              try dsimp only at hcx HN3 HN4
              have hc := hcx
              go_upto_region 17 with (go_at_call 17; refine (hc).mono ?_; rintro e y8 ⟨rfl, hb⟩)
              clear zK cK1 cK2 cK3 cK4 cK5 zQ cQ0 cQ1 cQ2 zZ cZ1 cZ2 cZ3 cZ4 cZ5
              have K := hide (K.out.next hb)
              have Q := hide (Q.out.next hb)
              have Z := hide (Z.out.next hb)
              have J1 := hide (J1.out.next hb)
              have J2 := hide (J2.out.next hb)
              have HB := hide (HB.out.trans (hb.mono HB.out.size))
              have HL1 := hide (HL1.out.trans (hb.mono HL1.out.size))
              clear hb
              obtain ⟨zK, cK1, cK2, cK3, cK4, cK5⟩ := K.out.cells
              have zQ := Q.out.lt
              have cQ0 := Q.out.at_ 0
              have cQ1 := Q.out.at_ 1
              have cQ2 := Q.out.at_ 2
              simp only [List.getElem?_toArray, List.getElem?_cons_zero, List.getElem?_cons_succ] at cQ0 cQ1 cQ2
              obtain ⟨zZ, cZ1, cZ2, cZ3, cZ4, cZ5⟩ := Z.out.cells
              clear zK cK1 cK2 cK3 cK4 cK5 zQ cQ0 cQ1 cQ2 zZ cZ1 cZ2 cZ3 cZ4 cZ5
              have hb : Below y8.heap.size y8 (y8.alloc (.cells #[.int .i64 a, .int .i64 b] 38)) := (Below.refl _ _).alloc (Nat.le_refl _) _
              have S1 : Hid (Blk (y8.alloc (.cells #[.int .i64 a, .int .i64 b] 38)) y8.heap.size 38 #[.int .i64 a, .int .i64 b]) := hide Blk.made
              have K := hide (K.out.next hb)
              have Q := hide (Q.out.next hb)
              have Z := hide (Z.out.next hb)
              have J1 := hide (J1.out.next hb)
              have J2 := hide (J2.out.next hb)
              have HB := hide (HB.out.trans (hb.mono HB.out.size))
              have HL1 := hide (HL1.out.trans (hb.mono HL1.out.size))
              clear hb
              generalize (y8.alloc (.cells #[.int .i64 a, .int .i64 b] 38)) = y9 at *
              obtain ⟨zK, cK1, cK2, cK3, cK4, cK5⟩ := K.out.cells
              have zQ := Q.out.lt
              have cQ0 := Q.out.at_ 0
              have cQ1 := Q.out.at_ 1
              have cQ2 := Q.out.at_ 2
              simp only [List.getElem?_toArray, List.getElem?_cons_zero, List.getElem?_cons_succ] at cQ0 cQ1 cQ2
              obtain ⟨zZ, cZ1, cZ2, cZ3, cZ4, cZ5⟩ := Z.out.cells
              have zS1 := S1.out.lt
              have cS10 := S1.out.at_ 0
              have cS11 := S1.out.at_ 1
              simp only [List.getElem?_toArray, List.getElem?_cons_zero, List.getElem?_cons_succ] at cS10 cS11
              have hc := owesX Z.out.v ((j1 : Nat) : Int) H22.out
              try dsimp only at hc
              go_upto_region 18 with (go_at_call 17; refine (hc).mono ?_; rintro e y10 ⟨rfl, hb⟩)
              clear zK cK1 cK2 cK3 cK4 cK5 zQ cQ0 cQ1 cQ2 zZ cZ1 cZ2 cZ3 cZ4 cZ5 zS1 cS10 cS11
              have K := hide (K.out.next hb)
              have Q := hide (Q.out.next hb)
              have Z := hide (Z.out.next hb)
              have J1 := hide (J1.out.next hb)
              have J2 := hide (J2.out.next hb)
              have S1 := hide (S1.out.next hb)
              have HB := hide (HB.out.trans (hb.mono HB.out.size))
              have HL1 := hide (HL1.out.trans (hb.mono HL1.out.size))
              clear hb
              obtain ⟨zK, cK1, cK2, cK3, cK4, cK5⟩ := K.out.cells
              have zQ := Q.out.lt
              have cQ0 := Q.out.at_ 0
              have cQ1 := Q.out.at_ 1
              have cQ2 := Q.out.at_ 2
              simp only [List.getElem?_toArray, List.getElem?_cons_zero, List.getElem?_cons_succ] at cQ0 cQ1 cQ2
              obtain ⟨zZ, cZ1, cZ2, cZ3, cZ4, cZ5⟩ := Z.out.cells
              have zS1 := S1.out.lt
              have cS10 := S1.out.at_ 0
              have cS11 := S1.out.at_ 1
              simp only [List.getElem?_toArray, List.getElem?_cons_zero, List.getElem?_cons_succ] at cS10 cS11
              clear zK cK1 cK2 cK3 cK4 cK5 zQ cQ0 cQ1 cQ2 zZ cZ1 cZ2 cZ3 cZ4 cZ5 zS1 cS10 cS11
              have hb : Below y10.heap.size y10 (y10.alloc (.cells #[.int .i64 a2, .int .i64 b2] 38)) := (Below.refl _ _).alloc (Nat.le_refl _) _
              have S2 : Hid (Blk (y10.alloc (.cells #[.int .i64 a2, .int .i64 b2] 38)) y10.heap.size 38 #[.int .i64 a2, .int .i64 b2]) := hide Blk.made
              have K := hide (K.out.next hb)
              have Q := hide (Q.out.next hb)
              have Z := hide (Z.out.next hb)
              have J1 := hide (J1.out.next hb)
              have J2 := hide (J2.out.next hb)
              have S1 := hide (S1.out.next hb)
              have HB := hide (HB.out.trans (hb.mono HB.out.size))
              have HL1 := hide (HL1.out.trans (hb.mono HL1.out.size))
              clear hb
              generalize (y10.alloc (.cells #[.int .i64 a2, .int .i64 b2] 38)) = y11 at *
              obtain ⟨zK, cK1, cK2, cK3, cK4, cK5⟩ := K.out.cells
              have zQ := Q.out.lt
              have cQ0 := Q.out.at_ 0
              have cQ1 := Q.out.at_ 1
              have cQ2 := Q.out.at_ 2
              simp only [List.getElem?_toArray, List.getElem?_cons_zero, List.getElem?_cons_succ] at cQ0 cQ1 cQ2
              obtain ⟨zZ, cZ1, cZ2, cZ3, cZ4, cZ5⟩ := Z.out.cells
              have zS1 := S1.out.lt
              have cS10 := S1.out.at_ 0
              have cS11 := S1.out.at_ 1
              simp only [List.getElem?_toArray, List.getElem?_cons_zero, List.getElem?_cons_succ] at cS10 cS11
              have zS2 := S2.out.lt
              have cS20 := S2.out.at_ 0
              have cS21 := S2.out.at_ 1
              simp only [List.getElem?_toArray, List.getElem?_cons_zero, List.getElem?_cons_succ] at cS20 cS21
              have hn3 := HN3.out
              have hn4 := HN4.out
              have hgt : Tryz.prog.eqGuardType Tryz.prog.depth 38 = false := by kernel_rfl
              cases hcm : claimedTo f ((j1 : Nat) : Int) f.claims.length with
              | true =>
                cases hne : (((j1 : Nat) : Int) != c.against) with
                | true =>
                  obtain ⟨rfl, rfl⟩ : a = a2 ∧ b = b2 := by have := HN2.out (by simpa using hne); simpa using this
                  go_wp2_with fail
                  refine wp_region_rel (dst := fun oi => [88, 89, 90, 91, 92, 93, 94, 95, 96, 97, 98, 99, 100, 101, 102, 103, 104, 105, 106, 107, 108, 109, 110, 111, 112, 113, 114, 115, 116, 117, 118, 119, 120, 121, 122, 123, 124, 125, 126, 127].getD oi 0) (mono := fun oi => decide (oi < 40)) (pre := fun oi => decide (oi < 40)) (R := LKeep (fun _ => False) (fun _ => True))
                    (Pv := fun oi v W => match oi with
                      | 0 => v = .int .i64 0
                      | 1 => v = .bool false
                      | 2 => v = .bool false
                      | 3 => v = .int .i64 0
                      | 4 => v = .bool false
                      | 5 => v = .bool false
                      | 6 => v = .bool false
                      | 7 => v = .bool true
                      | 8 => v = .bool false
                      | 9 => v = .bool false
                      | 10 => v = undef
                      | 11 => v = undef
                      | 12 => v = undef
                      | 13 => v = .bool false
                      | 14 => v = .bool false
                      | 15 => v = .bool false
                      | 16 => v = .int .i64 (j1 : Nat)
                      | 17 => v = .pointer (some ⟨w.heap.size + 1, 1, none⟩)
                      | 18 => v = .int .i64 c.against
                      | 19 => v = .bool true
                      | 20 => v = .bool true
                      | 21 => v = .agg #[.int .i64 (a), .int .i64 (b)]
                      | 22 => v = .agg #[.int .i64 (a), .int .i64 (b)]
                      | 23 => v = .bool false
                      | 24 => v = .bool false
                      | 25 => v = .bool false
                      | 26 => v = .bool false
                      | 27 => v = .pointer (some ⟨y10.heap.size, 1, none⟩)
                      | 28 => v = .int .i64 (b)
                      | 29 => v = .pointer (some ⟨y8.heap.size, 1, none⟩)
                      | 30 => v = .int .i64 (b)
                      | 31 => v = .bool false
                      | 32 => v = .bool false
                      | 33 => v = .bool false
                      | 34 => v = .pointer (some ⟨y10.heap.size, 0, none⟩)
                      | 35 => v = .int .i64 (a)
                      | 36 => v = .pointer (some ⟨y8.heap.size, 0, none⟩)
                      | 37 => v = .int .i64 (a)
                      | 38 => v = .bool false
                      | 39 => v = .bool false
                      | _ => True) (by kernel_rfl) (by kernel_rfl) (LKeep.refl _ _) (fun _ _ _ h h' => h.trans h') ?hstT11 ?hstepT11 ?hendT11
                  case hstT11 =>
                    intro oi v W W' h hk
                    match oi, h with
                    | 0, h => exact h
                    | 1, h => exact h
                    | 2, h => exact h
                    | 3, h => exact h
                    | 4, h => exact h
                    | 5, h => exact h
                    | 6, h => exact h
                    | 7, h => exact h
                    | 8, h => exact h
                    | 9, h => exact h
                    | 10, h => exact h
                    | 11, h => exact h
                    | 12, h => exact h
                    | 13, h => exact h
                    | 14, h => exact h
                    | 15, h => exact h
                    | 16, h => exact h
                    | 17, h => exact h
                    | 18, h => exact h
                    | 19, h => exact h
                    | 20, h => exact h
                    | 21, h => exact h
                    | 22, h => exact h
                    | 23, h => exact h
                    | 24, h => exact h
                    | 25, h => exact h
                    | 26, h => exact h
                    | 27, h => exact h
                    | 28, h => exact h
                    | 29, h => exact h
                    | 30, h => exact h
                    | 31, h => exact h
                    | 32, h => exact h
                    | 33, h => exact h
                    | 34, h => exact h
                    | 35, h => exact h
                    | 36, h => exact h
                    | 37, h => exact h
                    | 38, h => exact h
                    | 39, h => exact h
                    | oi + 40, h => exact trivial
                  case hstepT11 =>
                    intro oi hoi hom listed vs ao W hU hk0 hpv haft Ko hK
                    have hkk := (LKeep.drew (fun _ => False) (M := fun _ => True) y11 (fun h => h)).trans hk0
                    have hk := hkk.1
                    have hkm := hkk.2
                    clear hkk
                    match oi, hoi, hom with
                    | 0, hoi, hom =>
                      have z14 : ao.tmps[14]?.getD undef = .int .i64 0 := hU.same 14 (by decide)
                      refine wpOp_value (v := .int .i64 0) (W' := W) rfl rfl ?_ (hK _ _ (LKeep.refl _ _ _) rfl)
                      go_simp
                    | 1, hoi, hom =>
                      have l0 := haft _ rfl { on := 0, ground := .data } (by simp) rfl
                      have hv0 : vs 0 = .int .i64 0 := hpv 0 l0
                      have s0 : ao.tmps[88]?.getD undef = vs 0 := hU.slot 0 (by decide) l0
                      rw [hv0] at s0
                      refine wpOp_value (v := .bool false) (W' := W) rfl rfl ?_ (hK _ _ (LKeep.refl _ _ _) rfl)
                      go_simp
                    | 2, hoi, hom =>
                      have l1 := haft _ rfl { on := 1, ground := .data } (by simp) rfl
                      have hv1 : vs 1 = .bool false := hpv 1 l1
                      have s1 : ao.tmps[89]?.getD undef = vs 1 := hU.slot 1 (by decide) l1
                      rw [hv1] at s1
                      refine wpOp_value (v := .bool false) (W' := W) rfl rfl ?_ (hK _ _ (LKeep.refl _ _ _) rfl)
                      go_simp
                    | 3, hoi, hom =>
                      have l2 := haft _ rfl { on := 2, ground := .guard } (by simp) rfl
                      have hv2 : vs 2 = .bool false := hpv 2 l2
                      have s2 : ao.tmps[90]?.getD undef = vs 2 := hU.slot 2 (by decide) l2
                      rw [hv2] at s2
                      have z16 : ao.tmps[16]?.getD undef = .int .i64 0 := hU.same 16 (by decide)
                      refine wpOp_wanted (v := .int .i64 0) (W' := W) rfl ?_ ?_ (hK _ _ (LKeep.refl _ _ _) rfl)
                      · refine wanted_yes (j := 2) (d := 90) ?_ ?_ s2 <;> rfl
                      go_simp
                    | 4, hoi, hom =>
                      have l2 := haft _ rfl { on := 2, ground := .guard } (by simp) rfl
                      have hv2 : vs 2 = .bool false := hpv 2 l2
                      have s2 : ao.tmps[90]?.getD undef = vs 2 := hU.slot 2 (by decide) l2
                      rw [hv2] at s2
                      have l3 := haft _ rfl { on := 3, ground := .data } (by simp) rfl
                      have hv3 : vs 3 = .int .i64 0 := hpv 3 l3
                      have s3 : ao.tmps[91]?.getD undef = vs 3 := hU.slot 3 (by decide) l3
                      rw [hv3] at s3
                      refine wpOp_wanted (v := .bool false) (W' := W) rfl ?_ ?_ (hK _ _ (LKeep.refl _ _ _) rfl)
                      · refine wanted_yes (j := 2) (d := 90) ?_ ?_ s2 <;> rfl
                      go_simp
                    | 5, hoi, hom =>
                      have l2 := haft _ rfl { on := 2, ground := .data } (by simp) rfl
                      have hv2 : vs 2 = .bool false := hpv 2 l2
                      have s2 : ao.tmps[90]?.getD undef = vs 2 := hU.slot 2 (by decide) l2
                      rw [hv2] at s2
                      have l4 := haft _ rfl { on := 4, ground := .data } (by simp) rfl
                      have hv4 : vs 4 = .bool false := hpv 4 l4
                      have s4 : ao.tmps[92]?.getD undef = vs 4 := hU.slot 4 (by decide) l4
                      rw [hv4] at s4
                      refine wpOp_value (v := .bool false) (W' := W) rfl rfl ?_ (hK _ _ (LKeep.refl _ _ _) rfl)
                      go_simp
                    | 6, hoi, hom =>
                      have l5 := haft _ rfl { on := 5, ground := .data } (by simp) rfl
                      have hv5 : vs 5 = .bool false := hpv 5 l5
                      have s5 : ao.tmps[93]?.getD undef = vs 5 := hU.slot 5 (by decide) l5
                      rw [hv5] at s5
                      refine wpOp_value (v := .bool false) (W' := W) rfl rfl ?_ (hK _ _ (LKeep.refl _ _ _) rfl)
                      go_simp
                    | 7, hoi, hom =>
                      have l6 := haft _ rfl { on := 6, ground := .guard } (by simp) rfl
                      have hv6 : vs 6 = .bool false := hpv 6 l6
                      have s6 : ao.tmps[94]?.getD undef = vs 6 := hU.slot 6 (by decide) l6
                      rw [hv6] at s6
                      have z11 : ao.tmps[11]?.getD undef = .bool true := hU.same 11 (by decide)
                      refine wpOp_wanted (v := .bool true) (W' := W) rfl ?_ ?_ (hK _ _ (LKeep.refl _ _ _) rfl)
                      · refine wanted_yes (j := 6) (d := 94) ?_ ?_ s6 <;> rfl
                      go_simp
                    | 8, hoi, hom =>
                      have l6 := haft _ rfl { on := 6, ground := .guard } (by simp) rfl
                      have hv6 : vs 6 = .bool false := hpv 6 l6
                      have s6 : ao.tmps[94]?.getD undef = vs 6 := hU.slot 6 (by decide) l6
                      rw [hv6] at s6
                      have l7 := haft _ rfl { on := 7, ground := .data } (by simp) rfl
                      have hv7 : vs 7 = .bool true := hpv 7 l7
                      have s7 : ao.tmps[95]?.getD undef = vs 7 := hU.slot 7 (by decide) l7
                      rw [hv7] at s7
                      refine wpOp_wanted (v := .bool false) (W' := W) rfl ?_ ?_ (hK _ _ (LKeep.refl _ _ _) rfl)
                      · refine wanted_yes (j := 6) (d := 94) ?_ ?_ s6 <;> rfl
                      go_simp
                    | 9, hoi, hom =>
                      have l6 := haft _ rfl { on := 6, ground := .guard } (by simp) rfl
                      have hv6 : vs 6 = .bool false := hpv 6 l6
                      have s6 : ao.tmps[94]?.getD undef = vs 6 := hU.slot 6 (by decide) l6
                      rw [hv6] at s6
                      have l8 := haft _ rfl { on := 8, ground := .data } (by simp) rfl
                      have hv8 : vs 8 = .bool false := hpv 8 l8
                      have s8 : ao.tmps[96]?.getD undef = vs 8 := hU.slot 8 (by decide) l8
                      rw [hv8] at s8
                      refine wpOp_wanted (v := .bool false) (W' := W) rfl ?_ ?_ (hK _ _ (LKeep.refl _ _ _) rfl)
                      · refine wanted_yes (j := 6) (d := 94) ?_ ?_ s6 <;> rfl
                      go_simp
                    | 10, hoi, hom =>
                      have l9 := haft _ rfl { on := 9, ground := .guard } (by simp) rfl
                      have hv9 : vs 9 = .bool false := hpv 9 l9
                      have s9 : ao.tmps[97]?.getD undef = vs 9 := hU.slot 9 (by decide) l9
                      rw [hv9] at s9
                      refine wpOp_unwanted rfl ?_ (hK _ _ (LKeep.refl _ _ _) rfl)
                      refine wanted_no (j := 9) (d := 97) ?_ ?_ s9 <;> rfl
                    | 11, hoi, hom =>
                      have l9 := haft _ rfl { on := 9, ground := .guard } (by simp) rfl
                      have hv9 : vs 9 = .bool false := hpv 9 l9
                      have s9 : ao.tmps[97]?.getD undef = vs 9 := hU.slot 9 (by decide) l9
                      rw [hv9] at s9
                      refine wpOp_unwanted rfl ?_ (hK _ _ (LKeep.refl _ _ _) rfl)
                      refine wanted_no (j := 9) (d := 97) ?_ ?_ s9 <;> rfl
                    | 12, hoi, hom =>
                      have l9 := haft _ rfl { on := 9, ground := .guard } (by simp) rfl
                      have hv9 : vs 9 = .bool false := hpv 9 l9
                      have s9 : ao.tmps[97]?.getD undef = vs 9 := hU.slot 9 (by decide) l9
                      rw [hv9] at s9
                      refine wpOp_unwanted rfl ?_ (hK _ _ (LKeep.refl _ _ _) rfl)
                      refine wanted_no (j := 9) (d := 97) ?_ ?_ s9 <;> rfl
                    | 13, hoi, hom =>
                      have l6 := haft _ rfl { on := 6, ground := .guard } (by simp) rfl
                      have hv6 : vs 6 = .bool false := hpv 6 l6
                      have s6 : ao.tmps[94]?.getD undef = vs 6 := hU.slot 6 (by decide) l6
                      rw [hv6] at s6
                      have l9 := haft _ rfl { on := 9, ground := .data } (by simp) rfl
                      have hv9 : vs 9 = .bool false := hpv 9 l9
                      have s9 : ao.tmps[97]?.getD undef = vs 9 := hU.slot 9 (by decide) l9
                      rw [hv9] at s9
                      have l12 := haft _ rfl { on := 12, ground := .data } (by simp) rfl
                      have hv12 : vs 12 = undef := hpv 12 l12
                      have s12 : ao.tmps[100]?.getD undef = vs 12 := hU.slot 12 (by decide) l12
                      rw [hv12] at s12
                      refine wpOp_wanted (v := .bool false) (W' := W) rfl ?_ ?_ (hK _ _ (LKeep.refl _ _ _) rfl)
                      · refine wanted_yes (j := 6) (d := 94) ?_ ?_ s6 <;> rfl
                      go_simp
                    | 14, hoi, hom =>
                      have l6 := haft _ rfl { on := 6, ground := .data } (by simp) rfl
                      have hv6 : vs 6 = .bool false := hpv 6 l6
                      have s6 : ao.tmps[94]?.getD undef = vs 6 := hU.slot 6 (by decide) l6
                      rw [hv6] at s6
                      have l13 := haft _ rfl { on := 13, ground := .data } (by simp) rfl
                      have hv13 : vs 13 = .bool false := hpv 13 l13
                      have s13 : ao.tmps[101]?.getD undef = vs 13 := hU.slot 13 (by decide) l13
                      rw [hv13] at s13
                      refine wpOp_value (v := .bool false) (W' := W) rfl rfl ?_ (hK _ _ (LKeep.refl _ _ _) rfl)
                      go_simp
                    | 15, hoi, hom =>
                      have l14 := haft _ rfl { on := 14, ground := .data } (by simp) rfl
                      have hv14 : vs 14 = .bool false := hpv 14 l14
                      have s14 : ao.tmps[102]?.getD undef = vs 14 := hU.slot 14 (by decide) l14
                      rw [hv14] at s14
                      refine wpOp_value (v := .bool false) (W' := W) rfl rfl ?_ (hK _ _ (LKeep.refl _ _ _) rfl)
                      go_simp
                    | 16, hoi, hom =>
                      have l15 := haft _ rfl { on := 15, ground := .guard } (by simp) rfl
                      have hv15 : vs 15 = .bool false := hpv 15 l15
                      have s15 : ao.tmps[103]?.getD undef = vs 15 := hU.slot 15 (by decide) l15
                      rw [hv15] at s15
                      have z10 : ao.tmps[10]?.getD undef = .int .i64 (j1 : Nat) := hU.same 10 (by decide)
                      refine wpOp_wanted (v := .int .i64 (j1 : Nat)) (W' := W) rfl ?_ ?_ (hK _ _ (LKeep.refl _ _ _) rfl)
                      · refine wanted_yes (j := 15) (d := 103) ?_ ?_ s15 <;> rfl
                      go_simp
                    | 17, hoi, hom =>
                      have l15 := haft _ rfl { on := 15, ground := .guard } (by simp) rfl
                      have hv15 : vs 15 = .bool false := hpv 15 l15
                      have s15 : ao.tmps[103]?.getD undef = vs 15 := hU.slot 15 (by decide) l15
                      rw [hv15] at s15
                      have z3 : ao.tmps[3]?.getD undef = .pointer (some ⟨w.heap.size + 1, 0, none⟩) := hU.same 3 (by decide)
                      refine wpOp_wanted (v := .pointer (some ⟨w.heap.size + 1, 1, none⟩)) (W' := W) rfl ?_ ?_ (hK _ _ (LKeep.refl _ _ _) rfl)
                      · refine wanted_yes (j := 15) (d := 103) ?_ ?_ s15 <;> rfl
                      go_simp
                    | 18, hoi, hom =>
                      have l15 := haft _ rfl { on := 15, ground := .guard } (by simp) rfl
                      have hv15 : vs 15 = .bool false := hpv 15 l15
                      have s15 : ao.tmps[103]?.getD undef = vs 15 := hU.slot 15 (by decide) l15
                      rw [hv15] at s15
                      have l17 := haft _ rfl { on := 17, ground := .data } (by simp) rfl
                      have hv17 : vs 17 = .pointer (some ⟨w.heap.size + 1, 1, none⟩) := hpv 17 l17
                      have s17 : ao.tmps[105]?.getD undef = vs 17 := hU.slot 17 (by decide) l17
                      rw [hv17] at s17
                      have y0 := (hk.cell (b := w.heap.size + 1) (o := 1) (zQ) (fun h => h)).trans (cQ1)
                      refine wpOp_wanted (v := .int .i64 c.against) (W' := W) rfl ?_ ?_ (hK _ _ (LKeep.refl _ _ _) rfl)
                      · refine wanted_yes (j := 15) (d := 103) ?_ ?_ s15 <;> rfl
                      go_simp
                    | 19, hoi, hom =>
                      have l15 := haft _ rfl { on := 15, ground := .guard } (by simp) rfl
                      have hv15 : vs 15 = .bool false := hpv 15 l15
                      have s15 : ao.tmps[103]?.getD undef = vs 15 := hU.slot 15 (by decide) l15
                      rw [hv15] at s15
                      have l16 := haft _ rfl { on := 16, ground := .data } (by simp) rfl
                      have hv16 : vs 16 = .int .i64 (j1 : Nat) := hpv 16 l16
                      have s16 : ao.tmps[104]?.getD undef = vs 16 := hU.slot 16 (by decide) l16
                      rw [hv16] at s16
                      have l18 := haft _ rfl { on := 18, ground := .data } (by simp) rfl
                      have hv18 : vs 18 = .int .i64 c.against := hpv 18 l18
                      have s18 : ao.tmps[106]?.getD undef = vs 18 := hU.slot 18 (by decide) l18
                      rw [hv18] at s18
                      refine wpOp_wanted (v := .bool true) (W' := W) rfl ?_ ?_ (hK _ _ (LKeep.refl _ _ _) rfl)
                      · refine wanted_yes (j := 15) (d := 103) ?_ ?_ s15 <;> rfl
                      go_simp
                    | 20, hoi, hom =>
                      have l15 := haft _ rfl { on := 15, ground := .guard } (by simp) rfl
                      have hv15 : vs 15 = .bool false := hpv 15 l15
                      have s15 : ao.tmps[103]?.getD undef = vs 15 := hU.slot 15 (by decide) l15
                      rw [hv15] at s15
                      have l19 := haft _ rfl { on := 19, ground := .data } (by simp) rfl
                      have hv19 : vs 19 = .bool true := hpv 19 l19
                      have s19 : ao.tmps[107]?.getD undef = vs 19 := hU.slot 19 (by decide) l19
                      rw [hv19] at s19
                      refine wpOp_wanted (v := .bool true) (W' := W) rfl ?_ ?_ (hK _ _ (LKeep.refl _ _ _) rfl)
                      · refine wanted_yes (j := 15) (d := 103) ?_ ?_ s15 <;> rfl
                      go_simp
                    | 21, hoi, hom =>
                      have l20 := haft _ rfl { on := 20, ground := .guard } (by simp) rfl
                      have hv20 : vs 20 = .bool true := hpv 20 l20
                      have s20 : ao.tmps[108]?.getD undef = vs 20 := hU.slot 20 (by decide) l20
                      rw [hv20] at s20
                      have z13 : ao.tmps[13]?.getD undef = .pointer (some ⟨y8.heap.size, 0, none⟩) := hU.same 13 (by decide)
                      have y0 := (hk.cell (b := y8.heap.size) (o := 0) (zS1) (fun h => h)).trans (cS10)
                      have y1 := (hk.cell (b := y8.heap.size) (o := 1) (zS1) (fun h => h)).trans (cS11)
                      refine wpOp_wanted (v := .agg #[.int .i64 (a), .int .i64 (b)]) (W' := W) rfl ?_ ?_ (hK _ _ (LKeep.refl _ _ _) rfl)
                      · refine wanted_yes (j := 20) (d := 108) ?_ ?_ s20 <;> rfl
                      go_simp
                    | 22, hoi, hom =>
                      have l20 := haft _ rfl { on := 20, ground := .guard } (by simp) rfl
                      have hv20 : vs 20 = .bool true := hpv 20 l20
                      have s20 : ao.tmps[108]?.getD undef = vs 20 := hU.slot 20 (by decide) l20
                      rw [hv20] at s20
                      have z15 : ao.tmps[15]?.getD undef = .pointer (some ⟨y10.heap.size, 0, none⟩) := hU.same 15 (by decide)
                      have y0 := (hk.cell (b := y10.heap.size) (o := 0) (zS2) (fun h => h)).trans (cS20)
                      have y1 := (hk.cell (b := y10.heap.size) (o := 1) (zS2) (fun h => h)).trans (cS21)
                      refine wpOp_wanted (v := .agg #[.int .i64 (a), .int .i64 (b)]) (W' := W) rfl ?_ ?_ (hK _ _ (LKeep.refl _ _ _) rfl)
                      · refine wanted_yes (j := 20) (d := 108) ?_ ?_ s20 <;> rfl
                      go_simp
                    | 23, hoi, hom =>
                      have l20 := haft _ rfl { on := 20, ground := .guard } (by simp) rfl
                      have hv20 : vs 20 = .bool true := hpv 20 l20
                      have s20 : ao.tmps[108]?.getD undef = vs 20 := hU.slot 20 (by decide) l20
                      rw [hv20] at s20
                      have l21 := haft _ rfl { on := 21, ground := .data } (by simp) rfl
                      have hv21 : vs 21 = .agg #[.int .i64 (a), .int .i64 (b)] := hpv 21 l21
                      have s21 : ao.tmps[109]?.getD undef = vs 21 := hU.slot 21 (by decide) l21
                      rw [hv21] at s21
                      have l22 := haft _ rfl { on := 22, ground := .data } (by simp) rfl
                      have hv22 : vs 22 = .agg #[.int .i64 (a), .int .i64 (b)] := hpv 22 l22
                      have s22 : ao.tmps[110]?.getD undef = vs 22 := hU.slot 22 (by decide) l22
                      rw [hv22] at s22
                      refine wpOp_wanted (v := .bool false) (W' := W) rfl ?_ ?_ (hK _ _ (LKeep.refl _ _ _) rfl)
                      · refine wanted_yes (j := 20) (d := 108) ?_ ?_ s20 <;> rfl
                      go_simp
                    | 24, hoi, hom =>
                      have l15 := haft _ rfl { on := 15, ground := .guard } (by simp) rfl
                      have hv15 : vs 15 = .bool false := hpv 15 l15
                      have s15 : ao.tmps[103]?.getD undef = vs 15 := hU.slot 15 (by decide) l15
                      rw [hv15] at s15
                      have l20 := haft _ rfl { on := 20, ground := .data } (by simp) rfl
                      have hv20 : vs 20 = .bool true := hpv 20 l20
                      have s20 : ao.tmps[108]?.getD undef = vs 20 := hU.slot 20 (by decide) l20
                      rw [hv20] at s20
                      have l23 := haft _ rfl { on := 23, ground := .data } (by simp) rfl
                      have hv23 : vs 23 = .bool false := hpv 23 l23
                      have s23 : ao.tmps[111]?.getD undef = vs 23 := hU.slot 23 (by decide) l23
                      rw [hv23] at s23
                      refine wpOp_wanted (v := .bool false) (W' := W) rfl ?_ ?_ (hK _ _ (LKeep.refl _ _ _) rfl)
                      · refine wanted_yes (j := 15) (d := 103) ?_ ?_ s15 <;> rfl
                      go_simp
                    | 25, hoi, hom =>
                      have l15 := haft _ rfl { on := 15, ground := .data } (by simp) rfl
                      have hv15 : vs 15 = .bool false := hpv 15 l15
                      have s15 : ao.tmps[103]?.getD undef = vs 15 := hU.slot 15 (by decide) l15
                      rw [hv15] at s15
                      have l24 := haft _ rfl { on := 24, ground := .data } (by simp) rfl
                      have hv24 : vs 24 = .bool false := hpv 24 l24
                      have s24 : ao.tmps[112]?.getD undef = vs 24 := hU.slot 24 (by decide) l24
                      rw [hv24] at s24
                      refine wpOp_value (v := .bool false) (W' := W) rfl rfl ?_ (hK _ _ (LKeep.refl _ _ _) rfl)
                      go_simp
                    | 26, hoi, hom =>
                      have l25 := haft _ rfl { on := 25, ground := .data } (by simp) rfl
                      have hv25 : vs 25 = .bool false := hpv 25 l25
                      have s25 : ao.tmps[113]?.getD undef = vs 25 := hU.slot 25 (by decide) l25
                      rw [hv25] at s25
                      refine wpOp_value (v := .bool false) (W' := W) rfl rfl ?_ (hK _ _ (LKeep.refl _ _ _) rfl)
                      go_simp
                    | 27, hoi, hom =>
                      have l26 := haft _ rfl { on := 26, ground := .guard } (by simp) rfl
                      have hv26 : vs 26 = .bool false := hpv 26 l26
                      have s26 : ao.tmps[114]?.getD undef = vs 26 := hU.slot 26 (by decide) l26
                      rw [hv26] at s26
                      have z15 : ao.tmps[15]?.getD undef = .pointer (some ⟨y10.heap.size, 0, none⟩) := hU.same 15 (by decide)
                      refine wpOp_wanted (v := .pointer (some ⟨y10.heap.size, 1, none⟩)) (W' := W) rfl ?_ ?_ (hK _ _ (LKeep.refl _ _ _) rfl)
                      · refine wanted_yes (j := 26) (d := 114) ?_ ?_ s26 <;> rfl
                      go_simp
                    | 28, hoi, hom =>
                      have l26 := haft _ rfl { on := 26, ground := .guard } (by simp) rfl
                      have hv26 : vs 26 = .bool false := hpv 26 l26
                      have s26 : ao.tmps[114]?.getD undef = vs 26 := hU.slot 26 (by decide) l26
                      rw [hv26] at s26
                      have l27 := haft _ rfl { on := 27, ground := .data } (by simp) rfl
                      have hv27 : vs 27 = .pointer (some ⟨y10.heap.size, 1, none⟩) := hpv 27 l27
                      have s27 : ao.tmps[115]?.getD undef = vs 27 := hU.slot 27 (by decide) l27
                      rw [hv27] at s27
                      have y0 := (hk.cell (b := y10.heap.size) (o := 1) (zS2) (fun h => h)).trans (cS21)
                      refine wpOp_wanted (v := .int .i64 (b)) (W' := W) rfl ?_ ?_ (hK _ _ (LKeep.refl _ _ _) rfl)
                      · refine wanted_yes (j := 26) (d := 114) ?_ ?_ s26 <;> rfl
                      go_simp
                    | 29, hoi, hom =>
                      have l26 := haft _ rfl { on := 26, ground := .guard } (by simp) rfl
                      have hv26 : vs 26 = .bool false := hpv 26 l26
                      have s26 : ao.tmps[114]?.getD undef = vs 26 := hU.slot 26 (by decide) l26
                      rw [hv26] at s26
                      have z13 : ao.tmps[13]?.getD undef = .pointer (some ⟨y8.heap.size, 0, none⟩) := hU.same 13 (by decide)
                      refine wpOp_wanted (v := .pointer (some ⟨y8.heap.size, 1, none⟩)) (W' := W) rfl ?_ ?_ (hK _ _ (LKeep.refl _ _ _) rfl)
                      · refine wanted_yes (j := 26) (d := 114) ?_ ?_ s26 <;> rfl
                      go_simp
                    | 30, hoi, hom =>
                      have l26 := haft _ rfl { on := 26, ground := .guard } (by simp) rfl
                      have hv26 : vs 26 = .bool false := hpv 26 l26
                      have s26 : ao.tmps[114]?.getD undef = vs 26 := hU.slot 26 (by decide) l26
                      rw [hv26] at s26
                      have l29 := haft _ rfl { on := 29, ground := .data } (by simp) rfl
                      have hv29 : vs 29 = .pointer (some ⟨y8.heap.size, 1, none⟩) := hpv 29 l29
                      have s29 : ao.tmps[117]?.getD undef = vs 29 := hU.slot 29 (by decide) l29
                      rw [hv29] at s29
                      have y0 := (hk.cell (b := y8.heap.size) (o := 1) (zS1) (fun h => h)).trans (cS11)
                      refine wpOp_wanted (v := .int .i64 (b)) (W' := W) rfl ?_ ?_ (hK _ _ (LKeep.refl _ _ _) rfl)
                      · refine wanted_yes (j := 26) (d := 114) ?_ ?_ s26 <;> rfl
                      go_simp
                    | 31, hoi, hom =>
                      have l26 := haft _ rfl { on := 26, ground := .guard } (by simp) rfl
                      have hv26 : vs 26 = .bool false := hpv 26 l26
                      have s26 : ao.tmps[114]?.getD undef = vs 26 := hU.slot 26 (by decide) l26
                      rw [hv26] at s26
                      have l28 := haft _ rfl { on := 28, ground := .data } (by simp) rfl
                      have hv28 : vs 28 = .int .i64 (b) := hpv 28 l28
                      have s28 : ao.tmps[116]?.getD undef = vs 28 := hU.slot 28 (by decide) l28
                      rw [hv28] at s28
                      have l30 := haft _ rfl { on := 30, ground := .data } (by simp) rfl
                      have hv30 : vs 30 = .int .i64 (b) := hpv 30 l30
                      have s30 : ao.tmps[118]?.getD undef = vs 30 := hU.slot 30 (by decide) l30
                      rw [hv30] at s30
                      refine wpOp_wanted (v := .bool false) (W' := W) rfl ?_ ?_ (hK _ _ (LKeep.refl _ _ _) rfl)
                      · refine wanted_yes (j := 26) (d := 114) ?_ ?_ s26 <;> rfl
                      go_simp
                    | 32, hoi, hom =>
                      have l26 := haft _ rfl { on := 26, ground := .data } (by simp) rfl
                      have hv26 : vs 26 = .bool false := hpv 26 l26
                      have s26 : ao.tmps[114]?.getD undef = vs 26 := hU.slot 26 (by decide) l26
                      rw [hv26] at s26
                      have l31 := haft _ rfl { on := 31, ground := .data } (by simp) rfl
                      have hv31 : vs 31 = .bool false := hpv 31 l31
                      have s31 : ao.tmps[119]?.getD undef = vs 31 := hU.slot 31 (by decide) l31
                      rw [hv31] at s31
                      refine wpOp_value (v := .bool false) (W' := W) rfl rfl ?_ (hK _ _ (LKeep.refl _ _ _) rfl)
                      go_simp
                    | 33, hoi, hom =>
                      have l32 := haft _ rfl { on := 32, ground := .data } (by simp) rfl
                      have hv32 : vs 32 = .bool false := hpv 32 l32
                      have s32 : ao.tmps[120]?.getD undef = vs 32 := hU.slot 32 (by decide) l32
                      rw [hv32] at s32
                      refine wpOp_value (v := .bool false) (W' := W) rfl rfl ?_ (hK _ _ (LKeep.refl _ _ _) rfl)
                      go_simp
                    | 34, hoi, hom =>
                      have l33 := haft _ rfl { on := 33, ground := .guard } (by simp) rfl
                      have hv33 : vs 33 = .bool false := hpv 33 l33
                      have s33 : ao.tmps[121]?.getD undef = vs 33 := hU.slot 33 (by decide) l33
                      rw [hv33] at s33
                      have z15 : ao.tmps[15]?.getD undef = .pointer (some ⟨y10.heap.size, 0, none⟩) := hU.same 15 (by decide)
                      refine wpOp_wanted (v := .pointer (some ⟨y10.heap.size, 0, none⟩)) (W' := W) rfl ?_ ?_ (hK _ _ (LKeep.refl _ _ _) rfl)
                      · refine wanted_yes (j := 33) (d := 121) ?_ ?_ s33 <;> rfl
                      go_simp
                    | 35, hoi, hom =>
                      have l33 := haft _ rfl { on := 33, ground := .guard } (by simp) rfl
                      have hv33 : vs 33 = .bool false := hpv 33 l33
                      have s33 : ao.tmps[121]?.getD undef = vs 33 := hU.slot 33 (by decide) l33
                      rw [hv33] at s33
                      have l34 := haft _ rfl { on := 34, ground := .data } (by simp) rfl
                      have hv34 : vs 34 = .pointer (some ⟨y10.heap.size, 0, none⟩) := hpv 34 l34
                      have s34 : ao.tmps[122]?.getD undef = vs 34 := hU.slot 34 (by decide) l34
                      rw [hv34] at s34
                      have y0 := (hk.cell (b := y10.heap.size) (o := 0) (zS2) (fun h => h)).trans (cS20)
                      refine wpOp_wanted (v := .int .i64 (a)) (W' := W) rfl ?_ ?_ (hK _ _ (LKeep.refl _ _ _) rfl)
                      · refine wanted_yes (j := 33) (d := 121) ?_ ?_ s33 <;> rfl
                      go_simp
                    | 36, hoi, hom =>
                      have l33 := haft _ rfl { on := 33, ground := .guard } (by simp) rfl
                      have hv33 : vs 33 = .bool false := hpv 33 l33
                      have s33 : ao.tmps[121]?.getD undef = vs 33 := hU.slot 33 (by decide) l33
                      rw [hv33] at s33
                      have z13 : ao.tmps[13]?.getD undef = .pointer (some ⟨y8.heap.size, 0, none⟩) := hU.same 13 (by decide)
                      refine wpOp_wanted (v := .pointer (some ⟨y8.heap.size, 0, none⟩)) (W' := W) rfl ?_ ?_ (hK _ _ (LKeep.refl _ _ _) rfl)
                      · refine wanted_yes (j := 33) (d := 121) ?_ ?_ s33 <;> rfl
                      go_simp
                    | 37, hoi, hom =>
                      have l33 := haft _ rfl { on := 33, ground := .guard } (by simp) rfl
                      have hv33 : vs 33 = .bool false := hpv 33 l33
                      have s33 : ao.tmps[121]?.getD undef = vs 33 := hU.slot 33 (by decide) l33
                      rw [hv33] at s33
                      have l36 := haft _ rfl { on := 36, ground := .data } (by simp) rfl
                      have hv36 : vs 36 = .pointer (some ⟨y8.heap.size, 0, none⟩) := hpv 36 l36
                      have s36 : ao.tmps[124]?.getD undef = vs 36 := hU.slot 36 (by decide) l36
                      rw [hv36] at s36
                      have y0 := (hk.cell (b := y8.heap.size) (o := 0) (zS1) (fun h => h)).trans (cS10)
                      refine wpOp_wanted (v := .int .i64 (a)) (W' := W) rfl ?_ ?_ (hK _ _ (LKeep.refl _ _ _) rfl)
                      · refine wanted_yes (j := 33) (d := 121) ?_ ?_ s33 <;> rfl
                      go_simp
                    | 38, hoi, hom =>
                      have l33 := haft _ rfl { on := 33, ground := .guard } (by simp) rfl
                      have hv33 : vs 33 = .bool false := hpv 33 l33
                      have s33 : ao.tmps[121]?.getD undef = vs 33 := hU.slot 33 (by decide) l33
                      rw [hv33] at s33
                      have l35 := haft _ rfl { on := 35, ground := .data } (by simp) rfl
                      have hv35 : vs 35 = .int .i64 (a) := hpv 35 l35
                      have s35 : ao.tmps[123]?.getD undef = vs 35 := hU.slot 35 (by decide) l35
                      rw [hv35] at s35
                      have l37 := haft _ rfl { on := 37, ground := .data } (by simp) rfl
                      have hv37 : vs 37 = .int .i64 (a) := hpv 37 l37
                      have s37 : ao.tmps[125]?.getD undef = vs 37 := hU.slot 37 (by decide) l37
                      rw [hv37] at s37
                      refine wpOp_wanted (v := .bool false) (W' := W) rfl ?_ ?_ (hK _ _ (LKeep.refl _ _ _) rfl)
                      · refine wanted_yes (j := 33) (d := 121) ?_ ?_ s33 <;> rfl
                      go_simp
                    | 39, hoi, hom =>
                      have l33 := haft _ rfl { on := 33, ground := .data } (by simp) rfl
                      have hv33 : vs 33 = .bool false := hpv 33 l33
                      have s33 : ao.tmps[121]?.getD undef = vs 33 := hU.slot 33 (by decide) l33
                      rw [hv33] at s33
                      have l38 := haft _ rfl { on := 38, ground := .data } (by simp) rfl
                      have hv38 : vs 38 = .bool false := hpv 38 l38
                      have s38 : ao.tmps[126]?.getD undef = vs 38 := hU.slot 38 (by decide) l38
                      rw [hv38] at s38
                      refine wpOp_value (v := .bool false) (W' := W) rfl rfl ?_ (hK _ _ (LKeep.refl _ _ _) rfl)
                      go_simp
                    | oi + 40, hoi, hom => exact absurd (of_decide_eq_true hom) (by omega)
                  case hendT11 =>
                    intro listed vs ao W hG hk0 hpv hpre
                    have hkk := (LKeep.drew (fun _ => False) (M := fun _ => True) y11 (fun h => h)).trans hk0
                    have hk := hkk.1
                    have hkm := hkk.2
                    clear hkk
                    have hact := hG.act
                    have hT := hG.lst hpre 0 #[true, true, true, true, true, true, true, true, true, true, true, true, true, true, true, true, true, true, true, true, true, true, true, true, true, true, true, true, true, true, true, true, true, true, true, true, true, true, true, true] rfl (by kernel_rfl) (hpre 0 (by decide) (by decide))
                    rw [hG.ix hT (l := [0, 1, 2, 3, 4, 5, 6, 7, 8, 9, 10, 11, 12, 13, 14, 15, 16, 17, 18, 19, 20, 21, 22, 23, 24, 25, 26, 27, 28, 29, 30, 31, 32, 33, 34, 35, 36, 37, 38, 39]) (by kernel_rfl)] at hact
                    rw [hG.lo hT (k := 0) (by kernel_rfl)]
                    have hv0 : vs 0 = .int .i64 0 := hpv 0 (hpre 0 (by decide) (by decide))
                    have hv1 : vs 1 = .bool false := hpv 1 (hpre 1 (by decide) (by decide))
                    have hv2 : vs 2 = .bool false := hpv 2 (hpre 2 (by decide) (by decide))
                    have hv3 : vs 3 = .int .i64 0 := hpv 3 (hpre 3 (by decide) (by decide))
                    have hv4 : vs 4 = .bool false := hpv 4 (hpre 4 (by decide) (by decide))
                    have hv5 : vs 5 = .bool false := hpv 5 (hpre 5 (by decide) (by decide))
                    have hv6 : vs 6 = .bool false := hpv 6 (hpre 6 (by decide) (by decide))
                    have hv7 : vs 7 = .bool true := hpv 7 (hpre 7 (by decide) (by decide))
                    have hv8 : vs 8 = .bool false := hpv 8 (hpre 8 (by decide) (by decide))
                    have hv9 : vs 9 = .bool false := hpv 9 (hpre 9 (by decide) (by decide))
                    have hv10 : vs 10 = undef := hpv 10 (hpre 10 (by decide) (by decide))
                    have hv11 : vs 11 = undef := hpv 11 (hpre 11 (by decide) (by decide))
                    have hv12 : vs 12 = undef := hpv 12 (hpre 12 (by decide) (by decide))
                    have hv13 : vs 13 = .bool false := hpv 13 (hpre 13 (by decide) (by decide))
                    have hv14 : vs 14 = .bool false := hpv 14 (hpre 14 (by decide) (by decide))
                    have hv15 : vs 15 = .bool false := hpv 15 (hpre 15 (by decide) (by decide))
                    have hv16 : vs 16 = .int .i64 (j1 : Nat) := hpv 16 (hpre 16 (by decide) (by decide))
                    have hv17 : vs 17 = .pointer (some ⟨w.heap.size + 1, 1, none⟩) := hpv 17 (hpre 17 (by decide) (by decide))
                    have hv18 : vs 18 = .int .i64 c.against := hpv 18 (hpre 18 (by decide) (by decide))
                    have hv19 : vs 19 = .bool true := hpv 19 (hpre 19 (by decide) (by decide))
                    have hv20 : vs 20 = .bool true := hpv 20 (hpre 20 (by decide) (by decide))
                    have hv21 : vs 21 = .agg #[.int .i64 (a), .int .i64 (b)] := hpv 21 (hpre 21 (by decide) (by decide))
                    have hv22 : vs 22 = .agg #[.int .i64 (a), .int .i64 (b)] := hpv 22 (hpre 22 (by decide) (by decide))
                    have hv23 : vs 23 = .bool false := hpv 23 (hpre 23 (by decide) (by decide))
                    have hv24 : vs 24 = .bool false := hpv 24 (hpre 24 (by decide) (by decide))
                    have hv25 : vs 25 = .bool false := hpv 25 (hpre 25 (by decide) (by decide))
                    have hv26 : vs 26 = .bool false := hpv 26 (hpre 26 (by decide) (by decide))
                    have hv27 : vs 27 = .pointer (some ⟨y10.heap.size, 1, none⟩) := hpv 27 (hpre 27 (by decide) (by decide))
                    have hv28 : vs 28 = .int .i64 (b) := hpv 28 (hpre 28 (by decide) (by decide))
                    have hv29 : vs 29 = .pointer (some ⟨y8.heap.size, 1, none⟩) := hpv 29 (hpre 29 (by decide) (by decide))
                    have hv30 : vs 30 = .int .i64 (b) := hpv 30 (hpre 30 (by decide) (by decide))
                    have hv31 : vs 31 = .bool false := hpv 31 (hpre 31 (by decide) (by decide))
                    have hv32 : vs 32 = .bool false := hpv 32 (hpre 32 (by decide) (by decide))
                    have hv33 : vs 33 = .bool false := hpv 33 (hpre 33 (by decide) (by decide))
                    have hv34 : vs 34 = .pointer (some ⟨y10.heap.size, 0, none⟩) := hpv 34 (hpre 34 (by decide) (by decide))
                    have hv35 : vs 35 = .int .i64 (a) := hpv 35 (hpre 35 (by decide) (by decide))
                    have hv36 : vs 36 = .pointer (some ⟨y8.heap.size, 0, none⟩) := hpv 36 (hpre 36 (by decide) (by decide))
                    have hv37 : vs 37 = .int .i64 (a) := hpv 37 (hpre 37 (by decide) (by decide))
                    have hv38 : vs 38 = .bool false := hpv 38 (hpre 38 (by decide) (by decide))
                    have hv39 : vs 39 = .bool false := hpv 39 (hpre 39 (by decide) (by decide))
                    clear hpv hpre hG hk0
                    obtain rfl : ao = _ := hact
                    subst hT
                    simp only [setAll, List.setIfInBounds_toArray, List.set_cons_succ, List.set_cons_zero, List.getD_cons_succ, List.getD_cons_zero]
                    simp only [hv0, hv1, hv2, hv3, hv4, hv5, hv6, hv7, hv8, hv9, hv10, hv11, hv12, hv13, hv14, hv15, hv16, hv17, hv18, hv19, hv20, hv21, hv22, hv23, hv24, hv25, hv26, hv27, hv28, hv29, hv30, hv31, hv32, hv33, hv34, hv35, hv36, hv37, hv38, hv39]
                    clear hv0 hv1 hv2 hv3 hv4 hv5 hv6 hv7 hv8 hv9 hv10 hv11 hv12 hv13 hv14 hv15 hv16 hv17 hv18 hv19 hv20 hv21 hv22 hv23 hv24 hv25 hv26 hv27 hv28 hv29 hv30 hv31 hv32 hv33 hv34 hv35 hv36 hv37 hv38 hv39
                    refine wpAny_done (by kernel_rfl) ?_ _
                    have hb := hk.below (B := y11.heap.size) (fun k h => h.elim) (Nat.le_refl _)
                    clear zK cK1 cK2 cK3 cK4 cK5 zQ cQ0 cQ1 cQ2 zZ cZ1 cZ2 cZ3 cZ4 cZ5 zS1 cS10 cS11 zS2 cS20 cS21
                    have K := hide (K.out.next hb)
                    have Q := hide (Q.out.next hb)
                    have Z := hide (Z.out.next hb)
                    have J1 := hide (J1.out.next hb)
                    have J2 := hide (J2.out.next hb)
                    have S1 := hide (S1.out.next hb)
                    have S2 := hide (S2.out.next hb)
                    have HB := hide (HB.out.trans (hb.mono HB.out.size))
                    have HL1 := hide (HL1.out.trans (hb.mono HL1.out.size))
                    clear hb
                    clear hk hkm
                    go_wp2_with fail
                    go_roundw
                    case rel => exact ⟨j1 + 1, by omega, by go_num, HL1.out⟩
                    case measure => simp [intOf]; omega
                | false =>
                  go_wp2_with fail
                  refine wp_region_rel (dst := fun oi => [88, 89, 90, 91, 92, 93, 94, 95, 96, 97, 98, 99, 100, 101, 102, 103, 104, 105, 106, 107, 108, 109, 110, 111, 112, 113, 114, 115, 116, 117, 118, 119, 120, 121, 122, 123, 124, 125, 126, 127].getD oi 0) (mono := fun oi => decide (oi < 40)) (pre := fun oi => decide (oi < 40)) (R := LKeep (fun _ => False) (fun _ => True))
                    (Pv := fun oi v W => match oi with
                      | 0 => v = .int .i64 0
                      | 1 => v = .bool false
                      | 2 => v = .bool false
                      | 3 => v = .int .i64 0
                      | 4 => v = .bool false
                      | 5 => v = .bool false
                      | 6 => v = .bool false
                      | 7 => v = .bool true
                      | 8 => v = .bool false
                      | 9 => v = .bool false
                      | 10 => v = undef
                      | 11 => v = undef
                      | 12 => v = undef
                      | 13 => v = .bool false
                      | 14 => v = .bool false
                      | 15 => v = .bool false
                      | 16 => v = .int .i64 (j1 : Nat)
                      | 17 => v = .pointer (some ⟨w.heap.size + 1, 1, none⟩)
                      | 18 => v = .int .i64 c.against
                      | 19 => v = .bool false
                      | 20 => v = .bool false
                      | 21 => v = undef
                      | 22 => v = undef
                      | 23 => v = undef
                      | 24 => v = .bool false
                      | 25 => v = .bool false
                      | 26 => v = .bool false
                      | 27 => v = .pointer (some ⟨y10.heap.size, 1, none⟩)
                      | 28 => v = .int .i64 (b2)
                      | 29 => v = .pointer (some ⟨y8.heap.size, 1, none⟩)
                      | 30 => v = .int .i64 (b)
                      | 31 => v = .bool false
                      | 32 => v = .bool false
                      | 33 => v = .bool false
                      | 34 => v = .pointer (some ⟨y10.heap.size, 0, none⟩)
                      | 35 => v = .int .i64 (a2)
                      | 36 => v = .pointer (some ⟨y8.heap.size, 0, none⟩)
                      | 37 => v = .int .i64 (a)
                      | 38 => v = .bool false
                      | 39 => v = .bool false
                      | _ => True) (by kernel_rfl) (by kernel_rfl) (LKeep.refl _ _) (fun _ _ _ h h' => h.trans h') ?hstT10 ?hstepT10 ?hendT10
                  case hstT10 =>
                    intro oi v W W' h hk
                    match oi, h with
                    | 0, h => exact h
                    | 1, h => exact h
                    | 2, h => exact h
                    | 3, h => exact h
                    | 4, h => exact h
                    | 5, h => exact h
                    | 6, h => exact h
                    | 7, h => exact h
                    | 8, h => exact h
                    | 9, h => exact h
                    | 10, h => exact h
                    | 11, h => exact h
                    | 12, h => exact h
                    | 13, h => exact h
                    | 14, h => exact h
                    | 15, h => exact h
                    | 16, h => exact h
                    | 17, h => exact h
                    | 18, h => exact h
                    | 19, h => exact h
                    | 20, h => exact h
                    | 21, h => exact h
                    | 22, h => exact h
                    | 23, h => exact h
                    | 24, h => exact h
                    | 25, h => exact h
                    | 26, h => exact h
                    | 27, h => exact h
                    | 28, h => exact h
                    | 29, h => exact h
                    | 30, h => exact h
                    | 31, h => exact h
                    | 32, h => exact h
                    | 33, h => exact h
                    | 34, h => exact h
                    | 35, h => exact h
                    | 36, h => exact h
                    | 37, h => exact h
                    | 38, h => exact h
                    | 39, h => exact h
                    | oi + 40, h => exact trivial
                  case hstepT10 =>
                    intro oi hoi hom listed vs ao W hU hk0 hpv haft Ko hK
                    have hkk := (LKeep.drew (fun _ => False) (M := fun _ => True) y11 (fun h => h)).trans hk0
                    have hk := hkk.1
                    have hkm := hkk.2
                    clear hkk
                    match oi, hoi, hom with
                    | 0, hoi, hom =>
                      have z14 : ao.tmps[14]?.getD undef = .int .i64 0 := hU.same 14 (by decide)
                      refine wpOp_value (v := .int .i64 0) (W' := W) rfl rfl ?_ (hK _ _ (LKeep.refl _ _ _) rfl)
                      go_simp
                    | 1, hoi, hom =>
                      have l0 := haft _ rfl { on := 0, ground := .data } (by simp) rfl
                      have hv0 : vs 0 = .int .i64 0 := hpv 0 l0
                      have s0 : ao.tmps[88]?.getD undef = vs 0 := hU.slot 0 (by decide) l0
                      rw [hv0] at s0
                      refine wpOp_value (v := .bool false) (W' := W) rfl rfl ?_ (hK _ _ (LKeep.refl _ _ _) rfl)
                      go_simp
                    | 2, hoi, hom =>
                      have l1 := haft _ rfl { on := 1, ground := .data } (by simp) rfl
                      have hv1 : vs 1 = .bool false := hpv 1 l1
                      have s1 : ao.tmps[89]?.getD undef = vs 1 := hU.slot 1 (by decide) l1
                      rw [hv1] at s1
                      refine wpOp_value (v := .bool false) (W' := W) rfl rfl ?_ (hK _ _ (LKeep.refl _ _ _) rfl)
                      go_simp
                    | 3, hoi, hom =>
                      have l2 := haft _ rfl { on := 2, ground := .guard } (by simp) rfl
                      have hv2 : vs 2 = .bool false := hpv 2 l2
                      have s2 : ao.tmps[90]?.getD undef = vs 2 := hU.slot 2 (by decide) l2
                      rw [hv2] at s2
                      have z16 : ao.tmps[16]?.getD undef = .int .i64 0 := hU.same 16 (by decide)
                      refine wpOp_wanted (v := .int .i64 0) (W' := W) rfl ?_ ?_ (hK _ _ (LKeep.refl _ _ _) rfl)
                      · refine wanted_yes (j := 2) (d := 90) ?_ ?_ s2 <;> rfl
                      go_simp
                    | 4, hoi, hom =>
                      have l2 := haft _ rfl { on := 2, ground := .guard } (by simp) rfl
                      have hv2 : vs 2 = .bool false := hpv 2 l2
                      have s2 : ao.tmps[90]?.getD undef = vs 2 := hU.slot 2 (by decide) l2
                      rw [hv2] at s2
                      have l3 := haft _ rfl { on := 3, ground := .data } (by simp) rfl
                      have hv3 : vs 3 = .int .i64 0 := hpv 3 l3
                      have s3 : ao.tmps[91]?.getD undef = vs 3 := hU.slot 3 (by decide) l3
                      rw [hv3] at s3
                      refine wpOp_wanted (v := .bool false) (W' := W) rfl ?_ ?_ (hK _ _ (LKeep.refl _ _ _) rfl)
                      · refine wanted_yes (j := 2) (d := 90) ?_ ?_ s2 <;> rfl
                      go_simp
                    | 5, hoi, hom =>
                      have l2 := haft _ rfl { on := 2, ground := .data } (by simp) rfl
                      have hv2 : vs 2 = .bool false := hpv 2 l2
                      have s2 : ao.tmps[90]?.getD undef = vs 2 := hU.slot 2 (by decide) l2
                      rw [hv2] at s2
                      have l4 := haft _ rfl { on := 4, ground := .data } (by simp) rfl
                      have hv4 : vs 4 = .bool false := hpv 4 l4
                      have s4 : ao.tmps[92]?.getD undef = vs 4 := hU.slot 4 (by decide) l4
                      rw [hv4] at s4
                      refine wpOp_value (v := .bool false) (W' := W) rfl rfl ?_ (hK _ _ (LKeep.refl _ _ _) rfl)
                      go_simp
                    | 6, hoi, hom =>
                      have l5 := haft _ rfl { on := 5, ground := .data } (by simp) rfl
                      have hv5 : vs 5 = .bool false := hpv 5 l5
                      have s5 : ao.tmps[93]?.getD undef = vs 5 := hU.slot 5 (by decide) l5
                      rw [hv5] at s5
                      refine wpOp_value (v := .bool false) (W' := W) rfl rfl ?_ (hK _ _ (LKeep.refl _ _ _) rfl)
                      go_simp
                    | 7, hoi, hom =>
                      have l6 := haft _ rfl { on := 6, ground := .guard } (by simp) rfl
                      have hv6 : vs 6 = .bool false := hpv 6 l6
                      have s6 : ao.tmps[94]?.getD undef = vs 6 := hU.slot 6 (by decide) l6
                      rw [hv6] at s6
                      have z11 : ao.tmps[11]?.getD undef = .bool true := hU.same 11 (by decide)
                      refine wpOp_wanted (v := .bool true) (W' := W) rfl ?_ ?_ (hK _ _ (LKeep.refl _ _ _) rfl)
                      · refine wanted_yes (j := 6) (d := 94) ?_ ?_ s6 <;> rfl
                      go_simp
                    | 8, hoi, hom =>
                      have l6 := haft _ rfl { on := 6, ground := .guard } (by simp) rfl
                      have hv6 : vs 6 = .bool false := hpv 6 l6
                      have s6 : ao.tmps[94]?.getD undef = vs 6 := hU.slot 6 (by decide) l6
                      rw [hv6] at s6
                      have l7 := haft _ rfl { on := 7, ground := .data } (by simp) rfl
                      have hv7 : vs 7 = .bool true := hpv 7 l7
                      have s7 : ao.tmps[95]?.getD undef = vs 7 := hU.slot 7 (by decide) l7
                      rw [hv7] at s7
                      refine wpOp_wanted (v := .bool false) (W' := W) rfl ?_ ?_ (hK _ _ (LKeep.refl _ _ _) rfl)
                      · refine wanted_yes (j := 6) (d := 94) ?_ ?_ s6 <;> rfl
                      go_simp
                    | 9, hoi, hom =>
                      have l6 := haft _ rfl { on := 6, ground := .guard } (by simp) rfl
                      have hv6 : vs 6 = .bool false := hpv 6 l6
                      have s6 : ao.tmps[94]?.getD undef = vs 6 := hU.slot 6 (by decide) l6
                      rw [hv6] at s6
                      have l8 := haft _ rfl { on := 8, ground := .data } (by simp) rfl
                      have hv8 : vs 8 = .bool false := hpv 8 l8
                      have s8 : ao.tmps[96]?.getD undef = vs 8 := hU.slot 8 (by decide) l8
                      rw [hv8] at s8
                      refine wpOp_wanted (v := .bool false) (W' := W) rfl ?_ ?_ (hK _ _ (LKeep.refl _ _ _) rfl)
                      · refine wanted_yes (j := 6) (d := 94) ?_ ?_ s6 <;> rfl
                      go_simp
                    | 10, hoi, hom =>
                      have l9 := haft _ rfl { on := 9, ground := .guard } (by simp) rfl
                      have hv9 : vs 9 = .bool false := hpv 9 l9
                      have s9 : ao.tmps[97]?.getD undef = vs 9 := hU.slot 9 (by decide) l9
                      rw [hv9] at s9
                      refine wpOp_unwanted rfl ?_ (hK _ _ (LKeep.refl _ _ _) rfl)
                      refine wanted_no (j := 9) (d := 97) ?_ ?_ s9 <;> rfl
                    | 11, hoi, hom =>
                      have l9 := haft _ rfl { on := 9, ground := .guard } (by simp) rfl
                      have hv9 : vs 9 = .bool false := hpv 9 l9
                      have s9 : ao.tmps[97]?.getD undef = vs 9 := hU.slot 9 (by decide) l9
                      rw [hv9] at s9
                      refine wpOp_unwanted rfl ?_ (hK _ _ (LKeep.refl _ _ _) rfl)
                      refine wanted_no (j := 9) (d := 97) ?_ ?_ s9 <;> rfl
                    | 12, hoi, hom =>
                      have l9 := haft _ rfl { on := 9, ground := .guard } (by simp) rfl
                      have hv9 : vs 9 = .bool false := hpv 9 l9
                      have s9 : ao.tmps[97]?.getD undef = vs 9 := hU.slot 9 (by decide) l9
                      rw [hv9] at s9
                      refine wpOp_unwanted rfl ?_ (hK _ _ (LKeep.refl _ _ _) rfl)
                      refine wanted_no (j := 9) (d := 97) ?_ ?_ s9 <;> rfl
                    | 13, hoi, hom =>
                      have l6 := haft _ rfl { on := 6, ground := .guard } (by simp) rfl
                      have hv6 : vs 6 = .bool false := hpv 6 l6
                      have s6 : ao.tmps[94]?.getD undef = vs 6 := hU.slot 6 (by decide) l6
                      rw [hv6] at s6
                      have l9 := haft _ rfl { on := 9, ground := .data } (by simp) rfl
                      have hv9 : vs 9 = .bool false := hpv 9 l9
                      have s9 : ao.tmps[97]?.getD undef = vs 9 := hU.slot 9 (by decide) l9
                      rw [hv9] at s9
                      have l12 := haft _ rfl { on := 12, ground := .data } (by simp) rfl
                      have hv12 : vs 12 = undef := hpv 12 l12
                      have s12 : ao.tmps[100]?.getD undef = vs 12 := hU.slot 12 (by decide) l12
                      rw [hv12] at s12
                      refine wpOp_wanted (v := .bool false) (W' := W) rfl ?_ ?_ (hK _ _ (LKeep.refl _ _ _) rfl)
                      · refine wanted_yes (j := 6) (d := 94) ?_ ?_ s6 <;> rfl
                      go_simp
                    | 14, hoi, hom =>
                      have l6 := haft _ rfl { on := 6, ground := .data } (by simp) rfl
                      have hv6 : vs 6 = .bool false := hpv 6 l6
                      have s6 : ao.tmps[94]?.getD undef = vs 6 := hU.slot 6 (by decide) l6
                      rw [hv6] at s6
                      have l13 := haft _ rfl { on := 13, ground := .data } (by simp) rfl
                      have hv13 : vs 13 = .bool false := hpv 13 l13
                      have s13 : ao.tmps[101]?.getD undef = vs 13 := hU.slot 13 (by decide) l13
                      rw [hv13] at s13
                      refine wpOp_value (v := .bool false) (W' := W) rfl rfl ?_ (hK _ _ (LKeep.refl _ _ _) rfl)
                      go_simp
                    | 15, hoi, hom =>
                      have l14 := haft _ rfl { on := 14, ground := .data } (by simp) rfl
                      have hv14 : vs 14 = .bool false := hpv 14 l14
                      have s14 : ao.tmps[102]?.getD undef = vs 14 := hU.slot 14 (by decide) l14
                      rw [hv14] at s14
                      refine wpOp_value (v := .bool false) (W' := W) rfl rfl ?_ (hK _ _ (LKeep.refl _ _ _) rfl)
                      go_simp
                    | 16, hoi, hom =>
                      have l15 := haft _ rfl { on := 15, ground := .guard } (by simp) rfl
                      have hv15 : vs 15 = .bool false := hpv 15 l15
                      have s15 : ao.tmps[103]?.getD undef = vs 15 := hU.slot 15 (by decide) l15
                      rw [hv15] at s15
                      have z10 : ao.tmps[10]?.getD undef = .int .i64 (j1 : Nat) := hU.same 10 (by decide)
                      refine wpOp_wanted (v := .int .i64 (j1 : Nat)) (W' := W) rfl ?_ ?_ (hK _ _ (LKeep.refl _ _ _) rfl)
                      · refine wanted_yes (j := 15) (d := 103) ?_ ?_ s15 <;> rfl
                      go_simp
                    | 17, hoi, hom =>
                      have l15 := haft _ rfl { on := 15, ground := .guard } (by simp) rfl
                      have hv15 : vs 15 = .bool false := hpv 15 l15
                      have s15 : ao.tmps[103]?.getD undef = vs 15 := hU.slot 15 (by decide) l15
                      rw [hv15] at s15
                      have z3 : ao.tmps[3]?.getD undef = .pointer (some ⟨w.heap.size + 1, 0, none⟩) := hU.same 3 (by decide)
                      refine wpOp_wanted (v := .pointer (some ⟨w.heap.size + 1, 1, none⟩)) (W' := W) rfl ?_ ?_ (hK _ _ (LKeep.refl _ _ _) rfl)
                      · refine wanted_yes (j := 15) (d := 103) ?_ ?_ s15 <;> rfl
                      go_simp
                    | 18, hoi, hom =>
                      have l15 := haft _ rfl { on := 15, ground := .guard } (by simp) rfl
                      have hv15 : vs 15 = .bool false := hpv 15 l15
                      have s15 : ao.tmps[103]?.getD undef = vs 15 := hU.slot 15 (by decide) l15
                      rw [hv15] at s15
                      have l17 := haft _ rfl { on := 17, ground := .data } (by simp) rfl
                      have hv17 : vs 17 = .pointer (some ⟨w.heap.size + 1, 1, none⟩) := hpv 17 l17
                      have s17 : ao.tmps[105]?.getD undef = vs 17 := hU.slot 17 (by decide) l17
                      rw [hv17] at s17
                      have y0 := (hk.cell (b := w.heap.size + 1) (o := 1) (zQ) (fun h => h)).trans (cQ1)
                      refine wpOp_wanted (v := .int .i64 c.against) (W' := W) rfl ?_ ?_ (hK _ _ (LKeep.refl _ _ _) rfl)
                      · refine wanted_yes (j := 15) (d := 103) ?_ ?_ s15 <;> rfl
                      go_simp
                    | 19, hoi, hom =>
                      have l15 := haft _ rfl { on := 15, ground := .guard } (by simp) rfl
                      have hv15 : vs 15 = .bool false := hpv 15 l15
                      have s15 : ao.tmps[103]?.getD undef = vs 15 := hU.slot 15 (by decide) l15
                      rw [hv15] at s15
                      have l16 := haft _ rfl { on := 16, ground := .data } (by simp) rfl
                      have hv16 : vs 16 = .int .i64 (j1 : Nat) := hpv 16 l16
                      have s16 : ao.tmps[104]?.getD undef = vs 16 := hU.slot 16 (by decide) l16
                      rw [hv16] at s16
                      have l18 := haft _ rfl { on := 18, ground := .data } (by simp) rfl
                      have hv18 : vs 18 = .int .i64 c.against := hpv 18 l18
                      have s18 : ao.tmps[106]?.getD undef = vs 18 := hU.slot 18 (by decide) l18
                      rw [hv18] at s18
                      refine wpOp_wanted (v := .bool false) (W' := W) rfl ?_ ?_ (hK _ _ (LKeep.refl _ _ _) rfl)
                      · refine wanted_yes (j := 15) (d := 103) ?_ ?_ s15 <;> rfl
                      go_simp
                    | 20, hoi, hom =>
                      have l15 := haft _ rfl { on := 15, ground := .guard } (by simp) rfl
                      have hv15 : vs 15 = .bool false := hpv 15 l15
                      have s15 : ao.tmps[103]?.getD undef = vs 15 := hU.slot 15 (by decide) l15
                      rw [hv15] at s15
                      have l19 := haft _ rfl { on := 19, ground := .data } (by simp) rfl
                      have hv19 : vs 19 = .bool false := hpv 19 l19
                      have s19 : ao.tmps[107]?.getD undef = vs 19 := hU.slot 19 (by decide) l19
                      rw [hv19] at s19
                      refine wpOp_wanted (v := .bool false) (W' := W) rfl ?_ ?_ (hK _ _ (LKeep.refl _ _ _) rfl)
                      · refine wanted_yes (j := 15) (d := 103) ?_ ?_ s15 <;> rfl
                      go_simp
                    | 21, hoi, hom =>
                      have l20 := haft _ rfl { on := 20, ground := .guard } (by simp) rfl
                      have hv20 : vs 20 = .bool false := hpv 20 l20
                      have s20 : ao.tmps[108]?.getD undef = vs 20 := hU.slot 20 (by decide) l20
                      rw [hv20] at s20
                      refine wpOp_unwanted rfl ?_ (hK _ _ (LKeep.refl _ _ _) rfl)
                      refine wanted_no (j := 20) (d := 108) ?_ ?_ s20 <;> rfl
                    | 22, hoi, hom =>
                      have l20 := haft _ rfl { on := 20, ground := .guard } (by simp) rfl
                      have hv20 : vs 20 = .bool false := hpv 20 l20
                      have s20 : ao.tmps[108]?.getD undef = vs 20 := hU.slot 20 (by decide) l20
                      rw [hv20] at s20
                      refine wpOp_unwanted rfl ?_ (hK _ _ (LKeep.refl _ _ _) rfl)
                      refine wanted_no (j := 20) (d := 108) ?_ ?_ s20 <;> rfl
                    | 23, hoi, hom =>
                      have l20 := haft _ rfl { on := 20, ground := .guard } (by simp) rfl
                      have hv20 : vs 20 = .bool false := hpv 20 l20
                      have s20 : ao.tmps[108]?.getD undef = vs 20 := hU.slot 20 (by decide) l20
                      rw [hv20] at s20
                      refine wpOp_unwanted rfl ?_ (hK _ _ (LKeep.refl _ _ _) rfl)
                      refine wanted_no (j := 20) (d := 108) ?_ ?_ s20 <;> rfl
                    | 24, hoi, hom =>
                      have l15 := haft _ rfl { on := 15, ground := .guard } (by simp) rfl
                      have hv15 : vs 15 = .bool false := hpv 15 l15
                      have s15 : ao.tmps[103]?.getD undef = vs 15 := hU.slot 15 (by decide) l15
                      rw [hv15] at s15
                      have l20 := haft _ rfl { on := 20, ground := .data } (by simp) rfl
                      have hv20 : vs 20 = .bool false := hpv 20 l20
                      have s20 : ao.tmps[108]?.getD undef = vs 20 := hU.slot 20 (by decide) l20
                      rw [hv20] at s20
                      have l23 := haft _ rfl { on := 23, ground := .data } (by simp) rfl
                      have hv23 : vs 23 = undef := hpv 23 l23
                      have s23 : ao.tmps[111]?.getD undef = vs 23 := hU.slot 23 (by decide) l23
                      rw [hv23] at s23
                      refine wpOp_wanted (v := .bool false) (W' := W) rfl ?_ ?_ (hK _ _ (LKeep.refl _ _ _) rfl)
                      · refine wanted_yes (j := 15) (d := 103) ?_ ?_ s15 <;> rfl
                      go_simp
                    | 25, hoi, hom =>
                      have l15 := haft _ rfl { on := 15, ground := .data } (by simp) rfl
                      have hv15 : vs 15 = .bool false := hpv 15 l15
                      have s15 : ao.tmps[103]?.getD undef = vs 15 := hU.slot 15 (by decide) l15
                      rw [hv15] at s15
                      have l24 := haft _ rfl { on := 24, ground := .data } (by simp) rfl
                      have hv24 : vs 24 = .bool false := hpv 24 l24
                      have s24 : ao.tmps[112]?.getD undef = vs 24 := hU.slot 24 (by decide) l24
                      rw [hv24] at s24
                      refine wpOp_value (v := .bool false) (W' := W) rfl rfl ?_ (hK _ _ (LKeep.refl _ _ _) rfl)
                      go_simp
                    | 26, hoi, hom =>
                      have l25 := haft _ rfl { on := 25, ground := .data } (by simp) rfl
                      have hv25 : vs 25 = .bool false := hpv 25 l25
                      have s25 : ao.tmps[113]?.getD undef = vs 25 := hU.slot 25 (by decide) l25
                      rw [hv25] at s25
                      refine wpOp_value (v := .bool false) (W' := W) rfl rfl ?_ (hK _ _ (LKeep.refl _ _ _) rfl)
                      go_simp
                    | 27, hoi, hom =>
                      have l26 := haft _ rfl { on := 26, ground := .guard } (by simp) rfl
                      have hv26 : vs 26 = .bool false := hpv 26 l26
                      have s26 : ao.tmps[114]?.getD undef = vs 26 := hU.slot 26 (by decide) l26
                      rw [hv26] at s26
                      have z15 : ao.tmps[15]?.getD undef = .pointer (some ⟨y10.heap.size, 0, none⟩) := hU.same 15 (by decide)
                      refine wpOp_wanted (v := .pointer (some ⟨y10.heap.size, 1, none⟩)) (W' := W) rfl ?_ ?_ (hK _ _ (LKeep.refl _ _ _) rfl)
                      · refine wanted_yes (j := 26) (d := 114) ?_ ?_ s26 <;> rfl
                      go_simp
                    | 28, hoi, hom =>
                      have l26 := haft _ rfl { on := 26, ground := .guard } (by simp) rfl
                      have hv26 : vs 26 = .bool false := hpv 26 l26
                      have s26 : ao.tmps[114]?.getD undef = vs 26 := hU.slot 26 (by decide) l26
                      rw [hv26] at s26
                      have l27 := haft _ rfl { on := 27, ground := .data } (by simp) rfl
                      have hv27 : vs 27 = .pointer (some ⟨y10.heap.size, 1, none⟩) := hpv 27 l27
                      have s27 : ao.tmps[115]?.getD undef = vs 27 := hU.slot 27 (by decide) l27
                      rw [hv27] at s27
                      have y0 := (hk.cell (b := y10.heap.size) (o := 1) (zS2) (fun h => h)).trans (cS21)
                      refine wpOp_wanted (v := .int .i64 (b2)) (W' := W) rfl ?_ ?_ (hK _ _ (LKeep.refl _ _ _) rfl)
                      · refine wanted_yes (j := 26) (d := 114) ?_ ?_ s26 <;> rfl
                      go_simp
                    | 29, hoi, hom =>
                      have l26 := haft _ rfl { on := 26, ground := .guard } (by simp) rfl
                      have hv26 : vs 26 = .bool false := hpv 26 l26
                      have s26 : ao.tmps[114]?.getD undef = vs 26 := hU.slot 26 (by decide) l26
                      rw [hv26] at s26
                      have z13 : ao.tmps[13]?.getD undef = .pointer (some ⟨y8.heap.size, 0, none⟩) := hU.same 13 (by decide)
                      refine wpOp_wanted (v := .pointer (some ⟨y8.heap.size, 1, none⟩)) (W' := W) rfl ?_ ?_ (hK _ _ (LKeep.refl _ _ _) rfl)
                      · refine wanted_yes (j := 26) (d := 114) ?_ ?_ s26 <;> rfl
                      go_simp
                    | 30, hoi, hom =>
                      have l26 := haft _ rfl { on := 26, ground := .guard } (by simp) rfl
                      have hv26 : vs 26 = .bool false := hpv 26 l26
                      have s26 : ao.tmps[114]?.getD undef = vs 26 := hU.slot 26 (by decide) l26
                      rw [hv26] at s26
                      have l29 := haft _ rfl { on := 29, ground := .data } (by simp) rfl
                      have hv29 : vs 29 = .pointer (some ⟨y8.heap.size, 1, none⟩) := hpv 29 l29
                      have s29 : ao.tmps[117]?.getD undef = vs 29 := hU.slot 29 (by decide) l29
                      rw [hv29] at s29
                      have y0 := (hk.cell (b := y8.heap.size) (o := 1) (zS1) (fun h => h)).trans (cS11)
                      refine wpOp_wanted (v := .int .i64 (b)) (W' := W) rfl ?_ ?_ (hK _ _ (LKeep.refl _ _ _) rfl)
                      · refine wanted_yes (j := 26) (d := 114) ?_ ?_ s26 <;> rfl
                      go_simp
                    | 31, hoi, hom =>
                      have l26 := haft _ rfl { on := 26, ground := .guard } (by simp) rfl
                      have hv26 : vs 26 = .bool false := hpv 26 l26
                      have s26 : ao.tmps[114]?.getD undef = vs 26 := hU.slot 26 (by decide) l26
                      rw [hv26] at s26
                      have l28 := haft _ rfl { on := 28, ground := .data } (by simp) rfl
                      have hv28 : vs 28 = .int .i64 (b2) := hpv 28 l28
                      have s28 : ao.tmps[116]?.getD undef = vs 28 := hU.slot 28 (by decide) l28
                      rw [hv28] at s28
                      have l30 := haft _ rfl { on := 30, ground := .data } (by simp) rfl
                      have hv30 : vs 30 = .int .i64 (b) := hpv 30 l30
                      have s30 : ao.tmps[118]?.getD undef = vs 30 := hU.slot 30 (by decide) l30
                      rw [hv30] at s30
                      refine wpOp_wanted (v := .bool false) (W' := W) rfl ?_ ?_ (hK _ _ (LKeep.refl _ _ _) rfl)
                      · refine wanted_yes (j := 26) (d := 114) ?_ ?_ s26 <;> rfl
                      go_simp
                    | 32, hoi, hom =>
                      have l26 := haft _ rfl { on := 26, ground := .data } (by simp) rfl
                      have hv26 : vs 26 = .bool false := hpv 26 l26
                      have s26 : ao.tmps[114]?.getD undef = vs 26 := hU.slot 26 (by decide) l26
                      rw [hv26] at s26
                      have l31 := haft _ rfl { on := 31, ground := .data } (by simp) rfl
                      have hv31 : vs 31 = .bool false := hpv 31 l31
                      have s31 : ao.tmps[119]?.getD undef = vs 31 := hU.slot 31 (by decide) l31
                      rw [hv31] at s31
                      refine wpOp_value (v := .bool false) (W' := W) rfl rfl ?_ (hK _ _ (LKeep.refl _ _ _) rfl)
                      go_simp
                    | 33, hoi, hom =>
                      have l32 := haft _ rfl { on := 32, ground := .data } (by simp) rfl
                      have hv32 : vs 32 = .bool false := hpv 32 l32
                      have s32 : ao.tmps[120]?.getD undef = vs 32 := hU.slot 32 (by decide) l32
                      rw [hv32] at s32
                      refine wpOp_value (v := .bool false) (W' := W) rfl rfl ?_ (hK _ _ (LKeep.refl _ _ _) rfl)
                      go_simp
                    | 34, hoi, hom =>
                      have l33 := haft _ rfl { on := 33, ground := .guard } (by simp) rfl
                      have hv33 : vs 33 = .bool false := hpv 33 l33
                      have s33 : ao.tmps[121]?.getD undef = vs 33 := hU.slot 33 (by decide) l33
                      rw [hv33] at s33
                      have z15 : ao.tmps[15]?.getD undef = .pointer (some ⟨y10.heap.size, 0, none⟩) := hU.same 15 (by decide)
                      refine wpOp_wanted (v := .pointer (some ⟨y10.heap.size, 0, none⟩)) (W' := W) rfl ?_ ?_ (hK _ _ (LKeep.refl _ _ _) rfl)
                      · refine wanted_yes (j := 33) (d := 121) ?_ ?_ s33 <;> rfl
                      go_simp
                    | 35, hoi, hom =>
                      have l33 := haft _ rfl { on := 33, ground := .guard } (by simp) rfl
                      have hv33 : vs 33 = .bool false := hpv 33 l33
                      have s33 : ao.tmps[121]?.getD undef = vs 33 := hU.slot 33 (by decide) l33
                      rw [hv33] at s33
                      have l34 := haft _ rfl { on := 34, ground := .data } (by simp) rfl
                      have hv34 : vs 34 = .pointer (some ⟨y10.heap.size, 0, none⟩) := hpv 34 l34
                      have s34 : ao.tmps[122]?.getD undef = vs 34 := hU.slot 34 (by decide) l34
                      rw [hv34] at s34
                      have y0 := (hk.cell (b := y10.heap.size) (o := 0) (zS2) (fun h => h)).trans (cS20)
                      refine wpOp_wanted (v := .int .i64 (a2)) (W' := W) rfl ?_ ?_ (hK _ _ (LKeep.refl _ _ _) rfl)
                      · refine wanted_yes (j := 33) (d := 121) ?_ ?_ s33 <;> rfl
                      go_simp
                    | 36, hoi, hom =>
                      have l33 := haft _ rfl { on := 33, ground := .guard } (by simp) rfl
                      have hv33 : vs 33 = .bool false := hpv 33 l33
                      have s33 : ao.tmps[121]?.getD undef = vs 33 := hU.slot 33 (by decide) l33
                      rw [hv33] at s33
                      have z13 : ao.tmps[13]?.getD undef = .pointer (some ⟨y8.heap.size, 0, none⟩) := hU.same 13 (by decide)
                      refine wpOp_wanted (v := .pointer (some ⟨y8.heap.size, 0, none⟩)) (W' := W) rfl ?_ ?_ (hK _ _ (LKeep.refl _ _ _) rfl)
                      · refine wanted_yes (j := 33) (d := 121) ?_ ?_ s33 <;> rfl
                      go_simp
                    | 37, hoi, hom =>
                      have l33 := haft _ rfl { on := 33, ground := .guard } (by simp) rfl
                      have hv33 : vs 33 = .bool false := hpv 33 l33
                      have s33 : ao.tmps[121]?.getD undef = vs 33 := hU.slot 33 (by decide) l33
                      rw [hv33] at s33
                      have l36 := haft _ rfl { on := 36, ground := .data } (by simp) rfl
                      have hv36 : vs 36 = .pointer (some ⟨y8.heap.size, 0, none⟩) := hpv 36 l36
                      have s36 : ao.tmps[124]?.getD undef = vs 36 := hU.slot 36 (by decide) l36
                      rw [hv36] at s36
                      have y0 := (hk.cell (b := y8.heap.size) (o := 0) (zS1) (fun h => h)).trans (cS10)
                      refine wpOp_wanted (v := .int .i64 (a)) (W' := W) rfl ?_ ?_ (hK _ _ (LKeep.refl _ _ _) rfl)
                      · refine wanted_yes (j := 33) (d := 121) ?_ ?_ s33 <;> rfl
                      go_simp
                    | 38, hoi, hom =>
                      have l33 := haft _ rfl { on := 33, ground := .guard } (by simp) rfl
                      have hv33 : vs 33 = .bool false := hpv 33 l33
                      have s33 : ao.tmps[121]?.getD undef = vs 33 := hU.slot 33 (by decide) l33
                      rw [hv33] at s33
                      have l35 := haft _ rfl { on := 35, ground := .data } (by simp) rfl
                      have hv35 : vs 35 = .int .i64 (a2) := hpv 35 l35
                      have s35 : ao.tmps[123]?.getD undef = vs 35 := hU.slot 35 (by decide) l35
                      rw [hv35] at s35
                      have l37 := haft _ rfl { on := 37, ground := .data } (by simp) rfl
                      have hv37 : vs 37 = .int .i64 (a) := hpv 37 l37
                      have s37 : ao.tmps[125]?.getD undef = vs 37 := hU.slot 37 (by decide) l37
                      rw [hv37] at s37
                      refine wpOp_wanted (v := .bool false) (W' := W) rfl ?_ ?_ (hK _ _ (LKeep.refl _ _ _) rfl)
                      · refine wanted_yes (j := 33) (d := 121) ?_ ?_ s33 <;> rfl
                      go_simp
                    | 39, hoi, hom =>
                      have l33 := haft _ rfl { on := 33, ground := .data } (by simp) rfl
                      have hv33 : vs 33 = .bool false := hpv 33 l33
                      have s33 : ao.tmps[121]?.getD undef = vs 33 := hU.slot 33 (by decide) l33
                      rw [hv33] at s33
                      have l38 := haft _ rfl { on := 38, ground := .data } (by simp) rfl
                      have hv38 : vs 38 = .bool false := hpv 38 l38
                      have s38 : ao.tmps[126]?.getD undef = vs 38 := hU.slot 38 (by decide) l38
                      rw [hv38] at s38
                      refine wpOp_value (v := .bool false) (W' := W) rfl rfl ?_ (hK _ _ (LKeep.refl _ _ _) rfl)
                      go_simp
                    | oi + 40, hoi, hom => exact absurd (of_decide_eq_true hom) (by omega)
                  case hendT10 =>
                    intro listed vs ao W hG hk0 hpv hpre
                    have hkk := (LKeep.drew (fun _ => False) (M := fun _ => True) y11 (fun h => h)).trans hk0
                    have hk := hkk.1
                    have hkm := hkk.2
                    clear hkk
                    have hact := hG.act
                    have hT := hG.lst hpre 0 #[true, true, true, true, true, true, true, true, true, true, true, true, true, true, true, true, true, true, true, true, true, true, true, true, true, true, true, true, true, true, true, true, true, true, true, true, true, true, true, true] rfl (by kernel_rfl) (hpre 0 (by decide) (by decide))
                    rw [hG.ix hT (l := [0, 1, 2, 3, 4, 5, 6, 7, 8, 9, 10, 11, 12, 13, 14, 15, 16, 17, 18, 19, 20, 21, 22, 23, 24, 25, 26, 27, 28, 29, 30, 31, 32, 33, 34, 35, 36, 37, 38, 39]) (by kernel_rfl)] at hact
                    rw [hG.lo hT (k := 0) (by kernel_rfl)]
                    have hv0 : vs 0 = .int .i64 0 := hpv 0 (hpre 0 (by decide) (by decide))
                    have hv1 : vs 1 = .bool false := hpv 1 (hpre 1 (by decide) (by decide))
                    have hv2 : vs 2 = .bool false := hpv 2 (hpre 2 (by decide) (by decide))
                    have hv3 : vs 3 = .int .i64 0 := hpv 3 (hpre 3 (by decide) (by decide))
                    have hv4 : vs 4 = .bool false := hpv 4 (hpre 4 (by decide) (by decide))
                    have hv5 : vs 5 = .bool false := hpv 5 (hpre 5 (by decide) (by decide))
                    have hv6 : vs 6 = .bool false := hpv 6 (hpre 6 (by decide) (by decide))
                    have hv7 : vs 7 = .bool true := hpv 7 (hpre 7 (by decide) (by decide))
                    have hv8 : vs 8 = .bool false := hpv 8 (hpre 8 (by decide) (by decide))
                    have hv9 : vs 9 = .bool false := hpv 9 (hpre 9 (by decide) (by decide))
                    have hv10 : vs 10 = undef := hpv 10 (hpre 10 (by decide) (by decide))
                    have hv11 : vs 11 = undef := hpv 11 (hpre 11 (by decide) (by decide))
                    have hv12 : vs 12 = undef := hpv 12 (hpre 12 (by decide) (by decide))
                    have hv13 : vs 13 = .bool false := hpv 13 (hpre 13 (by decide) (by decide))
                    have hv14 : vs 14 = .bool false := hpv 14 (hpre 14 (by decide) (by decide))
                    have hv15 : vs 15 = .bool false := hpv 15 (hpre 15 (by decide) (by decide))
                    have hv16 : vs 16 = .int .i64 (j1 : Nat) := hpv 16 (hpre 16 (by decide) (by decide))
                    have hv17 : vs 17 = .pointer (some ⟨w.heap.size + 1, 1, none⟩) := hpv 17 (hpre 17 (by decide) (by decide))
                    have hv18 : vs 18 = .int .i64 c.against := hpv 18 (hpre 18 (by decide) (by decide))
                    have hv19 : vs 19 = .bool false := hpv 19 (hpre 19 (by decide) (by decide))
                    have hv20 : vs 20 = .bool false := hpv 20 (hpre 20 (by decide) (by decide))
                    have hv21 : vs 21 = undef := hpv 21 (hpre 21 (by decide) (by decide))
                    have hv22 : vs 22 = undef := hpv 22 (hpre 22 (by decide) (by decide))
                    have hv23 : vs 23 = undef := hpv 23 (hpre 23 (by decide) (by decide))
                    have hv24 : vs 24 = .bool false := hpv 24 (hpre 24 (by decide) (by decide))
                    have hv25 : vs 25 = .bool false := hpv 25 (hpre 25 (by decide) (by decide))
                    have hv26 : vs 26 = .bool false := hpv 26 (hpre 26 (by decide) (by decide))
                    have hv27 : vs 27 = .pointer (some ⟨y10.heap.size, 1, none⟩) := hpv 27 (hpre 27 (by decide) (by decide))
                    have hv28 : vs 28 = .int .i64 (b2) := hpv 28 (hpre 28 (by decide) (by decide))
                    have hv29 : vs 29 = .pointer (some ⟨y8.heap.size, 1, none⟩) := hpv 29 (hpre 29 (by decide) (by decide))
                    have hv30 : vs 30 = .int .i64 (b) := hpv 30 (hpre 30 (by decide) (by decide))
                    have hv31 : vs 31 = .bool false := hpv 31 (hpre 31 (by decide) (by decide))
                    have hv32 : vs 32 = .bool false := hpv 32 (hpre 32 (by decide) (by decide))
                    have hv33 : vs 33 = .bool false := hpv 33 (hpre 33 (by decide) (by decide))
                    have hv34 : vs 34 = .pointer (some ⟨y10.heap.size, 0, none⟩) := hpv 34 (hpre 34 (by decide) (by decide))
                    have hv35 : vs 35 = .int .i64 (a2) := hpv 35 (hpre 35 (by decide) (by decide))
                    have hv36 : vs 36 = .pointer (some ⟨y8.heap.size, 0, none⟩) := hpv 36 (hpre 36 (by decide) (by decide))
                    have hv37 : vs 37 = .int .i64 (a) := hpv 37 (hpre 37 (by decide) (by decide))
                    have hv38 : vs 38 = .bool false := hpv 38 (hpre 38 (by decide) (by decide))
                    have hv39 : vs 39 = .bool false := hpv 39 (hpre 39 (by decide) (by decide))
                    clear hpv hpre hG hk0
                    obtain rfl : ao = _ := hact
                    subst hT
                    simp only [setAll, List.setIfInBounds_toArray, List.set_cons_succ, List.set_cons_zero, List.getD_cons_succ, List.getD_cons_zero]
                    simp only [hv0, hv1, hv2, hv3, hv4, hv5, hv6, hv7, hv8, hv9, hv10, hv11, hv12, hv13, hv14, hv15, hv16, hv17, hv18, hv19, hv20, hv21, hv22, hv23, hv24, hv25, hv26, hv27, hv28, hv29, hv30, hv31, hv32, hv33, hv34, hv35, hv36, hv37, hv38, hv39]
                    clear hv0 hv1 hv2 hv3 hv4 hv5 hv6 hv7 hv8 hv9 hv10 hv11 hv12 hv13 hv14 hv15 hv16 hv17 hv18 hv19 hv20 hv21 hv22 hv23 hv24 hv25 hv26 hv27 hv28 hv29 hv30 hv31 hv32 hv33 hv34 hv35 hv36 hv37 hv38 hv39
                    refine wpAny_done (by kernel_rfl) ?_ _
                    have hb := hk.below (B := y11.heap.size) (fun k h => h.elim) (Nat.le_refl _)
                    clear zK cK1 cK2 cK3 cK4 cK5 zQ cQ0 cQ1 cQ2 zZ cZ1 cZ2 cZ3 cZ4 cZ5 zS1 cS10 cS11 zS2 cS20 cS21
                    have K := hide (K.out.next hb)
                    have Q := hide (Q.out.next hb)
                    have Z := hide (Z.out.next hb)
                    have J1 := hide (J1.out.next hb)
                    have J2 := hide (J2.out.next hb)
                    have S1 := hide (S1.out.next hb)
                    have S2 := hide (S2.out.next hb)
                    have HB := hide (HB.out.trans (hb.mono HB.out.size))
                    have HL1 := hide (HL1.out.trans (hb.mono HL1.out.size))
                    clear hb
                    clear hk hkm
                    go_wp2_with fail
                    go_roundw
                    case rel => exact ⟨j1 + 1, by omega, by go_num, HL1.out⟩
                    case measure => simp [intOf]; omega
              | false =>
                obtain ⟨rfl, rfl⟩ : a = 0 ∧ b = 0 := by have := HN1.out hcm; simpa using this
                cases hne : (((j1 : Nat) : Int) != c.against) with
                | true =>
                  obtain ⟨rfl, rfl⟩ : 0 = a2 ∧ 0 = b2 := by have := HN2.out (by simpa using hne); simpa using this
                  go_wp2_with fail
                  refine wp_region_rel (dst := fun oi => [88, 89, 90, 91, 92, 93, 94, 95, 96, 97, 98, 99, 100, 101, 102, 103, 104, 105, 106, 107, 108, 109, 110, 111, 112, 113, 114, 115, 116, 117, 118, 119, 120, 121, 122, 123, 124, 125, 126, 127].getD oi 0) (mono := fun oi => decide (oi < 40)) (pre := fun oi => decide (oi < 40)) (R := LKeep (fun _ => False) (fun _ => True))
                    (Pv := fun oi v W => match oi with
                      | 0 => v = .int .i64 0
                      | 1 => v = .bool false
                      | 2 => v = .bool false
                      | 3 => v = .int .i64 0
                      | 4 => v = .bool false
                      | 5 => v = .bool false
                      | 6 => v = .bool false
                      | 7 => v = .bool false
                      | 8 => v = .bool true
                      | 9 => v = .bool true
                      | 10 => v = .agg #[.int .i64 (0), .int .i64 (0)]
                      | 11 => v = .agg #[.int .i64 0, .int .i64 0]
                      | 12 => v = .bool false
                      | 13 => v = .bool false
                      | 14 => v = .bool false
                      | 15 => v = .bool false
                      | 16 => v = .int .i64 (j1 : Nat)
                      | 17 => v = .pointer (some ⟨w.heap.size + 1, 1, none⟩)
                      | 18 => v = .int .i64 c.against
                      | 19 => v = .bool true
                      | 20 => v = .bool true
                      | 21 => v = .agg #[.int .i64 (0), .int .i64 (0)]
                      | 22 => v = .agg #[.int .i64 (0), .int .i64 (0)]
                      | 23 => v = .bool false
                      | 24 => v = .bool false
                      | 25 => v = .bool false
                      | 26 => v = .bool false
                      | 27 => v = .pointer (some ⟨y10.heap.size, 1, none⟩)
                      | 28 => v = .int .i64 (0)
                      | 29 => v = .pointer (some ⟨y8.heap.size, 1, none⟩)
                      | 30 => v = .int .i64 (0)
                      | 31 => v = .bool false
                      | 32 => v = .bool false
                      | 33 => v = .bool false
                      | 34 => v = .pointer (some ⟨y10.heap.size, 0, none⟩)
                      | 35 => v = .int .i64 (0)
                      | 36 => v = .pointer (some ⟨y8.heap.size, 0, none⟩)
                      | 37 => v = .int .i64 (0)
                      | 38 => v = .bool false
                      | 39 => v = .bool false
                      | _ => True) (by kernel_rfl) (by kernel_rfl) (LKeep.refl _ _) (fun _ _ _ h h' => h.trans h') ?hstT01 ?hstepT01 ?hendT01
                  case hstT01 =>
                    intro oi v W W' h hk
                    match oi, h with
                    | 0, h => exact h
                    | 1, h => exact h
                    | 2, h => exact h
                    | 3, h => exact h
                    | 4, h => exact h
                    | 5, h => exact h
                    | 6, h => exact h
                    | 7, h => exact h
                    | 8, h => exact h
                    | 9, h => exact h
                    | 10, h => exact h
                    | 11, h => exact h
                    | 12, h => exact h
                    | 13, h => exact h
                    | 14, h => exact h
                    | 15, h => exact h
                    | 16, h => exact h
                    | 17, h => exact h
                    | 18, h => exact h
                    | 19, h => exact h
                    | 20, h => exact h
                    | 21, h => exact h
                    | 22, h => exact h
                    | 23, h => exact h
                    | 24, h => exact h
                    | 25, h => exact h
                    | 26, h => exact h
                    | 27, h => exact h
                    | 28, h => exact h
                    | 29, h => exact h
                    | 30, h => exact h
                    | 31, h => exact h
                    | 32, h => exact h
                    | 33, h => exact h
                    | 34, h => exact h
                    | 35, h => exact h
                    | 36, h => exact h
                    | 37, h => exact h
                    | 38, h => exact h
                    | 39, h => exact h
                    | oi + 40, h => exact trivial
                  case hstepT01 =>
                    intro oi hoi hom listed vs ao W hU hk0 hpv haft Ko hK
                    have hkk := (LKeep.drew (fun _ => False) (M := fun _ => True) y11 (fun h => h)).trans hk0
                    have hk := hkk.1
                    have hkm := hkk.2
                    clear hkk
                    match oi, hoi, hom with
                    | 0, hoi, hom =>
                      have z14 : ao.tmps[14]?.getD undef = .int .i64 0 := hU.same 14 (by decide)
                      refine wpOp_value (v := .int .i64 0) (W' := W) rfl rfl ?_ (hK _ _ (LKeep.refl _ _ _) rfl)
                      go_simp
                    | 1, hoi, hom =>
                      have l0 := haft _ rfl { on := 0, ground := .data } (by simp) rfl
                      have hv0 : vs 0 = .int .i64 0 := hpv 0 l0
                      have s0 : ao.tmps[88]?.getD undef = vs 0 := hU.slot 0 (by decide) l0
                      rw [hv0] at s0
                      refine wpOp_value (v := .bool false) (W' := W) rfl rfl ?_ (hK _ _ (LKeep.refl _ _ _) rfl)
                      go_simp
                    | 2, hoi, hom =>
                      have l1 := haft _ rfl { on := 1, ground := .data } (by simp) rfl
                      have hv1 : vs 1 = .bool false := hpv 1 l1
                      have s1 : ao.tmps[89]?.getD undef = vs 1 := hU.slot 1 (by decide) l1
                      rw [hv1] at s1
                      refine wpOp_value (v := .bool false) (W' := W) rfl rfl ?_ (hK _ _ (LKeep.refl _ _ _) rfl)
                      go_simp
                    | 3, hoi, hom =>
                      have l2 := haft _ rfl { on := 2, ground := .guard } (by simp) rfl
                      have hv2 : vs 2 = .bool false := hpv 2 l2
                      have s2 : ao.tmps[90]?.getD undef = vs 2 := hU.slot 2 (by decide) l2
                      rw [hv2] at s2
                      have z16 : ao.tmps[16]?.getD undef = .int .i64 0 := hU.same 16 (by decide)
                      refine wpOp_wanted (v := .int .i64 0) (W' := W) rfl ?_ ?_ (hK _ _ (LKeep.refl _ _ _) rfl)
                      · refine wanted_yes (j := 2) (d := 90) ?_ ?_ s2 <;> rfl
                      go_simp
                    | 4, hoi, hom =>
                      have l2 := haft _ rfl { on := 2, ground := .guard } (by simp) rfl
                      have hv2 : vs 2 = .bool false := hpv 2 l2
                      have s2 : ao.tmps[90]?.getD undef = vs 2 := hU.slot 2 (by decide) l2
                      rw [hv2] at s2
                      have l3 := haft _ rfl { on := 3, ground := .data } (by simp) rfl
                      have hv3 : vs 3 = .int .i64 0 := hpv 3 l3
                      have s3 : ao.tmps[91]?.getD undef = vs 3 := hU.slot 3 (by decide) l3
                      rw [hv3] at s3
                      refine wpOp_wanted (v := .bool false) (W' := W) rfl ?_ ?_ (hK _ _ (LKeep.refl _ _ _) rfl)
                      · refine wanted_yes (j := 2) (d := 90) ?_ ?_ s2 <;> rfl
                      go_simp
                    | 5, hoi, hom =>
                      have l2 := haft _ rfl { on := 2, ground := .data } (by simp) rfl
                      have hv2 : vs 2 = .bool false := hpv 2 l2
                      have s2 : ao.tmps[90]?.getD undef = vs 2 := hU.slot 2 (by decide) l2
                      rw [hv2] at s2
                      have l4 := haft _ rfl { on := 4, ground := .data } (by simp) rfl
                      have hv4 : vs 4 = .bool false := hpv 4 l4
                      have s4 : ao.tmps[92]?.getD undef = vs 4 := hU.slot 4 (by decide) l4
                      rw [hv4] at s4
                      refine wpOp_value (v := .bool false) (W' := W) rfl rfl ?_ (hK _ _ (LKeep.refl _ _ _) rfl)
                      go_simp
                    | 6, hoi, hom =>
                      have l5 := haft _ rfl { on := 5, ground := .data } (by simp) rfl
                      have hv5 : vs 5 = .bool false := hpv 5 l5
                      have s5 : ao.tmps[93]?.getD undef = vs 5 := hU.slot 5 (by decide) l5
                      rw [hv5] at s5
                      refine wpOp_value (v := .bool false) (W' := W) rfl rfl ?_ (hK _ _ (LKeep.refl _ _ _) rfl)
                      go_simp
                    | 7, hoi, hom =>
                      have l6 := haft _ rfl { on := 6, ground := .guard } (by simp) rfl
                      have hv6 : vs 6 = .bool false := hpv 6 l6
                      have s6 : ao.tmps[94]?.getD undef = vs 6 := hU.slot 6 (by decide) l6
                      rw [hv6] at s6
                      have z11 : ao.tmps[11]?.getD undef = .bool false := hU.same 11 (by decide)
                      refine wpOp_wanted (v := .bool false) (W' := W) rfl ?_ ?_ (hK _ _ (LKeep.refl _ _ _) rfl)
                      · refine wanted_yes (j := 6) (d := 94) ?_ ?_ s6 <;> rfl
                      go_simp
                    | 8, hoi, hom =>
                      have l6 := haft _ rfl { on := 6, ground := .guard } (by simp) rfl
                      have hv6 : vs 6 = .bool false := hpv 6 l6
                      have s6 : ao.tmps[94]?.getD undef = vs 6 := hU.slot 6 (by decide) l6
                      rw [hv6] at s6
                      have l7 := haft _ rfl { on := 7, ground := .data } (by simp) rfl
                      have hv7 : vs 7 = .bool false := hpv 7 l7
                      have s7 : ao.tmps[95]?.getD undef = vs 7 := hU.slot 7 (by decide) l7
                      rw [hv7] at s7
                      refine wpOp_wanted (v := .bool true) (W' := W) rfl ?_ ?_ (hK _ _ (LKeep.refl _ _ _) rfl)
                      · refine wanted_yes (j := 6) (d := 94) ?_ ?_ s6 <;> rfl
                      go_simp
                    | 9, hoi, hom =>
                      have l6 := haft _ rfl { on := 6, ground := .guard } (by simp) rfl
                      have hv6 : vs 6 = .bool false := hpv 6 l6
                      have s6 : ao.tmps[94]?.getD undef = vs 6 := hU.slot 6 (by decide) l6
                      rw [hv6] at s6
                      have l8 := haft _ rfl { on := 8, ground := .data } (by simp) rfl
                      have hv8 : vs 8 = .bool true := hpv 8 l8
                      have s8 : ao.tmps[96]?.getD undef = vs 8 := hU.slot 8 (by decide) l8
                      rw [hv8] at s8
                      refine wpOp_wanted (v := .bool true) (W' := W) rfl ?_ ?_ (hK _ _ (LKeep.refl _ _ _) rfl)
                      · refine wanted_yes (j := 6) (d := 94) ?_ ?_ s6 <;> rfl
                      go_simp
                    | 10, hoi, hom =>
                      have l9 := haft _ rfl { on := 9, ground := .guard } (by simp) rfl
                      have hv9 : vs 9 = .bool true := hpv 9 l9
                      have s9 : ao.tmps[97]?.getD undef = vs 9 := hU.slot 9 (by decide) l9
                      rw [hv9] at s9
                      have z13 : ao.tmps[13]?.getD undef = .pointer (some ⟨y8.heap.size, 0, none⟩) := hU.same 13 (by decide)
                      have y0 := (hk.cell (b := y8.heap.size) (o := 0) (zS1) (fun h => h)).trans (cS10)
                      have y1 := (hk.cell (b := y8.heap.size) (o := 1) (zS1) (fun h => h)).trans (cS11)
                      refine wpOp_wanted (v := .agg #[.int .i64 (0), .int .i64 (0)]) (W' := W) rfl ?_ ?_ (hK _ _ (LKeep.refl _ _ _) rfl)
                      · refine wanted_yes (j := 9) (d := 97) ?_ ?_ s9 <;> rfl
                      go_simp
                    | 11, hoi, hom =>
                      have l9 := haft _ rfl { on := 9, ground := .guard } (by simp) rfl
                      have hv9 : vs 9 = .bool true := hpv 9 l9
                      have s9 : ao.tmps[97]?.getD undef = vs 9 := hU.slot 9 (by decide) l9
                      rw [hv9] at s9
                      refine wpOp_enterW (f := 44) (args := #[.int .i64 0, .int .i64 0]) (W' := W) rfl ?_ ?_ ((span_any 0 0 W).mono (fun e w'' h => ?_))
                      · refine wanted_yes (j := 9) (d := 97) ?_ ?_ s9 <;> rfl
                      · go_simp
                      · obtain ⟨he, hbw⟩ := h
                        exact ⟨_, he, hK _ _ (LKeep.below hbw (fun h => h)) rfl⟩
                    | 12, hoi, hom =>
                      have l9 := haft _ rfl { on := 9, ground := .guard } (by simp) rfl
                      have hv9 : vs 9 = .bool true := hpv 9 l9
                      have s9 : ao.tmps[97]?.getD undef = vs 9 := hU.slot 9 (by decide) l9
                      rw [hv9] at s9
                      have l10 := haft _ rfl { on := 10, ground := .data } (by simp) rfl
                      have hv10 : vs 10 = .agg #[.int .i64 (0), .int .i64 (0)] := hpv 10 l10
                      have s10 : ao.tmps[98]?.getD undef = vs 10 := hU.slot 10 (by decide) l10
                      rw [hv10] at s10
                      have l11 := haft _ rfl { on := 11, ground := .data } (by simp) rfl
                      have hv11 : vs 11 = .agg #[.int .i64 0, .int .i64 0] := hpv 11 l11
                      have s11 : ao.tmps[99]?.getD undef = vs 11 := hU.slot 11 (by decide) l11
                      rw [hv11] at s11
                      refine wpOp_wanted (v := .bool false) (W' := W) rfl ?_ ?_ (hK _ _ (LKeep.refl _ _ _) rfl)
                      · refine wanted_yes (j := 9) (d := 97) ?_ ?_ s9 <;> rfl
                      go_simp
                    | 13, hoi, hom =>
                      have l6 := haft _ rfl { on := 6, ground := .guard } (by simp) rfl
                      have hv6 : vs 6 = .bool false := hpv 6 l6
                      have s6 : ao.tmps[94]?.getD undef = vs 6 := hU.slot 6 (by decide) l6
                      rw [hv6] at s6
                      have l9 := haft _ rfl { on := 9, ground := .data } (by simp) rfl
                      have hv9 : vs 9 = .bool true := hpv 9 l9
                      have s9 : ao.tmps[97]?.getD undef = vs 9 := hU.slot 9 (by decide) l9
                      rw [hv9] at s9
                      have l12 := haft _ rfl { on := 12, ground := .data } (by simp) rfl
                      have hv12 : vs 12 = .bool false := hpv 12 l12
                      have s12 : ao.tmps[100]?.getD undef = vs 12 := hU.slot 12 (by decide) l12
                      rw [hv12] at s12
                      refine wpOp_wanted (v := .bool false) (W' := W) rfl ?_ ?_ (hK _ _ (LKeep.refl _ _ _) rfl)
                      · refine wanted_yes (j := 6) (d := 94) ?_ ?_ s6 <;> rfl
                      go_simp
                    | 14, hoi, hom =>
                      have l6 := haft _ rfl { on := 6, ground := .data } (by simp) rfl
                      have hv6 : vs 6 = .bool false := hpv 6 l6
                      have s6 : ao.tmps[94]?.getD undef = vs 6 := hU.slot 6 (by decide) l6
                      rw [hv6] at s6
                      have l13 := haft _ rfl { on := 13, ground := .data } (by simp) rfl
                      have hv13 : vs 13 = .bool false := hpv 13 l13
                      have s13 : ao.tmps[101]?.getD undef = vs 13 := hU.slot 13 (by decide) l13
                      rw [hv13] at s13
                      refine wpOp_value (v := .bool false) (W' := W) rfl rfl ?_ (hK _ _ (LKeep.refl _ _ _) rfl)
                      go_simp
                    | 15, hoi, hom =>
                      have l14 := haft _ rfl { on := 14, ground := .data } (by simp) rfl
                      have hv14 : vs 14 = .bool false := hpv 14 l14
                      have s14 : ao.tmps[102]?.getD undef = vs 14 := hU.slot 14 (by decide) l14
                      rw [hv14] at s14
                      refine wpOp_value (v := .bool false) (W' := W) rfl rfl ?_ (hK _ _ (LKeep.refl _ _ _) rfl)
                      go_simp
                    | 16, hoi, hom =>
                      have l15 := haft _ rfl { on := 15, ground := .guard } (by simp) rfl
                      have hv15 : vs 15 = .bool false := hpv 15 l15
                      have s15 : ao.tmps[103]?.getD undef = vs 15 := hU.slot 15 (by decide) l15
                      rw [hv15] at s15
                      have z10 : ao.tmps[10]?.getD undef = .int .i64 (j1 : Nat) := hU.same 10 (by decide)
                      refine wpOp_wanted (v := .int .i64 (j1 : Nat)) (W' := W) rfl ?_ ?_ (hK _ _ (LKeep.refl _ _ _) rfl)
                      · refine wanted_yes (j := 15) (d := 103) ?_ ?_ s15 <;> rfl
                      go_simp
                    | 17, hoi, hom =>
                      have l15 := haft _ rfl { on := 15, ground := .guard } (by simp) rfl
                      have hv15 : vs 15 = .bool false := hpv 15 l15
                      have s15 : ao.tmps[103]?.getD undef = vs 15 := hU.slot 15 (by decide) l15
                      rw [hv15] at s15
                      have z3 : ao.tmps[3]?.getD undef = .pointer (some ⟨w.heap.size + 1, 0, none⟩) := hU.same 3 (by decide)
                      refine wpOp_wanted (v := .pointer (some ⟨w.heap.size + 1, 1, none⟩)) (W' := W) rfl ?_ ?_ (hK _ _ (LKeep.refl _ _ _) rfl)
                      · refine wanted_yes (j := 15) (d := 103) ?_ ?_ s15 <;> rfl
                      go_simp
                    | 18, hoi, hom =>
                      have l15 := haft _ rfl { on := 15, ground := .guard } (by simp) rfl
                      have hv15 : vs 15 = .bool false := hpv 15 l15
                      have s15 : ao.tmps[103]?.getD undef = vs 15 := hU.slot 15 (by decide) l15
                      rw [hv15] at s15
                      have l17 := haft _ rfl { on := 17, ground := .data } (by simp) rfl
                      have hv17 : vs 17 = .pointer (some ⟨w.heap.size + 1, 1, none⟩) := hpv 17 l17
                      have s17 : ao.tmps[105]?.getD undef = vs 17 := hU.slot 17 (by decide) l17
                      rw [hv17] at s17
                      have y0 := (hk.cell (b := w.heap.size + 1) (o := 1) (zQ) (fun h => h)).trans (cQ1)
                      refine wpOp_wanted (v := .int .i64 c.against) (W' := W) rfl ?_ ?_ (hK _ _ (LKeep.refl _ _ _) rfl)
                      · refine wanted_yes (j := 15) (d := 103) ?_ ?_ s15 <;> rfl
                      go_simp
                    | 19, hoi, hom =>
                      have l15 := haft _ rfl { on := 15, ground := .guard } (by simp) rfl
                      have hv15 : vs 15 = .bool false := hpv 15 l15
                      have s15 : ao.tmps[103]?.getD undef = vs 15 := hU.slot 15 (by decide) l15
                      rw [hv15] at s15
                      have l16 := haft _ rfl { on := 16, ground := .data } (by simp) rfl
                      have hv16 : vs 16 = .int .i64 (j1 : Nat) := hpv 16 l16
                      have s16 : ao.tmps[104]?.getD undef = vs 16 := hU.slot 16 (by decide) l16
                      rw [hv16] at s16
                      have l18 := haft _ rfl { on := 18, ground := .data } (by simp) rfl
                      have hv18 : vs 18 = .int .i64 c.against := hpv 18 l18
                      have s18 : ao.tmps[106]?.getD undef = vs 18 := hU.slot 18 (by decide) l18
                      rw [hv18] at s18
                      refine wpOp_wanted (v := .bool true) (W' := W) rfl ?_ ?_ (hK _ _ (LKeep.refl _ _ _) rfl)
                      · refine wanted_yes (j := 15) (d := 103) ?_ ?_ s15 <;> rfl
                      go_simp
                    | 20, hoi, hom =>
                      have l15 := haft _ rfl { on := 15, ground := .guard } (by simp) rfl
                      have hv15 : vs 15 = .bool false := hpv 15 l15
                      have s15 : ao.tmps[103]?.getD undef = vs 15 := hU.slot 15 (by decide) l15
                      rw [hv15] at s15
                      have l19 := haft _ rfl { on := 19, ground := .data } (by simp) rfl
                      have hv19 : vs 19 = .bool true := hpv 19 l19
                      have s19 : ao.tmps[107]?.getD undef = vs 19 := hU.slot 19 (by decide) l19
                      rw [hv19] at s19
                      refine wpOp_wanted (v := .bool true) (W' := W) rfl ?_ ?_ (hK _ _ (LKeep.refl _ _ _) rfl)
                      · refine wanted_yes (j := 15) (d := 103) ?_ ?_ s15 <;> rfl
                      go_simp
                    | 21, hoi, hom =>
                      have l20 := haft _ rfl { on := 20, ground := .guard } (by simp) rfl
                      have hv20 : vs 20 = .bool true := hpv 20 l20
                      have s20 : ao.tmps[108]?.getD undef = vs 20 := hU.slot 20 (by decide) l20
                      rw [hv20] at s20
                      have z13 : ao.tmps[13]?.getD undef = .pointer (some ⟨y8.heap.size, 0, none⟩) := hU.same 13 (by decide)
                      have y0 := (hk.cell (b := y8.heap.size) (o := 0) (zS1) (fun h => h)).trans (cS10)
                      have y1 := (hk.cell (b := y8.heap.size) (o := 1) (zS1) (fun h => h)).trans (cS11)
                      refine wpOp_wanted (v := .agg #[.int .i64 (0), .int .i64 (0)]) (W' := W) rfl ?_ ?_ (hK _ _ (LKeep.refl _ _ _) rfl)
                      · refine wanted_yes (j := 20) (d := 108) ?_ ?_ s20 <;> rfl
                      go_simp
                    | 22, hoi, hom =>
                      have l20 := haft _ rfl { on := 20, ground := .guard } (by simp) rfl
                      have hv20 : vs 20 = .bool true := hpv 20 l20
                      have s20 : ao.tmps[108]?.getD undef = vs 20 := hU.slot 20 (by decide) l20
                      rw [hv20] at s20
                      have z15 : ao.tmps[15]?.getD undef = .pointer (some ⟨y10.heap.size, 0, none⟩) := hU.same 15 (by decide)
                      have y0 := (hk.cell (b := y10.heap.size) (o := 0) (zS2) (fun h => h)).trans (cS20)
                      have y1 := (hk.cell (b := y10.heap.size) (o := 1) (zS2) (fun h => h)).trans (cS21)
                      refine wpOp_wanted (v := .agg #[.int .i64 (0), .int .i64 (0)]) (W' := W) rfl ?_ ?_ (hK _ _ (LKeep.refl _ _ _) rfl)
                      · refine wanted_yes (j := 20) (d := 108) ?_ ?_ s20 <;> rfl
                      go_simp
                    | 23, hoi, hom =>
                      have l20 := haft _ rfl { on := 20, ground := .guard } (by simp) rfl
                      have hv20 : vs 20 = .bool true := hpv 20 l20
                      have s20 : ao.tmps[108]?.getD undef = vs 20 := hU.slot 20 (by decide) l20
                      rw [hv20] at s20
                      have l21 := haft _ rfl { on := 21, ground := .data } (by simp) rfl
                      have hv21 : vs 21 = .agg #[.int .i64 (0), .int .i64 (0)] := hpv 21 l21
                      have s21 : ao.tmps[109]?.getD undef = vs 21 := hU.slot 21 (by decide) l21
                      rw [hv21] at s21
                      have l22 := haft _ rfl { on := 22, ground := .data } (by simp) rfl
                      have hv22 : vs 22 = .agg #[.int .i64 (0), .int .i64 (0)] := hpv 22 l22
                      have s22 : ao.tmps[110]?.getD undef = vs 22 := hU.slot 22 (by decide) l22
                      rw [hv22] at s22
                      refine wpOp_wanted (v := .bool false) (W' := W) rfl ?_ ?_ (hK _ _ (LKeep.refl _ _ _) rfl)
                      · refine wanted_yes (j := 20) (d := 108) ?_ ?_ s20 <;> rfl
                      go_simp
                    | 24, hoi, hom =>
                      have l15 := haft _ rfl { on := 15, ground := .guard } (by simp) rfl
                      have hv15 : vs 15 = .bool false := hpv 15 l15
                      have s15 : ao.tmps[103]?.getD undef = vs 15 := hU.slot 15 (by decide) l15
                      rw [hv15] at s15
                      have l20 := haft _ rfl { on := 20, ground := .data } (by simp) rfl
                      have hv20 : vs 20 = .bool true := hpv 20 l20
                      have s20 : ao.tmps[108]?.getD undef = vs 20 := hU.slot 20 (by decide) l20
                      rw [hv20] at s20
                      have l23 := haft _ rfl { on := 23, ground := .data } (by simp) rfl
                      have hv23 : vs 23 = .bool false := hpv 23 l23
                      have s23 : ao.tmps[111]?.getD undef = vs 23 := hU.slot 23 (by decide) l23
                      rw [hv23] at s23
                      refine wpOp_wanted (v := .bool false) (W' := W) rfl ?_ ?_ (hK _ _ (LKeep.refl _ _ _) rfl)
                      · refine wanted_yes (j := 15) (d := 103) ?_ ?_ s15 <;> rfl
                      go_simp
                    | 25, hoi, hom =>
                      have l15 := haft _ rfl { on := 15, ground := .data } (by simp) rfl
                      have hv15 : vs 15 = .bool false := hpv 15 l15
                      have s15 : ao.tmps[103]?.getD undef = vs 15 := hU.slot 15 (by decide) l15
                      rw [hv15] at s15
                      have l24 := haft _ rfl { on := 24, ground := .data } (by simp) rfl
                      have hv24 : vs 24 = .bool false := hpv 24 l24
                      have s24 : ao.tmps[112]?.getD undef = vs 24 := hU.slot 24 (by decide) l24
                      rw [hv24] at s24
                      refine wpOp_value (v := .bool false) (W' := W) rfl rfl ?_ (hK _ _ (LKeep.refl _ _ _) rfl)
                      go_simp
                    | 26, hoi, hom =>
                      have l25 := haft _ rfl { on := 25, ground := .data } (by simp) rfl
                      have hv25 : vs 25 = .bool false := hpv 25 l25
                      have s25 : ao.tmps[113]?.getD undef = vs 25 := hU.slot 25 (by decide) l25
                      rw [hv25] at s25
                      refine wpOp_value (v := .bool false) (W' := W) rfl rfl ?_ (hK _ _ (LKeep.refl _ _ _) rfl)
                      go_simp
                    | 27, hoi, hom =>
                      have l26 := haft _ rfl { on := 26, ground := .guard } (by simp) rfl
                      have hv26 : vs 26 = .bool false := hpv 26 l26
                      have s26 : ao.tmps[114]?.getD undef = vs 26 := hU.slot 26 (by decide) l26
                      rw [hv26] at s26
                      have z15 : ao.tmps[15]?.getD undef = .pointer (some ⟨y10.heap.size, 0, none⟩) := hU.same 15 (by decide)
                      refine wpOp_wanted (v := .pointer (some ⟨y10.heap.size, 1, none⟩)) (W' := W) rfl ?_ ?_ (hK _ _ (LKeep.refl _ _ _) rfl)
                      · refine wanted_yes (j := 26) (d := 114) ?_ ?_ s26 <;> rfl
                      go_simp
                    | 28, hoi, hom =>
                      have l26 := haft _ rfl { on := 26, ground := .guard } (by simp) rfl
                      have hv26 : vs 26 = .bool false := hpv 26 l26
                      have s26 : ao.tmps[114]?.getD undef = vs 26 := hU.slot 26 (by decide) l26
                      rw [hv26] at s26
                      have l27 := haft _ rfl { on := 27, ground := .data } (by simp) rfl
                      have hv27 : vs 27 = .pointer (some ⟨y10.heap.size, 1, none⟩) := hpv 27 l27
                      have s27 : ao.tmps[115]?.getD undef = vs 27 := hU.slot 27 (by decide) l27
                      rw [hv27] at s27
                      have y0 := (hk.cell (b := y10.heap.size) (o := 1) (zS2) (fun h => h)).trans (cS21)
                      refine wpOp_wanted (v := .int .i64 (0)) (W' := W) rfl ?_ ?_ (hK _ _ (LKeep.refl _ _ _) rfl)
                      · refine wanted_yes (j := 26) (d := 114) ?_ ?_ s26 <;> rfl
                      go_simp
                    | 29, hoi, hom =>
                      have l26 := haft _ rfl { on := 26, ground := .guard } (by simp) rfl
                      have hv26 : vs 26 = .bool false := hpv 26 l26
                      have s26 : ao.tmps[114]?.getD undef = vs 26 := hU.slot 26 (by decide) l26
                      rw [hv26] at s26
                      have z13 : ao.tmps[13]?.getD undef = .pointer (some ⟨y8.heap.size, 0, none⟩) := hU.same 13 (by decide)
                      refine wpOp_wanted (v := .pointer (some ⟨y8.heap.size, 1, none⟩)) (W' := W) rfl ?_ ?_ (hK _ _ (LKeep.refl _ _ _) rfl)
                      · refine wanted_yes (j := 26) (d := 114) ?_ ?_ s26 <;> rfl
                      go_simp
                    | 30, hoi, hom =>
                      have l26 := haft _ rfl { on := 26, ground := .guard } (by simp) rfl
                      have hv26 : vs 26 = .bool false := hpv 26 l26
                      have s26 : ao.tmps[114]?.getD undef = vs 26 := hU.slot 26 (by decide) l26
                      rw [hv26] at s26
                      have l29 := haft _ rfl { on := 29, ground := .data } (by simp) rfl
                      have hv29 : vs 29 = .pointer (some ⟨y8.heap.size, 1, none⟩) := hpv 29 l29
                      have s29 : ao.tmps[117]?.getD undef = vs 29 := hU.slot 29 (by decide) l29
                      rw [hv29] at s29
                      have y0 := (hk.cell (b := y8.heap.size) (o := 1) (zS1) (fun h => h)).trans (cS11)
                      refine wpOp_wanted (v := .int .i64 (0)) (W' := W) rfl ?_ ?_ (hK _ _ (LKeep.refl _ _ _) rfl)
                      · refine wanted_yes (j := 26) (d := 114) ?_ ?_ s26 <;> rfl
                      go_simp
                    | 31, hoi, hom =>
                      have l26 := haft _ rfl { on := 26, ground := .guard } (by simp) rfl
                      have hv26 : vs 26 = .bool false := hpv 26 l26
                      have s26 : ao.tmps[114]?.getD undef = vs 26 := hU.slot 26 (by decide) l26
                      rw [hv26] at s26
                      have l28 := haft _ rfl { on := 28, ground := .data } (by simp) rfl
                      have hv28 : vs 28 = .int .i64 (0) := hpv 28 l28
                      have s28 : ao.tmps[116]?.getD undef = vs 28 := hU.slot 28 (by decide) l28
                      rw [hv28] at s28
                      have l30 := haft _ rfl { on := 30, ground := .data } (by simp) rfl
                      have hv30 : vs 30 = .int .i64 (0) := hpv 30 l30
                      have s30 : ao.tmps[118]?.getD undef = vs 30 := hU.slot 30 (by decide) l30
                      rw [hv30] at s30
                      refine wpOp_wanted (v := .bool false) (W' := W) rfl ?_ ?_ (hK _ _ (LKeep.refl _ _ _) rfl)
                      · refine wanted_yes (j := 26) (d := 114) ?_ ?_ s26 <;> rfl
                      go_simp
                    | 32, hoi, hom =>
                      have l26 := haft _ rfl { on := 26, ground := .data } (by simp) rfl
                      have hv26 : vs 26 = .bool false := hpv 26 l26
                      have s26 : ao.tmps[114]?.getD undef = vs 26 := hU.slot 26 (by decide) l26
                      rw [hv26] at s26
                      have l31 := haft _ rfl { on := 31, ground := .data } (by simp) rfl
                      have hv31 : vs 31 = .bool false := hpv 31 l31
                      have s31 : ao.tmps[119]?.getD undef = vs 31 := hU.slot 31 (by decide) l31
                      rw [hv31] at s31
                      refine wpOp_value (v := .bool false) (W' := W) rfl rfl ?_ (hK _ _ (LKeep.refl _ _ _) rfl)
                      go_simp
                    | 33, hoi, hom =>
                      have l32 := haft _ rfl { on := 32, ground := .data } (by simp) rfl
                      have hv32 : vs 32 = .bool false := hpv 32 l32
                      have s32 : ao.tmps[120]?.getD undef = vs 32 := hU.slot 32 (by decide) l32
                      rw [hv32] at s32
                      refine wpOp_value (v := .bool false) (W' := W) rfl rfl ?_ (hK _ _ (LKeep.refl _ _ _) rfl)
                      go_simp
                    | 34, hoi, hom =>
                      have l33 := haft _ rfl { on := 33, ground := .guard } (by simp) rfl
                      have hv33 : vs 33 = .bool false := hpv 33 l33
                      have s33 : ao.tmps[121]?.getD undef = vs 33 := hU.slot 33 (by decide) l33
                      rw [hv33] at s33
                      have z15 : ao.tmps[15]?.getD undef = .pointer (some ⟨y10.heap.size, 0, none⟩) := hU.same 15 (by decide)
                      refine wpOp_wanted (v := .pointer (some ⟨y10.heap.size, 0, none⟩)) (W' := W) rfl ?_ ?_ (hK _ _ (LKeep.refl _ _ _) rfl)
                      · refine wanted_yes (j := 33) (d := 121) ?_ ?_ s33 <;> rfl
                      go_simp
                    | 35, hoi, hom =>
                      have l33 := haft _ rfl { on := 33, ground := .guard } (by simp) rfl
                      have hv33 : vs 33 = .bool false := hpv 33 l33
                      have s33 : ao.tmps[121]?.getD undef = vs 33 := hU.slot 33 (by decide) l33
                      rw [hv33] at s33
                      have l34 := haft _ rfl { on := 34, ground := .data } (by simp) rfl
                      have hv34 : vs 34 = .pointer (some ⟨y10.heap.size, 0, none⟩) := hpv 34 l34
                      have s34 : ao.tmps[122]?.getD undef = vs 34 := hU.slot 34 (by decide) l34
                      rw [hv34] at s34
                      have y0 := (hk.cell (b := y10.heap.size) (o := 0) (zS2) (fun h => h)).trans (cS20)
                      refine wpOp_wanted (v := .int .i64 (0)) (W' := W) rfl ?_ ?_ (hK _ _ (LKeep.refl _ _ _) rfl)
                      · refine wanted_yes (j := 33) (d := 121) ?_ ?_ s33 <;> rfl
                      go_simp
                    | 36, hoi, hom =>
                      have l33 := haft _ rfl { on := 33, ground := .guard } (by simp) rfl
                      have hv33 : vs 33 = .bool false := hpv 33 l33
                      have s33 : ao.tmps[121]?.getD undef = vs 33 := hU.slot 33 (by decide) l33
                      rw [hv33] at s33
                      have z13 : ao.tmps[13]?.getD undef = .pointer (some ⟨y8.heap.size, 0, none⟩) := hU.same 13 (by decide)
                      refine wpOp_wanted (v := .pointer (some ⟨y8.heap.size, 0, none⟩)) (W' := W) rfl ?_ ?_ (hK _ _ (LKeep.refl _ _ _) rfl)
                      · refine wanted_yes (j := 33) (d := 121) ?_ ?_ s33 <;> rfl
                      go_simp
                    | 37, hoi, hom =>
                      have l33 := haft _ rfl { on := 33, ground := .guard } (by simp) rfl
                      have hv33 : vs 33 = .bool false := hpv 33 l33
                      have s33 : ao.tmps[121]?.getD undef = vs 33 := hU.slot 33 (by decide) l33
                      rw [hv33] at s33
                      have l36 := haft _ rfl { on := 36, ground := .data } (by simp) rfl
                      have hv36 : vs 36 = .pointer (some ⟨y8.heap.size, 0, none⟩) := hpv 36 l36
                      have s36 : ao.tmps[124]?.getD undef = vs 36 := hU.slot 36 (by decide) l36
                      rw [hv36] at s36
                      have y0 := (hk.cell (b := y8.heap.size) (o := 0) (zS1) (fun h => h)).trans (cS10)
                      refine wpOp_wanted (v := .int .i64 (0)) (W' := W) rfl ?_ ?_ (hK _ _ (LKeep.refl _ _ _) rfl)
                      · refine wanted_yes (j := 33) (d := 121) ?_ ?_ s33 <;> rfl
                      go_simp
                    | 38, hoi, hom =>
                      have l33 := haft _ rfl { on := 33, ground := .guard } (by simp) rfl
                      have hv33 : vs 33 = .bool false := hpv 33 l33
                      have s33 : ao.tmps[121]?.getD undef = vs 33 := hU.slot 33 (by decide) l33
                      rw [hv33] at s33
                      have l35 := haft _ rfl { on := 35, ground := .data } (by simp) rfl
                      have hv35 : vs 35 = .int .i64 (0) := hpv 35 l35
                      have s35 : ao.tmps[123]?.getD undef = vs 35 := hU.slot 35 (by decide) l35
                      rw [hv35] at s35
                      have l37 := haft _ rfl { on := 37, ground := .data } (by simp) rfl
                      have hv37 : vs 37 = .int .i64 (0) := hpv 37 l37
                      have s37 : ao.tmps[125]?.getD undef = vs 37 := hU.slot 37 (by decide) l37
                      rw [hv37] at s37
                      refine wpOp_wanted (v := .bool false) (W' := W) rfl ?_ ?_ (hK _ _ (LKeep.refl _ _ _) rfl)
                      · refine wanted_yes (j := 33) (d := 121) ?_ ?_ s33 <;> rfl
                      go_simp
                    | 39, hoi, hom =>
                      have l33 := haft _ rfl { on := 33, ground := .data } (by simp) rfl
                      have hv33 : vs 33 = .bool false := hpv 33 l33
                      have s33 : ao.tmps[121]?.getD undef = vs 33 := hU.slot 33 (by decide) l33
                      rw [hv33] at s33
                      have l38 := haft _ rfl { on := 38, ground := .data } (by simp) rfl
                      have hv38 : vs 38 = .bool false := hpv 38 l38
                      have s38 : ao.tmps[126]?.getD undef = vs 38 := hU.slot 38 (by decide) l38
                      rw [hv38] at s38
                      refine wpOp_value (v := .bool false) (W' := W) rfl rfl ?_ (hK _ _ (LKeep.refl _ _ _) rfl)
                      go_simp
                    | oi + 40, hoi, hom => exact absurd (of_decide_eq_true hom) (by omega)
                  case hendT01 =>
                    intro listed vs ao W hG hk0 hpv hpre
                    have hkk := (LKeep.drew (fun _ => False) (M := fun _ => True) y11 (fun h => h)).trans hk0
                    have hk := hkk.1
                    have hkm := hkk.2
                    clear hkk
                    have hact := hG.act
                    have hT := hG.lst hpre 0 #[true, true, true, true, true, true, true, true, true, true, true, true, true, true, true, true, true, true, true, true, true, true, true, true, true, true, true, true, true, true, true, true, true, true, true, true, true, true, true, true] rfl (by kernel_rfl) (hpre 0 (by decide) (by decide))
                    rw [hG.ix hT (l := [0, 1, 2, 3, 4, 5, 6, 7, 8, 9, 10, 11, 12, 13, 14, 15, 16, 17, 18, 19, 20, 21, 22, 23, 24, 25, 26, 27, 28, 29, 30, 31, 32, 33, 34, 35, 36, 37, 38, 39]) (by kernel_rfl)] at hact
                    rw [hG.lo hT (k := 0) (by kernel_rfl)]
                    have hv0 : vs 0 = .int .i64 0 := hpv 0 (hpre 0 (by decide) (by decide))
                    have hv1 : vs 1 = .bool false := hpv 1 (hpre 1 (by decide) (by decide))
                    have hv2 : vs 2 = .bool false := hpv 2 (hpre 2 (by decide) (by decide))
                    have hv3 : vs 3 = .int .i64 0 := hpv 3 (hpre 3 (by decide) (by decide))
                    have hv4 : vs 4 = .bool false := hpv 4 (hpre 4 (by decide) (by decide))
                    have hv5 : vs 5 = .bool false := hpv 5 (hpre 5 (by decide) (by decide))
                    have hv6 : vs 6 = .bool false := hpv 6 (hpre 6 (by decide) (by decide))
                    have hv7 : vs 7 = .bool false := hpv 7 (hpre 7 (by decide) (by decide))
                    have hv8 : vs 8 = .bool true := hpv 8 (hpre 8 (by decide) (by decide))
                    have hv9 : vs 9 = .bool true := hpv 9 (hpre 9 (by decide) (by decide))
                    have hv10 : vs 10 = .agg #[.int .i64 (0), .int .i64 (0)] := hpv 10 (hpre 10 (by decide) (by decide))
                    have hv11 : vs 11 = .agg #[.int .i64 0, .int .i64 0] := hpv 11 (hpre 11 (by decide) (by decide))
                    have hv12 : vs 12 = .bool false := hpv 12 (hpre 12 (by decide) (by decide))
                    have hv13 : vs 13 = .bool false := hpv 13 (hpre 13 (by decide) (by decide))
                    have hv14 : vs 14 = .bool false := hpv 14 (hpre 14 (by decide) (by decide))
                    have hv15 : vs 15 = .bool false := hpv 15 (hpre 15 (by decide) (by decide))
                    have hv16 : vs 16 = .int .i64 (j1 : Nat) := hpv 16 (hpre 16 (by decide) (by decide))
                    have hv17 : vs 17 = .pointer (some ⟨w.heap.size + 1, 1, none⟩) := hpv 17 (hpre 17 (by decide) (by decide))
                    have hv18 : vs 18 = .int .i64 c.against := hpv 18 (hpre 18 (by decide) (by decide))
                    have hv19 : vs 19 = .bool true := hpv 19 (hpre 19 (by decide) (by decide))
                    have hv20 : vs 20 = .bool true := hpv 20 (hpre 20 (by decide) (by decide))
                    have hv21 : vs 21 = .agg #[.int .i64 (0), .int .i64 (0)] := hpv 21 (hpre 21 (by decide) (by decide))
                    have hv22 : vs 22 = .agg #[.int .i64 (0), .int .i64 (0)] := hpv 22 (hpre 22 (by decide) (by decide))
                    have hv23 : vs 23 = .bool false := hpv 23 (hpre 23 (by decide) (by decide))
                    have hv24 : vs 24 = .bool false := hpv 24 (hpre 24 (by decide) (by decide))
                    have hv25 : vs 25 = .bool false := hpv 25 (hpre 25 (by decide) (by decide))
                    have hv26 : vs 26 = .bool false := hpv 26 (hpre 26 (by decide) (by decide))
                    have hv27 : vs 27 = .pointer (some ⟨y10.heap.size, 1, none⟩) := hpv 27 (hpre 27 (by decide) (by decide))
                    have hv28 : vs 28 = .int .i64 (0) := hpv 28 (hpre 28 (by decide) (by decide))
                    have hv29 : vs 29 = .pointer (some ⟨y8.heap.size, 1, none⟩) := hpv 29 (hpre 29 (by decide) (by decide))
                    have hv30 : vs 30 = .int .i64 (0) := hpv 30 (hpre 30 (by decide) (by decide))
                    have hv31 : vs 31 = .bool false := hpv 31 (hpre 31 (by decide) (by decide))
                    have hv32 : vs 32 = .bool false := hpv 32 (hpre 32 (by decide) (by decide))
                    have hv33 : vs 33 = .bool false := hpv 33 (hpre 33 (by decide) (by decide))
                    have hv34 : vs 34 = .pointer (some ⟨y10.heap.size, 0, none⟩) := hpv 34 (hpre 34 (by decide) (by decide))
                    have hv35 : vs 35 = .int .i64 (0) := hpv 35 (hpre 35 (by decide) (by decide))
                    have hv36 : vs 36 = .pointer (some ⟨y8.heap.size, 0, none⟩) := hpv 36 (hpre 36 (by decide) (by decide))
                    have hv37 : vs 37 = .int .i64 (0) := hpv 37 (hpre 37 (by decide) (by decide))
                    have hv38 : vs 38 = .bool false := hpv 38 (hpre 38 (by decide) (by decide))
                    have hv39 : vs 39 = .bool false := hpv 39 (hpre 39 (by decide) (by decide))
                    clear hpv hpre hG hk0
                    obtain rfl : ao = _ := hact
                    subst hT
                    simp only [setAll, List.setIfInBounds_toArray, List.set_cons_succ, List.set_cons_zero, List.getD_cons_succ, List.getD_cons_zero]
                    simp only [hv0, hv1, hv2, hv3, hv4, hv5, hv6, hv7, hv8, hv9, hv10, hv11, hv12, hv13, hv14, hv15, hv16, hv17, hv18, hv19, hv20, hv21, hv22, hv23, hv24, hv25, hv26, hv27, hv28, hv29, hv30, hv31, hv32, hv33, hv34, hv35, hv36, hv37, hv38, hv39]
                    clear hv0 hv1 hv2 hv3 hv4 hv5 hv6 hv7 hv8 hv9 hv10 hv11 hv12 hv13 hv14 hv15 hv16 hv17 hv18 hv19 hv20 hv21 hv22 hv23 hv24 hv25 hv26 hv27 hv28 hv29 hv30 hv31 hv32 hv33 hv34 hv35 hv36 hv37 hv38 hv39
                    refine wpAny_done (by kernel_rfl) ?_ _
                    have hb := hk.below (B := y11.heap.size) (fun k h => h.elim) (Nat.le_refl _)
                    clear zK cK1 cK2 cK3 cK4 cK5 zQ cQ0 cQ1 cQ2 zZ cZ1 cZ2 cZ3 cZ4 cZ5 zS1 cS10 cS11 zS2 cS20 cS21
                    have K := hide (K.out.next hb)
                    have Q := hide (Q.out.next hb)
                    have Z := hide (Z.out.next hb)
                    have J1 := hide (J1.out.next hb)
                    have J2 := hide (J2.out.next hb)
                    have S1 := hide (S1.out.next hb)
                    have S2 := hide (S2.out.next hb)
                    have HB := hide (HB.out.trans (hb.mono HB.out.size))
                    have HL1 := hide (HL1.out.trans (hb.mono HL1.out.size))
                    clear hb
                    clear hk hkm
                    go_wp2_with fail
                    go_roundw
                    case rel => exact ⟨j1 + 1, by omega, by go_num, HL1.out⟩
                    case measure => simp [intOf]; omega
                | false =>
                  go_wp2_with fail
                  refine wp_region_rel (dst := fun oi => [88, 89, 90, 91, 92, 93, 94, 95, 96, 97, 98, 99, 100, 101, 102, 103, 104, 105, 106, 107, 108, 109, 110, 111, 112, 113, 114, 115, 116, 117, 118, 119, 120, 121, 122, 123, 124, 125, 126, 127].getD oi 0) (mono := fun oi => decide (oi < 40)) (pre := fun oi => decide (oi < 40)) (R := LKeep (fun _ => False) (fun _ => True))
                    (Pv := fun oi v W => match oi with
                      | 0 => v = .int .i64 0
                      | 1 => v = .bool false
                      | 2 => v = .bool false
                      | 3 => v = .int .i64 0
                      | 4 => v = .bool false
                      | 5 => v = .bool false
                      | 6 => v = .bool false
                      | 7 => v = .bool false
                      | 8 => v = .bool true
                      | 9 => v = .bool true
                      | 10 => v = .agg #[.int .i64 (0), .int .i64 (0)]
                      | 11 => v = .agg #[.int .i64 0, .int .i64 0]
                      | 12 => v = .bool false
                      | 13 => v = .bool false
                      | 14 => v = .bool false
                      | 15 => v = .bool false
                      | 16 => v = .int .i64 (j1 : Nat)
                      | 17 => v = .pointer (some ⟨w.heap.size + 1, 1, none⟩)
                      | 18 => v = .int .i64 c.against
                      | 19 => v = .bool false
                      | 20 => v = .bool false
                      | 21 => v = undef
                      | 22 => v = undef
                      | 23 => v = undef
                      | 24 => v = .bool false
                      | 25 => v = .bool false
                      | 26 => v = .bool false
                      | 27 => v = .pointer (some ⟨y10.heap.size, 1, none⟩)
                      | 28 => v = .int .i64 (b2)
                      | 29 => v = .pointer (some ⟨y8.heap.size, 1, none⟩)
                      | 30 => v = .int .i64 (0)
                      | 31 => v = .bool false
                      | 32 => v = .bool false
                      | 33 => v = .bool false
                      | 34 => v = .pointer (some ⟨y10.heap.size, 0, none⟩)
                      | 35 => v = .int .i64 (a2)
                      | 36 => v = .pointer (some ⟨y8.heap.size, 0, none⟩)
                      | 37 => v = .int .i64 (0)
                      | 38 => v = .bool false
                      | 39 => v = .bool false
                      | _ => True) (by kernel_rfl) (by kernel_rfl) (LKeep.refl _ _) (fun _ _ _ h h' => h.trans h') ?hstT00 ?hstepT00 ?hendT00
                  case hstT00 =>
                    intro oi v W W' h hk
                    match oi, h with
                    | 0, h => exact h
                    | 1, h => exact h
                    | 2, h => exact h
                    | 3, h => exact h
                    | 4, h => exact h
                    | 5, h => exact h
                    | 6, h => exact h
                    | 7, h => exact h
                    | 8, h => exact h
                    | 9, h => exact h
                    | 10, h => exact h
                    | 11, h => exact h
                    | 12, h => exact h
                    | 13, h => exact h
                    | 14, h => exact h
                    | 15, h => exact h
                    | 16, h => exact h
                    | 17, h => exact h
                    | 18, h => exact h
                    | 19, h => exact h
                    | 20, h => exact h
                    | 21, h => exact h
                    | 22, h => exact h
                    | 23, h => exact h
                    | 24, h => exact h
                    | 25, h => exact h
                    | 26, h => exact h
                    | 27, h => exact h
                    | 28, h => exact h
                    | 29, h => exact h
                    | 30, h => exact h
                    | 31, h => exact h
                    | 32, h => exact h
                    | 33, h => exact h
                    | 34, h => exact h
                    | 35, h => exact h
                    | 36, h => exact h
                    | 37, h => exact h
                    | 38, h => exact h
                    | 39, h => exact h
                    | oi + 40, h => exact trivial
                  case hstepT00 =>
                    intro oi hoi hom listed vs ao W hU hk0 hpv haft Ko hK
                    have hkk := (LKeep.drew (fun _ => False) (M := fun _ => True) y11 (fun h => h)).trans hk0
                    have hk := hkk.1
                    have hkm := hkk.2
                    clear hkk
                    match oi, hoi, hom with
                    | 0, hoi, hom =>
                      have z14 : ao.tmps[14]?.getD undef = .int .i64 0 := hU.same 14 (by decide)
                      refine wpOp_value (v := .int .i64 0) (W' := W) rfl rfl ?_ (hK _ _ (LKeep.refl _ _ _) rfl)
                      go_simp
                    | 1, hoi, hom =>
                      have l0 := haft _ rfl { on := 0, ground := .data } (by simp) rfl
                      have hv0 : vs 0 = .int .i64 0 := hpv 0 l0
                      have s0 : ao.tmps[88]?.getD undef = vs 0 := hU.slot 0 (by decide) l0
                      rw [hv0] at s0
                      refine wpOp_value (v := .bool false) (W' := W) rfl rfl ?_ (hK _ _ (LKeep.refl _ _ _) rfl)
                      go_simp
                    | 2, hoi, hom =>
                      have l1 := haft _ rfl { on := 1, ground := .data } (by simp) rfl
                      have hv1 : vs 1 = .bool false := hpv 1 l1
                      have s1 : ao.tmps[89]?.getD undef = vs 1 := hU.slot 1 (by decide) l1
                      rw [hv1] at s1
                      refine wpOp_value (v := .bool false) (W' := W) rfl rfl ?_ (hK _ _ (LKeep.refl _ _ _) rfl)
                      go_simp
                    | 3, hoi, hom =>
                      have l2 := haft _ rfl { on := 2, ground := .guard } (by simp) rfl
                      have hv2 : vs 2 = .bool false := hpv 2 l2
                      have s2 : ao.tmps[90]?.getD undef = vs 2 := hU.slot 2 (by decide) l2
                      rw [hv2] at s2
                      have z16 : ao.tmps[16]?.getD undef = .int .i64 0 := hU.same 16 (by decide)
                      refine wpOp_wanted (v := .int .i64 0) (W' := W) rfl ?_ ?_ (hK _ _ (LKeep.refl _ _ _) rfl)
                      · refine wanted_yes (j := 2) (d := 90) ?_ ?_ s2 <;> rfl
                      go_simp
                    | 4, hoi, hom =>
                      have l2 := haft _ rfl { on := 2, ground := .guard } (by simp) rfl
                      have hv2 : vs 2 = .bool false := hpv 2 l2
                      have s2 : ao.tmps[90]?.getD undef = vs 2 := hU.slot 2 (by decide) l2
                      rw [hv2] at s2
                      have l3 := haft _ rfl { on := 3, ground := .data } (by simp) rfl
                      have hv3 : vs 3 = .int .i64 0 := hpv 3 l3
                      have s3 : ao.tmps[91]?.getD undef = vs 3 := hU.slot 3 (by decide) l3
                      rw [hv3] at s3
                      refine wpOp_wanted (v := .bool false) (W' := W) rfl ?_ ?_ (hK _ _ (LKeep.refl _ _ _) rfl)
                      · refine wanted_yes (j := 2) (d := 90) ?_ ?_ s2 <;> rfl
                      go_simp
                    | 5, hoi, hom =>
                      have l2 := haft _ rfl { on := 2, ground := .data } (by simp) rfl
                      have hv2 : vs 2 = .bool false := hpv 2 l2
                      have s2 : ao.tmps[90]?.getD undef = vs 2 := hU.slot 2 (by decide) l2
                      rw [hv2] at s2
                      have l4 := haft _ rfl { on := 4, ground := .data } (by simp) rfl
                      have hv4 : vs 4 = .bool false := hpv 4 l4
                      have s4 : ao.tmps[92]?.getD undef = vs 4 := hU.slot 4 (by decide) l4
                      rw [hv4] at s4
                      refine wpOp_value (v := .bool false) (W' := W) rfl rfl ?_ (hK _ _ (LKeep.refl _ _ _) rfl)
                      go_simp
                    | 6, hoi, hom =>
                      have l5 := haft _ rfl { on := 5, ground := .data } (by simp) rfl
                      have hv5 : vs 5 = .bool false := hpv 5 l5
                      have s5 : ao.tmps[93]?.getD undef = vs 5 := hU.slot 5 (by decide) l5
                      rw [hv5] at s5
                      refine wpOp_value (v := .bool false) (W' := W) rfl rfl ?_ (hK _ _ (LKeep.refl _ _ _) rfl)
                      go_simp
                    | 7, hoi, hom =>
                      have l6 := haft _ rfl { on := 6, ground := .guard } (by simp) rfl
                      have hv6 : vs 6 = .bool false := hpv 6 l6
                      have s6 : ao.tmps[94]?.getD undef = vs 6 := hU.slot 6 (by decide) l6
                      rw [hv6] at s6
                      have z11 : ao.tmps[11]?.getD undef = .bool false := hU.same 11 (by decide)
                      refine wpOp_wanted (v := .bool false) (W' := W) rfl ?_ ?_ (hK _ _ (LKeep.refl _ _ _) rfl)
                      · refine wanted_yes (j := 6) (d := 94) ?_ ?_ s6 <;> rfl
                      go_simp
                    | 8, hoi, hom =>
                      have l6 := haft _ rfl { on := 6, ground := .guard } (by simp) rfl
                      have hv6 : vs 6 = .bool false := hpv 6 l6
                      have s6 : ao.tmps[94]?.getD undef = vs 6 := hU.slot 6 (by decide) l6
                      rw [hv6] at s6
                      have l7 := haft _ rfl { on := 7, ground := .data } (by simp) rfl
                      have hv7 : vs 7 = .bool false := hpv 7 l7
                      have s7 : ao.tmps[95]?.getD undef = vs 7 := hU.slot 7 (by decide) l7
                      rw [hv7] at s7
                      refine wpOp_wanted (v := .bool true) (W' := W) rfl ?_ ?_ (hK _ _ (LKeep.refl _ _ _) rfl)
                      · refine wanted_yes (j := 6) (d := 94) ?_ ?_ s6 <;> rfl
                      go_simp
                    | 9, hoi, hom =>
                      have l6 := haft _ rfl { on := 6, ground := .guard } (by simp) rfl
                      have hv6 : vs 6 = .bool false := hpv 6 l6
                      have s6 : ao.tmps[94]?.getD undef = vs 6 := hU.slot 6 (by decide) l6
                      rw [hv6] at s6
                      have l8 := haft _ rfl { on := 8, ground := .data } (by simp) rfl
                      have hv8 : vs 8 = .bool true := hpv 8 l8
                      have s8 : ao.tmps[96]?.getD undef = vs 8 := hU.slot 8 (by decide) l8
                      rw [hv8] at s8
                      refine wpOp_wanted (v := .bool true) (W' := W) rfl ?_ ?_ (hK _ _ (LKeep.refl _ _ _) rfl)
                      · refine wanted_yes (j := 6) (d := 94) ?_ ?_ s6 <;> rfl
                      go_simp
                    | 10, hoi, hom =>
                      have l9 := haft _ rfl { on := 9, ground := .guard } (by simp) rfl
                      have hv9 : vs 9 = .bool true := hpv 9 l9
                      have s9 : ao.tmps[97]?.getD undef = vs 9 := hU.slot 9 (by decide) l9
                      rw [hv9] at s9
                      have z13 : ao.tmps[13]?.getD undef = .pointer (some ⟨y8.heap.size, 0, none⟩) := hU.same 13 (by decide)
                      have y0 := (hk.cell (b := y8.heap.size) (o := 0) (zS1) (fun h => h)).trans (cS10)
                      have y1 := (hk.cell (b := y8.heap.size) (o := 1) (zS1) (fun h => h)).trans (cS11)
                      refine wpOp_wanted (v := .agg #[.int .i64 (0), .int .i64 (0)]) (W' := W) rfl ?_ ?_ (hK _ _ (LKeep.refl _ _ _) rfl)
                      · refine wanted_yes (j := 9) (d := 97) ?_ ?_ s9 <;> rfl
                      go_simp
                    | 11, hoi, hom =>
                      have l9 := haft _ rfl { on := 9, ground := .guard } (by simp) rfl
                      have hv9 : vs 9 = .bool true := hpv 9 l9
                      have s9 : ao.tmps[97]?.getD undef = vs 9 := hU.slot 9 (by decide) l9
                      rw [hv9] at s9
                      refine wpOp_enterW (f := 44) (args := #[.int .i64 0, .int .i64 0]) (W' := W) rfl ?_ ?_ ((span_any 0 0 W).mono (fun e w'' h => ?_))
                      · refine wanted_yes (j := 9) (d := 97) ?_ ?_ s9 <;> rfl
                      · go_simp
                      · obtain ⟨he, hbw⟩ := h
                        exact ⟨_, he, hK _ _ (LKeep.below hbw (fun h => h)) rfl⟩
                    | 12, hoi, hom =>
                      have l9 := haft _ rfl { on := 9, ground := .guard } (by simp) rfl
                      have hv9 : vs 9 = .bool true := hpv 9 l9
                      have s9 : ao.tmps[97]?.getD undef = vs 9 := hU.slot 9 (by decide) l9
                      rw [hv9] at s9
                      have l10 := haft _ rfl { on := 10, ground := .data } (by simp) rfl
                      have hv10 : vs 10 = .agg #[.int .i64 (0), .int .i64 (0)] := hpv 10 l10
                      have s10 : ao.tmps[98]?.getD undef = vs 10 := hU.slot 10 (by decide) l10
                      rw [hv10] at s10
                      have l11 := haft _ rfl { on := 11, ground := .data } (by simp) rfl
                      have hv11 : vs 11 = .agg #[.int .i64 0, .int .i64 0] := hpv 11 l11
                      have s11 : ao.tmps[99]?.getD undef = vs 11 := hU.slot 11 (by decide) l11
                      rw [hv11] at s11
                      refine wpOp_wanted (v := .bool false) (W' := W) rfl ?_ ?_ (hK _ _ (LKeep.refl _ _ _) rfl)
                      · refine wanted_yes (j := 9) (d := 97) ?_ ?_ s9 <;> rfl
                      go_simp
                    | 13, hoi, hom =>
                      have l6 := haft _ rfl { on := 6, ground := .guard } (by simp) rfl
                      have hv6 : vs 6 = .bool false := hpv 6 l6
                      have s6 : ao.tmps[94]?.getD undef = vs 6 := hU.slot 6 (by decide) l6
                      rw [hv6] at s6
                      have l9 := haft _ rfl { on := 9, ground := .data } (by simp) rfl
                      have hv9 : vs 9 = .bool true := hpv 9 l9
                      have s9 : ao.tmps[97]?.getD undef = vs 9 := hU.slot 9 (by decide) l9
                      rw [hv9] at s9
                      have l12 := haft _ rfl { on := 12, ground := .data } (by simp) rfl
                      have hv12 : vs 12 = .bool false := hpv 12 l12
                      have s12 : ao.tmps[100]?.getD undef = vs 12 := hU.slot 12 (by decide) l12
                      rw [hv12] at s12
                      refine wpOp_wanted (v := .bool false) (W' := W) rfl ?_ ?_ (hK _ _ (LKeep.refl _ _ _) rfl)
                      · refine wanted_yes (j := 6) (d := 94) ?_ ?_ s6 <;> rfl
                      go_simp
                    | 14, hoi, hom =>
                      have l6 := haft _ rfl { on := 6, ground := .data } (by simp) rfl
                      have hv6 : vs 6 = .bool false := hpv 6 l6
                      have s6 : ao.tmps[94]?.getD undef = vs 6 := hU.slot 6 (by decide) l6
                      rw [hv6] at s6
                      have l13 := haft _ rfl { on := 13, ground := .data } (by simp) rfl
                      have hv13 : vs 13 = .bool false := hpv 13 l13
                      have s13 : ao.tmps[101]?.getD undef = vs 13 := hU.slot 13 (by decide) l13
                      rw [hv13] at s13
                      refine wpOp_value (v := .bool false) (W' := W) rfl rfl ?_ (hK _ _ (LKeep.refl _ _ _) rfl)
                      go_simp
                    | 15, hoi, hom =>
                      have l14 := haft _ rfl { on := 14, ground := .data } (by simp) rfl
                      have hv14 : vs 14 = .bool false := hpv 14 l14
                      have s14 : ao.tmps[102]?.getD undef = vs 14 := hU.slot 14 (by decide) l14
                      rw [hv14] at s14
                      refine wpOp_value (v := .bool false) (W' := W) rfl rfl ?_ (hK _ _ (LKeep.refl _ _ _) rfl)
                      go_simp
                    | 16, hoi, hom =>
                      have l15 := haft _ rfl { on := 15, ground := .guard } (by simp) rfl
                      have hv15 : vs 15 = .bool false := hpv 15 l15
                      have s15 : ao.tmps[103]?.getD undef = vs 15 := hU.slot 15 (by decide) l15
                      rw [hv15] at s15
                      have z10 : ao.tmps[10]?.getD undef = .int .i64 (j1 : Nat) := hU.same 10 (by decide)
                      refine wpOp_wanted (v := .int .i64 (j1 : Nat)) (W' := W) rfl ?_ ?_ (hK _ _ (LKeep.refl _ _ _) rfl)
                      · refine wanted_yes (j := 15) (d := 103) ?_ ?_ s15 <;> rfl
                      go_simp
                    | 17, hoi, hom =>
                      have l15 := haft _ rfl { on := 15, ground := .guard } (by simp) rfl
                      have hv15 : vs 15 = .bool false := hpv 15 l15
                      have s15 : ao.tmps[103]?.getD undef = vs 15 := hU.slot 15 (by decide) l15
                      rw [hv15] at s15
                      have z3 : ao.tmps[3]?.getD undef = .pointer (some ⟨w.heap.size + 1, 0, none⟩) := hU.same 3 (by decide)
                      refine wpOp_wanted (v := .pointer (some ⟨w.heap.size + 1, 1, none⟩)) (W' := W) rfl ?_ ?_ (hK _ _ (LKeep.refl _ _ _) rfl)
                      · refine wanted_yes (j := 15) (d := 103) ?_ ?_ s15 <;> rfl
                      go_simp
                    | 18, hoi, hom =>
                      have l15 := haft _ rfl { on := 15, ground := .guard } (by simp) rfl
                      have hv15 : vs 15 = .bool false := hpv 15 l15
                      have s15 : ao.tmps[103]?.getD undef = vs 15 := hU.slot 15 (by decide) l15
                      rw [hv15] at s15
                      have l17 := haft _ rfl { on := 17, ground := .data } (by simp) rfl
                      have hv17 : vs 17 = .pointer (some ⟨w.heap.size + 1, 1, none⟩) := hpv 17 l17
                      have s17 : ao.tmps[105]?.getD undef = vs 17 := hU.slot 17 (by decide) l17
                      rw [hv17] at s17
                      have y0 := (hk.cell (b := w.heap.size + 1) (o := 1) (zQ) (fun h => h)).trans (cQ1)
                      refine wpOp_wanted (v := .int .i64 c.against) (W' := W) rfl ?_ ?_ (hK _ _ (LKeep.refl _ _ _) rfl)
                      · refine wanted_yes (j := 15) (d := 103) ?_ ?_ s15 <;> rfl
                      go_simp
                    | 19, hoi, hom =>
                      have l15 := haft _ rfl { on := 15, ground := .guard } (by simp) rfl
                      have hv15 : vs 15 = .bool false := hpv 15 l15
                      have s15 : ao.tmps[103]?.getD undef = vs 15 := hU.slot 15 (by decide) l15
                      rw [hv15] at s15
                      have l16 := haft _ rfl { on := 16, ground := .data } (by simp) rfl
                      have hv16 : vs 16 = .int .i64 (j1 : Nat) := hpv 16 l16
                      have s16 : ao.tmps[104]?.getD undef = vs 16 := hU.slot 16 (by decide) l16
                      rw [hv16] at s16
                      have l18 := haft _ rfl { on := 18, ground := .data } (by simp) rfl
                      have hv18 : vs 18 = .int .i64 c.against := hpv 18 l18
                      have s18 : ao.tmps[106]?.getD undef = vs 18 := hU.slot 18 (by decide) l18
                      rw [hv18] at s18
                      refine wpOp_wanted (v := .bool false) (W' := W) rfl ?_ ?_ (hK _ _ (LKeep.refl _ _ _) rfl)
                      · refine wanted_yes (j := 15) (d := 103) ?_ ?_ s15 <;> rfl
                      go_simp
                    | 20, hoi, hom =>
                      have l15 := haft _ rfl { on := 15, ground := .guard } (by simp) rfl
                      have hv15 : vs 15 = .bool false := hpv 15 l15
                      have s15 : ao.tmps[103]?.getD undef = vs 15 := hU.slot 15 (by decide) l15
                      rw [hv15] at s15
                      have l19 := haft _ rfl { on := 19, ground := .data } (by simp) rfl
                      have hv19 : vs 19 = .bool false := hpv 19 l19
                      have s19 : ao.tmps[107]?.getD undef = vs 19 := hU.slot 19 (by decide) l19
                      rw [hv19] at s19
                      refine wpOp_wanted (v := .bool false) (W' := W) rfl ?_ ?_ (hK _ _ (LKeep.refl _ _ _) rfl)
                      · refine wanted_yes (j := 15) (d := 103) ?_ ?_ s15 <;> rfl
                      go_simp
                    | 21, hoi, hom =>
                      have l20 := haft _ rfl { on := 20, ground := .guard } (by simp) rfl
                      have hv20 : vs 20 = .bool false := hpv 20 l20
                      have s20 : ao.tmps[108]?.getD undef = vs 20 := hU.slot 20 (by decide) l20
                      rw [hv20] at s20
                      refine wpOp_unwanted rfl ?_ (hK _ _ (LKeep.refl _ _ _) rfl)
                      refine wanted_no (j := 20) (d := 108) ?_ ?_ s20 <;> rfl
                    | 22, hoi, hom =>
                      have l20 := haft _ rfl { on := 20, ground := .guard } (by simp) rfl
                      have hv20 : vs 20 = .bool false := hpv 20 l20
                      have s20 : ao.tmps[108]?.getD undef = vs 20 := hU.slot 20 (by decide) l20
                      rw [hv20] at s20
                      refine wpOp_unwanted rfl ?_ (hK _ _ (LKeep.refl _ _ _) rfl)
                      refine wanted_no (j := 20) (d := 108) ?_ ?_ s20 <;> rfl
                    | 23, hoi, hom =>
                      have l20 := haft _ rfl { on := 20, ground := .guard } (by simp) rfl
                      have hv20 : vs 20 = .bool false := hpv 20 l20
                      have s20 : ao.tmps[108]?.getD undef = vs 20 := hU.slot 20 (by decide) l20
                      rw [hv20] at s20
                      refine wpOp_unwanted rfl ?_ (hK _ _ (LKeep.refl _ _ _) rfl)
                      refine wanted_no (j := 20) (d := 108) ?_ ?_ s20 <;> rfl
                    | 24, hoi, hom =>
                      have l15 := haft _ rfl { on := 15, ground := .guard } (by simp) rfl
                      have hv15 : vs 15 = .bool false := hpv 15 l15
                      have s15 : ao.tmps[103]?.getD undef = vs 15 := hU.slot 15 (by decide) l15
                      rw [hv15] at s15
                      have l20 := haft _ rfl { on := 20, ground := .data } (by simp) rfl
                      have hv20 : vs 20 = .bool false := hpv 20 l20
                      have s20 : ao.tmps[108]?.getD undef = vs 20 := hU.slot 20 (by decide) l20
                      rw [hv20] at s20
                      have l23 := haft _ rfl { on := 23, ground := .data } (by simp) rfl
                      have hv23 : vs 23 = undef := hpv 23 l23
                      have s23 : ao.tmps[111]?.getD undef = vs 23 := hU.slot 23 (by decide) l23
                      rw [hv23] at s23
                      refine wpOp_wanted (v := .bool false) (W' := W) rfl ?_ ?_ (hK _ _ (LKeep.refl _ _ _) rfl)
                      · refine wanted_yes (j := 15) (d := 103) ?_ ?_ s15 <;> rfl
                      go_simp
                    | 25, hoi, hom =>
                      have l15 := haft _ rfl { on := 15, ground := .data } (by simp) rfl
                      have hv15 : vs 15 = .bool false := hpv 15 l15
                      have s15 : ao.tmps[103]?.getD undef = vs 15 := hU.slot 15 (by decide) l15
                      rw [hv15] at s15
                      have l24 := haft _ rfl { on := 24, ground := .data } (by simp) rfl
                      have hv24 : vs 24 = .bool false := hpv 24 l24
                      have s24 : ao.tmps[112]?.getD undef = vs 24 := hU.slot 24 (by decide) l24
                      rw [hv24] at s24
                      refine wpOp_value (v := .bool false) (W' := W) rfl rfl ?_ (hK _ _ (LKeep.refl _ _ _) rfl)
                      go_simp
                    | 26, hoi, hom =>
                      have l25 := haft _ rfl { on := 25, ground := .data } (by simp) rfl
                      have hv25 : vs 25 = .bool false := hpv 25 l25
                      have s25 : ao.tmps[113]?.getD undef = vs 25 := hU.slot 25 (by decide) l25
                      rw [hv25] at s25
                      refine wpOp_value (v := .bool false) (W' := W) rfl rfl ?_ (hK _ _ (LKeep.refl _ _ _) rfl)
                      go_simp
                    | 27, hoi, hom =>
                      have l26 := haft _ rfl { on := 26, ground := .guard } (by simp) rfl
                      have hv26 : vs 26 = .bool false := hpv 26 l26
                      have s26 : ao.tmps[114]?.getD undef = vs 26 := hU.slot 26 (by decide) l26
                      rw [hv26] at s26
                      have z15 : ao.tmps[15]?.getD undef = .pointer (some ⟨y10.heap.size, 0, none⟩) := hU.same 15 (by decide)
                      refine wpOp_wanted (v := .pointer (some ⟨y10.heap.size, 1, none⟩)) (W' := W) rfl ?_ ?_ (hK _ _ (LKeep.refl _ _ _) rfl)
                      · refine wanted_yes (j := 26) (d := 114) ?_ ?_ s26 <;> rfl
                      go_simp
                    | 28, hoi, hom =>
                      have l26 := haft _ rfl { on := 26, ground := .guard } (by simp) rfl
                      have hv26 : vs 26 = .bool false := hpv 26 l26
                      have s26 : ao.tmps[114]?.getD undef = vs 26 := hU.slot 26 (by decide) l26
                      rw [hv26] at s26
                      have l27 := haft _ rfl { on := 27, ground := .data } (by simp) rfl
                      have hv27 : vs 27 = .pointer (some ⟨y10.heap.size, 1, none⟩) := hpv 27 l27
                      have s27 : ao.tmps[115]?.getD undef = vs 27 := hU.slot 27 (by decide) l27
                      rw [hv27] at s27
                      have y0 := (hk.cell (b := y10.heap.size) (o := 1) (zS2) (fun h => h)).trans (cS21)
                      refine wpOp_wanted (v := .int .i64 (b2)) (W' := W) rfl ?_ ?_ (hK _ _ (LKeep.refl _ _ _) rfl)
                      · refine wanted_yes (j := 26) (d := 114) ?_ ?_ s26 <;> rfl
                      go_simp
                    | 29, hoi, hom =>
                      have l26 := haft _ rfl { on := 26, ground := .guard } (by simp) rfl
                      have hv26 : vs 26 = .bool false := hpv 26 l26
                      have s26 : ao.tmps[114]?.getD undef = vs 26 := hU.slot 26 (by decide) l26
                      rw [hv26] at s26
                      have z13 : ao.tmps[13]?.getD undef = .pointer (some ⟨y8.heap.size, 0, none⟩) := hU.same 13 (by decide)
                      refine wpOp_wanted (v := .pointer (some ⟨y8.heap.size, 1, none⟩)) (W' := W) rfl ?_ ?_ (hK _ _ (LKeep.refl _ _ _) rfl)
                      · refine wanted_yes (j := 26) (d := 114) ?_ ?_ s26 <;> rfl
                      go_simp
                    | 30, hoi, hom =>
                      have l26 := haft _ rfl { on := 26, ground := .guard } (by simp) rfl
                      have hv26 : vs 26 = .bool false := hpv 26 l26
                      have s26 : ao.tmps[114]?.getD undef = vs 26 := hU.slot 26 (by decide) l26
                      rw [hv26] at s26
                      have l29 := haft _ rfl { on := 29, ground := .data } (by simp) rfl
                      have hv29 : vs 29 = .pointer (some ⟨y8.heap.size, 1, none⟩) := hpv 29 l29
                      have s29 : ao.tmps[117]?.getD undef = vs 29 := hU.slot 29 (by decide) l29
                      rw [hv29] at s29
                      have y0 := (hk.cell (b := y8.heap.size) (o := 1) (zS1) (fun h => h)).trans (cS11)
                      refine wpOp_wanted (v := .int .i64 (0)) (W' := W) rfl ?_ ?_ (hK _ _ (LKeep.refl _ _ _) rfl)
                      · refine wanted_yes (j := 26) (d := 114) ?_ ?_ s26 <;> rfl
                      go_simp
                    | 31, hoi, hom =>
                      have l26 := haft _ rfl { on := 26, ground := .guard } (by simp) rfl
                      have hv26 : vs 26 = .bool false := hpv 26 l26
                      have s26 : ao.tmps[114]?.getD undef = vs 26 := hU.slot 26 (by decide) l26
                      rw [hv26] at s26
                      have l28 := haft _ rfl { on := 28, ground := .data } (by simp) rfl
                      have hv28 : vs 28 = .int .i64 (b2) := hpv 28 l28
                      have s28 : ao.tmps[116]?.getD undef = vs 28 := hU.slot 28 (by decide) l28
                      rw [hv28] at s28
                      have l30 := haft _ rfl { on := 30, ground := .data } (by simp) rfl
                      have hv30 : vs 30 = .int .i64 (0) := hpv 30 l30
                      have s30 : ao.tmps[118]?.getD undef = vs 30 := hU.slot 30 (by decide) l30
                      rw [hv30] at s30
                      refine wpOp_wanted (v := .bool false) (W' := W) rfl ?_ ?_ (hK _ _ (LKeep.refl _ _ _) rfl)
                      · refine wanted_yes (j := 26) (d := 114) ?_ ?_ s26 <;> rfl
                      go_simp
                    | 32, hoi, hom =>
                      have l26 := haft _ rfl { on := 26, ground := .data } (by simp) rfl
                      have hv26 : vs 26 = .bool false := hpv 26 l26
                      have s26 : ao.tmps[114]?.getD undef = vs 26 := hU.slot 26 (by decide) l26
                      rw [hv26] at s26
                      have l31 := haft _ rfl { on := 31, ground := .data } (by simp) rfl
                      have hv31 : vs 31 = .bool false := hpv 31 l31
                      have s31 : ao.tmps[119]?.getD undef = vs 31 := hU.slot 31 (by decide) l31
                      rw [hv31] at s31
                      refine wpOp_value (v := .bool false) (W' := W) rfl rfl ?_ (hK _ _ (LKeep.refl _ _ _) rfl)
                      go_simp
                    | 33, hoi, hom =>
                      have l32 := haft _ rfl { on := 32, ground := .data } (by simp) rfl
                      have hv32 : vs 32 = .bool false := hpv 32 l32
                      have s32 : ao.tmps[120]?.getD undef = vs 32 := hU.slot 32 (by decide) l32
                      rw [hv32] at s32
                      refine wpOp_value (v := .bool false) (W' := W) rfl rfl ?_ (hK _ _ (LKeep.refl _ _ _) rfl)
                      go_simp
                    | 34, hoi, hom =>
                      have l33 := haft _ rfl { on := 33, ground := .guard } (by simp) rfl
                      have hv33 : vs 33 = .bool false := hpv 33 l33
                      have s33 : ao.tmps[121]?.getD undef = vs 33 := hU.slot 33 (by decide) l33
                      rw [hv33] at s33
                      have z15 : ao.tmps[15]?.getD undef = .pointer (some ⟨y10.heap.size, 0, none⟩) := hU.same 15 (by decide)
                      refine wpOp_wanted (v := .pointer (some ⟨y10.heap.size, 0, none⟩)) (W' := W) rfl ?_ ?_ (hK _ _ (LKeep.refl _ _ _) rfl)
                      · refine wanted_yes (j := 33) (d := 121) ?_ ?_ s33 <;> rfl
                      go_simp
                    | 35, hoi, hom =>
                      have l33 := haft _ rfl { on := 33, ground := .guard } (by simp) rfl
                      have hv33 : vs 33 = .bool false := hpv 33 l33
                      have s33 : ao.tmps[121]?.getD undef = vs 33 := hU.slot 33 (by decide) l33
                      rw [hv33] at s33
                      have l34 := haft _ rfl { on := 34, ground := .data } (by simp) rfl
                      have hv34 : vs 34 = .pointer (some ⟨y10.heap.size, 0, none⟩) := hpv 34 l34
                      have s34 : ao.tmps[122]?.getD undef = vs 34 := hU.slot 34 (by decide) l34
                      rw [hv34] at s34
                      have y0 := (hk.cell (b := y10.heap.size) (o := 0) (zS2) (fun h => h)).trans (cS20)
                      refine wpOp_wanted (v := .int .i64 (a2)) (W' := W) rfl ?_ ?_ (hK _ _ (LKeep.refl _ _ _) rfl)
                      · refine wanted_yes (j := 33) (d := 121) ?_ ?_ s33 <;> rfl
                      go_simp
                    | 36, hoi, hom =>
                      have l33 := haft _ rfl { on := 33, ground := .guard } (by simp) rfl
                      have hv33 : vs 33 = .bool false := hpv 33 l33
                      have s33 : ao.tmps[121]?.getD undef = vs 33 := hU.slot 33 (by decide) l33
                      rw [hv33] at s33
                      have z13 : ao.tmps[13]?.getD undef = .pointer (some ⟨y8.heap.size, 0, none⟩) := hU.same 13 (by decide)
                      refine wpOp_wanted (v := .pointer (some ⟨y8.heap.size, 0, none⟩)) (W' := W) rfl ?_ ?_ (hK _ _ (LKeep.refl _ _ _) rfl)
                      · refine wanted_yes (j := 33) (d := 121) ?_ ?_ s33 <;> rfl
                      go_simp
                    | 37, hoi, hom =>
                      have l33 := haft _ rfl { on := 33, ground := .guard } (by simp) rfl
                      have hv33 : vs 33 = .bool false := hpv 33 l33
                      have s33 : ao.tmps[121]?.getD undef = vs 33 := hU.slot 33 (by decide) l33
                      rw [hv33] at s33
                      have l36 := haft _ rfl { on := 36, ground := .data } (by simp) rfl
                      have hv36 : vs 36 = .pointer (some ⟨y8.heap.size, 0, none⟩) := hpv 36 l36
                      have s36 : ao.tmps[124]?.getD undef = vs 36 := hU.slot 36 (by decide) l36
                      rw [hv36] at s36
                      have y0 := (hk.cell (b := y8.heap.size) (o := 0) (zS1) (fun h => h)).trans (cS10)
                      refine wpOp_wanted (v := .int .i64 (0)) (W' := W) rfl ?_ ?_ (hK _ _ (LKeep.refl _ _ _) rfl)
                      · refine wanted_yes (j := 33) (d := 121) ?_ ?_ s33 <;> rfl
                      go_simp
                    | 38, hoi, hom =>
                      have l33 := haft _ rfl { on := 33, ground := .guard } (by simp) rfl
                      have hv33 : vs 33 = .bool false := hpv 33 l33
                      have s33 : ao.tmps[121]?.getD undef = vs 33 := hU.slot 33 (by decide) l33
                      rw [hv33] at s33
                      have l35 := haft _ rfl { on := 35, ground := .data } (by simp) rfl
                      have hv35 : vs 35 = .int .i64 (a2) := hpv 35 l35
                      have s35 : ao.tmps[123]?.getD undef = vs 35 := hU.slot 35 (by decide) l35
                      rw [hv35] at s35
                      have l37 := haft _ rfl { on := 37, ground := .data } (by simp) rfl
                      have hv37 : vs 37 = .int .i64 (0) := hpv 37 l37
                      have s37 : ao.tmps[125]?.getD undef = vs 37 := hU.slot 37 (by decide) l37
                      rw [hv37] at s37
                      refine wpOp_wanted (v := .bool false) (W' := W) rfl ?_ ?_ (hK _ _ (LKeep.refl _ _ _) rfl)
                      · refine wanted_yes (j := 33) (d := 121) ?_ ?_ s33 <;> rfl
                      go_simp
                    | 39, hoi, hom =>
                      have l33 := haft _ rfl { on := 33, ground := .data } (by simp) rfl
                      have hv33 : vs 33 = .bool false := hpv 33 l33
                      have s33 : ao.tmps[121]?.getD undef = vs 33 := hU.slot 33 (by decide) l33
                      rw [hv33] at s33
                      have l38 := haft _ rfl { on := 38, ground := .data } (by simp) rfl
                      have hv38 : vs 38 = .bool false := hpv 38 l38
                      have s38 : ao.tmps[126]?.getD undef = vs 38 := hU.slot 38 (by decide) l38
                      rw [hv38] at s38
                      refine wpOp_value (v := .bool false) (W' := W) rfl rfl ?_ (hK _ _ (LKeep.refl _ _ _) rfl)
                      go_simp
                    | oi + 40, hoi, hom => exact absurd (of_decide_eq_true hom) (by omega)
                  case hendT00 =>
                    intro listed vs ao W hG hk0 hpv hpre
                    have hkk := (LKeep.drew (fun _ => False) (M := fun _ => True) y11 (fun h => h)).trans hk0
                    have hk := hkk.1
                    have hkm := hkk.2
                    clear hkk
                    have hact := hG.act
                    have hT := hG.lst hpre 0 #[true, true, true, true, true, true, true, true, true, true, true, true, true, true, true, true, true, true, true, true, true, true, true, true, true, true, true, true, true, true, true, true, true, true, true, true, true, true, true, true] rfl (by kernel_rfl) (hpre 0 (by decide) (by decide))
                    rw [hG.ix hT (l := [0, 1, 2, 3, 4, 5, 6, 7, 8, 9, 10, 11, 12, 13, 14, 15, 16, 17, 18, 19, 20, 21, 22, 23, 24, 25, 26, 27, 28, 29, 30, 31, 32, 33, 34, 35, 36, 37, 38, 39]) (by kernel_rfl)] at hact
                    rw [hG.lo hT (k := 0) (by kernel_rfl)]
                    have hv0 : vs 0 = .int .i64 0 := hpv 0 (hpre 0 (by decide) (by decide))
                    have hv1 : vs 1 = .bool false := hpv 1 (hpre 1 (by decide) (by decide))
                    have hv2 : vs 2 = .bool false := hpv 2 (hpre 2 (by decide) (by decide))
                    have hv3 : vs 3 = .int .i64 0 := hpv 3 (hpre 3 (by decide) (by decide))
                    have hv4 : vs 4 = .bool false := hpv 4 (hpre 4 (by decide) (by decide))
                    have hv5 : vs 5 = .bool false := hpv 5 (hpre 5 (by decide) (by decide))
                    have hv6 : vs 6 = .bool false := hpv 6 (hpre 6 (by decide) (by decide))
                    have hv7 : vs 7 = .bool false := hpv 7 (hpre 7 (by decide) (by decide))
                    have hv8 : vs 8 = .bool true := hpv 8 (hpre 8 (by decide) (by decide))
                    have hv9 : vs 9 = .bool true := hpv 9 (hpre 9 (by decide) (by decide))
                    have hv10 : vs 10 = .agg #[.int .i64 (0), .int .i64 (0)] := hpv 10 (hpre 10 (by decide) (by decide))
                    have hv11 : vs 11 = .agg #[.int .i64 0, .int .i64 0] := hpv 11 (hpre 11 (by decide) (by decide))
                    have hv12 : vs 12 = .bool false := hpv 12 (hpre 12 (by decide) (by decide))
                    have hv13 : vs 13 = .bool false := hpv 13 (hpre 13 (by decide) (by decide))
                    have hv14 : vs 14 = .bool false := hpv 14 (hpre 14 (by decide) (by decide))
                    have hv15 : vs 15 = .bool false := hpv 15 (hpre 15 (by decide) (by decide))
                    have hv16 : vs 16 = .int .i64 (j1 : Nat) := hpv 16 (hpre 16 (by decide) (by decide))
                    have hv17 : vs 17 = .pointer (some ⟨w.heap.size + 1, 1, none⟩) := hpv 17 (hpre 17 (by decide) (by decide))
                    have hv18 : vs 18 = .int .i64 c.against := hpv 18 (hpre 18 (by decide) (by decide))
                    have hv19 : vs 19 = .bool false := hpv 19 (hpre 19 (by decide) (by decide))
                    have hv20 : vs 20 = .bool false := hpv 20 (hpre 20 (by decide) (by decide))
                    have hv21 : vs 21 = undef := hpv 21 (hpre 21 (by decide) (by decide))
                    have hv22 : vs 22 = undef := hpv 22 (hpre 22 (by decide) (by decide))
                    have hv23 : vs 23 = undef := hpv 23 (hpre 23 (by decide) (by decide))
                    have hv24 : vs 24 = .bool false := hpv 24 (hpre 24 (by decide) (by decide))
                    have hv25 : vs 25 = .bool false := hpv 25 (hpre 25 (by decide) (by decide))
                    have hv26 : vs 26 = .bool false := hpv 26 (hpre 26 (by decide) (by decide))
                    have hv27 : vs 27 = .pointer (some ⟨y10.heap.size, 1, none⟩) := hpv 27 (hpre 27 (by decide) (by decide))
                    have hv28 : vs 28 = .int .i64 (b2) := hpv 28 (hpre 28 (by decide) (by decide))
                    have hv29 : vs 29 = .pointer (some ⟨y8.heap.size, 1, none⟩) := hpv 29 (hpre 29 (by decide) (by decide))
                    have hv30 : vs 30 = .int .i64 (0) := hpv 30 (hpre 30 (by decide) (by decide))
                    have hv31 : vs 31 = .bool false := hpv 31 (hpre 31 (by decide) (by decide))
                    have hv32 : vs 32 = .bool false := hpv 32 (hpre 32 (by decide) (by decide))
                    have hv33 : vs 33 = .bool false := hpv 33 (hpre 33 (by decide) (by decide))
                    have hv34 : vs 34 = .pointer (some ⟨y10.heap.size, 0, none⟩) := hpv 34 (hpre 34 (by decide) (by decide))
                    have hv35 : vs 35 = .int .i64 (a2) := hpv 35 (hpre 35 (by decide) (by decide))
                    have hv36 : vs 36 = .pointer (some ⟨y8.heap.size, 0, none⟩) := hpv 36 (hpre 36 (by decide) (by decide))
                    have hv37 : vs 37 = .int .i64 (0) := hpv 37 (hpre 37 (by decide) (by decide))
                    have hv38 : vs 38 = .bool false := hpv 38 (hpre 38 (by decide) (by decide))
                    have hv39 : vs 39 = .bool false := hpv 39 (hpre 39 (by decide) (by decide))
                    clear hpv hpre hG hk0
                    obtain rfl : ao = _ := hact
                    subst hT
                    simp only [setAll, List.setIfInBounds_toArray, List.set_cons_succ, List.set_cons_zero, List.getD_cons_succ, List.getD_cons_zero]
                    simp only [hv0, hv1, hv2, hv3, hv4, hv5, hv6, hv7, hv8, hv9, hv10, hv11, hv12, hv13, hv14, hv15, hv16, hv17, hv18, hv19, hv20, hv21, hv22, hv23, hv24, hv25, hv26, hv27, hv28, hv29, hv30, hv31, hv32, hv33, hv34, hv35, hv36, hv37, hv38, hv39]
                    clear hv0 hv1 hv2 hv3 hv4 hv5 hv6 hv7 hv8 hv9 hv10 hv11 hv12 hv13 hv14 hv15 hv16 hv17 hv18 hv19 hv20 hv21 hv22 hv23 hv24 hv25 hv26 hv27 hv28 hv29 hv30 hv31 hv32 hv33 hv34 hv35 hv36 hv37 hv38 hv39
                    refine wpAny_done (by kernel_rfl) ?_ _
                    have hb := hk.below (B := y11.heap.size) (fun k h => h.elim) (Nat.le_refl _)
                    clear zK cK1 cK2 cK3 cK4 cK5 zQ cQ0 cQ1 cQ2 zZ cZ1 cZ2 cZ3 cZ4 cZ5 zS1 cS10 cS11 zS2 cS20 cS21
                    have K := hide (K.out.next hb)
                    have Q := hide (Q.out.next hb)
                    have Z := hide (Z.out.next hb)
                    have J1 := hide (J1.out.next hb)
                    have J2 := hide (J2.out.next hb)
                    have S1 := hide (S1.out.next hb)
                    have S2 := hide (S2.out.next hb)
                    have HB := hide (HB.out.trans (hb.mono HB.out.size))
                    have HL1 := hide (HL1.out.trans (hb.mono HL1.out.size))
                    clear hb
                    clear hk hkm
                    go_wp2_with fail
                    go_roundw
                    case rel => exact ⟨j1 + 1, by omega, by go_num, HL1.out⟩
                    case measure => simp [intOf]; omega
        · have hx1 := hide (show j1 = f.parties.length by omega)
          obtain ⟨zK, cK1, cK2, cK3, cK4, cK5⟩ := K.out.cells
          have zQ := Q.out.lt
          have cQ0 := Q.out.at_ 0
          have cQ1 := Q.out.at_ 1
          have cQ2 := Q.out.at_ 2
          simp only [List.getElem?_toArray, List.getElem?_cons_zero, List.getElem?_cons_succ] at cQ0 cQ1 cQ2
          obtain ⟨zZ, cZ1, cZ2, cZ3, cZ4, cZ5⟩ := Z.out.cells
          go_wp2_with fail
          refine (awake_any _).mono ?_
          rintro e yz ⟨rfl, hb⟩
          go_wp2_with fail
          go_ret
          exact ⟨rfl, HB.out.trans (hb.mono HB.out.size)⟩
end Go.Proofs.YtllmahcanipcpaaGreat
