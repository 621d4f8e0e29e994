/- The law ClaimLate. -/
import Derived.Test.YtllmahcanipcpaaLB
import Derived.Test.YtllmahcanipcpaaLO
import Derived.Test.YtllmahcanipcpaaTB
import Derived.Test.YtllmahcanipcpaaSH
import Derived.BigQuiet
import Derived.OwnWalkIn
import Derived.TacticsInMore
import Derived.Deep.DeepCutAuto
set_option linter.unusedVariables false
set_option linter.unusedSimpArgs false
namespace Go.Proofs.Ytllmahcanipcpaa
open Go.RowKit
attribute [local go_sem ↓] Go.wp_at_zero Go.wp_at_succ
attribute [local go_sem] Oper.semAt_some
theorem late_bad {f : File} (h : someT f = false ∨ f.claims.length = 0) : ∃ e, payV f 0 = (0, e) ∧ e ≠ 0 := by
  rcases h with h | h
  · exact pay_bad h 0
  · exact pay_off (by omega)
set_option maxHeartbeats 8000000 in
set_option maxRecDepth 100000 in
theorem claimLate_bad {f : File} {fa : FA} {w : World} (h : FileV w w.heap.size f fa) (x : Int) (hbad : someT f = false ∨ f.claims.length = 0) :
    Calls Try.prog 6 #[fileVal f fa, .int .u8 x] w fun e w' => e = .returned (.bool true) ∧ Below w.heap.size w w' := by
  have K := hide (BoxF.made h)
  have HB : Hid (Below w.heap.size w (w.alloc (.cells (fileCells f fa) 28))) := hide ((Below.refl _ _).alloc (Nat.le_refl _) _)
  clear h
  go_enter Try.func6, Try.ntmps6
  go_upto_region 1 with (fail)
  generalize (w.alloc (.cells (fileCells f fa) 28)) = y0 at *
  obtain ⟨er, hNV, hne⟩ := late_bad hbad
  have HNV := hide hNV
  have hne2 : (er != 0) = true := by simpa using hne
  clear hNV hne
  cases hs : someT f with
  | false =>
    obtain ⟨zK, cK1, cK2, cK3, cK4, cK5⟩ := K.out.cells
    go_wp2_with fail
    refine (someL_any K.out.v hs).mono ?_
    rintro e y1 ⟨rfl, hb⟩
    clear zK cK1 cK2 cK3 cK4 cK5
    have K := hide (K.out.next hb)
    have HB := hide (HB.out.trans (hb.mono HB.out.size))
    clear hb
    obtain ⟨zK, cK1, cK2, cK3, cK4, cK5⟩ := K.out.cells
    have hc := pays_any K.out.v 0
    rw [HNV.out] at hc
    dsimp only at hc
    go_wp2_with fail
    refine (hc).mono ?_
    rintro e y2 ⟨rfl, hb⟩
    clear zK cK1 cK2 cK3 cK4 cK5
    have K := hide (K.out.next hb)
    have HB := hide (HB.out.trans (hb.mono HB.out.size))
    clear hb
    obtain ⟨zK, cK1, cK2, cK3, cK4, cK5⟩ := K.out.cells
    go_wp2_with fail
    refine (awake_any _).mono ?_
    rintro e yz ⟨rfl, hb⟩
    go_wp2_with fail
    go_ret
    exact ⟨rfl, HB.out.trans (hb.mono HB.out.size)⟩
  | true =>
    have hl0 : f.claims.length = 0 := hbad.resolve_left (fun e => by rw [hs] at e; cases e)
    have hl1 : ((f.claims.length : Int) == 0) = true := by rw [hl0]; rfl
    have hl3 : (f.claims.length == 0) = true := by rw [hl0]; rfl
    clear hl0
    obtain ⟨zK, cK1, cK2, cK3, cK4, cK5⟩ := K.out.cells
    go_wp2_with fail
    refine (someL_any K.out.v hs).mono ?_
    rintro e y1 ⟨rfl, hb⟩
    clear zK cK1 cK2 cK3 cK4 cK5
    have K := hide (K.out.next hb)
    have HB := hide (HB.out.trans (hb.mono HB.out.size))
    clear hb
    obtain ⟨zK, cK1, cK2, cK3, cK4, cK5⟩ := K.out.cells
    have hc := pays_any K.out.v 0
    rw [HNV.out] at hc
    dsimp only at hc
    go_wp2_with fail
    refine (hc).mono ?_
    rintro e y2 ⟨rfl, hb⟩
    clear zK cK1 cK2 cK3 cK4 cK5
    have K := hide (K.out.next hb)
    have HB := hide (HB.out.trans (hb.mono HB.out.size))
    clear hb
    obtain ⟨zK, cK1, cK2, cK3, cK4, cK5⟩ := K.out.cells
    go_wp2_with fail
    refine (awake_any _).mono ?_
    rintro e yz ⟨rfl, hb⟩
    go_wp2_with fail
    go_ret
    exact ⟨rfl, HB.out.trans (hb.mono HB.out.size)⟩
set_option maxHeartbeats 8000000 in
set_option maxRecDepth 100000 in
theorem claimLate_ok {f : File} {fa : FA} {w : World} (h : FileV w w.heap.size f fa) (x : Int) (hx : 0 ≤ x ∧ x ≤ 255) (hs : someT f = true) (hl : 0 < f.claims.length) :
    Calls Try.prog 6 #[fileVal f fa, .int .u8 x] w fun e w' => e = .returned (.bool true) ∧ Below w.heap.size w w' := by
  have K := hide (BoxF.made h)
  have HB : Hid (Below w.heap.size w (w.alloc (.cells (fileCells f fa) 28))) := hide ((Below.refl _ _).alloc (Nat.le_refl _) _)
  clear h
  obtain ⟨hv, hck, hne⟩ := some_ok hs
  have HS := hide hs
  have hcl5 := hv.claims
  have huu := hide hv.untils
  have hp0 := Int.emod_nonneg x (show (f.claims.length : Int) ≠ 0 by omega)
  have hp1 := Int.emod_lt_of_pos x (show 0 < (f.claims.length : Int) by omega)
  have hmo1 : x.tmod (f.claims.length : Int) = x % (f.claims.length : Int) := Int.tmod_eq_emod_of_nonneg hx.1
  have hmz1 : (f.claims.length : Int) ≠ 0 := by omega
  have hxw1 : IntKind.i64.wrap x = x := IntWalk.i64_in _ (by omega)
  obtain ⟨n, hd1⟩ : ∃ n : Nat, x % (f.claims.length : Int) = (n : Int) := ⟨(x % (f.claims.length : Int)).toNat, by omega⟩
  rw [hd1] at hp0 hp1 hmo1
  clear hd1
  have hmw1 : IntKind.i64.wrap n = n := IntWalk.i64_in _ (by omega)
  have hn0 := hp0
  have hn1 := hp1
  clear hp0 hp1
  have hcn := hv.claim n (by omega)
  obtain ⟨how, who, opn, r1, r2, r3, r4, r5⟩ := late_laws hs (n := n) (by omega)
  have R1 := hide r1
  have R2 := hide r2
  have R3 := hide r3
  have R4 := hide r4
  have R5 := hide r5
  have hl1 : ((f.claims.length : Int) == 0) = false := by rw [beq_eq_false_iff_ne]; omega
  have hl2 : ¬ f.claims.length = 0 := by omega
  have hl3 : (f.claims.length == 0) = false := by simpa using hl2
  have hl4 : ¬ f.claims = [] := fun e => hl2 (by rw [e]; rfl)
  have hn1 : ((n : Nat) : Int) < (f.claims.length : Int) := by omega
  clear hv hck hne hs r1 r2 r3 r4 r5
  go_enter Try.func6, Try.ntmps6
  go_upto_region 1 with (fail)
  generalize (w.alloc (.cells (fileCells f fa) 28)) = y0 at *
  obtain ⟨zK, cK1, cK2, cK3, cK4, cK5⟩ := K.out.cells
  go_wp2_with fail
  refine (someL_any K.out.v HS.out).mono ?_
  rintro e y1 ⟨rfl, hb⟩
  clear zK cK1 cK2 cK3 cK4 cK5
  have K := hide (K.out.next hb)
  have HB := hide (HB.out.trans (hb.mono HB.out.size))
  clear hb
  obtain ⟨zK, cK1, cK2, cK3, cK4, cK5⟩ := K.out.cells
  obtain ⟨bq, oq, eq_, hbq, hq1, hq2, hq3⟩ := K.out.v.claims.claims (show n < f.claims.length by omega)
  generalize (nth f.claims n).lot = q1 at *
  generalize (nth f.claims n).against = q2 at *
  generalize (nth f.claims n).day = q3 at *
  obtain ⟨kl, rfl⟩ : ∃ kl : Nat, q1 = (kl : Int) := ⟨q1.toNat, by omega⟩
  obtain ⟨ka, rfl⟩ : ∃ ka : Nat, q2 = (ka : Int) := ⟨q2.toNat, by omega⟩
  rw [eq_] at cK5
  clear eq_
  go_upto_region 6 with fail
  clear zK cK1 cK2 cK3 cK4 cK5
  clear hbq hq1 hq2 hq3
  have hb : Below y1.heap.size y1 (y1.alloc (.cells #[.int .i64 (kl : Nat), .int .i64 (ka : Nat), .int .i64 q3] 52)) := (Below.refl _ _).alloc (Nat.le_refl _) _
  have Q : Hid (Blk (y1.alloc (.cells #[.int .i64 (kl : Nat), .int .i64 (ka : Nat), .int .i64 q3] 52)) y1.heap.size 52 #[.int .i64 (kl : Nat), .int .i64 (ka : Nat), .int .i64 q3]) := hide Blk.made
  have K := hide (K.out.next hb)
  have HB := hide (HB.out.trans (hb.mono HB.out.size))
  clear hb
  generalize (y1.alloc (.cells #[.int .i64 (kl : Nat), .int .i64 (ka : Nat), .int .i64 q3] 52)) = y2 at *
  have hc := pays_any K.out.v ((n : Nat) : Int)
  rw [R1.out] at hc
  dsimp only at hc
  obtain ⟨zK, cK1, cK2, cK3, cK4, cK5⟩ := K.out.cells
  have zQ := Q.out.lt
  have cQ0 := Q.out.at_ 0
  have cQ1 := Q.out.at_ 1
  have cQ2 := Q.out.at_ 2
  simp only [List.getElem?_toArray, List.getElem?_cons_zero, List.getElem?_cons_succ] at cQ0 cQ1 cQ2
  go_wp2_with fail
  refine (hc).mono ?_
  rintro e y3 ⟨rfl, hb⟩
  clear zK cK1 cK2 cK3 cK4 cK5 zQ cQ0 cQ1 cQ2
  have K := hide (K.out.next hb)
  have Q := hide (Q.out.next hb)
  have HB := hide (HB.out.trans (hb.mono HB.out.size))
  clear hb
  obtain ⟨zK, cK1, cK2, cK3, cK4, cK5⟩ := K.out.cells
  have zQ := Q.out.lt
  have cQ0 := Q.out.at_ 0
  have cQ1 := Q.out.at_ 1
  have cQ2 := Q.out.at_ 2
  simp only [List.getElem?_toArray, List.getElem?_cons_zero, List.getElem?_cons_succ] at cQ0 cQ1 cQ2
  have hc := who_any K.out.v ((kl : Nat) : Int)
  rw [R2.out] at hc
  dsimp only at hc
  go_wp2_with fail
  refine (hc).mono ?_
  rintro e y4 ⟨A4, q4, rfl, hi, hb⟩
  clear zK cK1 cK2 cK3 cK4 cK5 zQ cQ0 cQ1 cQ2
  have K := hide (K.out.next hb)
  have Q := hide (Q.out.next hb)
  have HB := hide (HB.out.trans (hb.mono HB.out.size))
  clear hb
  have J1 := hide hi
  clear hi
  obtain ⟨zK, cK1, cK2, cK3, cK4, cK5⟩ := K.out.cells
  have zQ := Q.out.lt
  have cQ0 := Q.out.at_ 0
  have cQ1 := Q.out.at_ 1
  have cQ2 := Q.out.at_ 2
  simp only [List.getElem?_toArray, List.getElem?_cons_zero, List.getElem?_cons_succ] at cQ0 cQ1 cQ2
  have hc := open_any K.out.v
  rw [R3.out] at hc
  dsimp only at hc
  go_wp2_with fail
  refine (hc).mono ?_
  rintro e y5 ⟨A5, q5, rfl, hi, hb⟩
  clear zK cK1 cK2 cK3 cK4 cK5 zQ cQ0 cQ1 cQ2
  have K := hide (K.out.next hb)
  have Q := hide (Q.out.next hb)
  have J1 := hide (J1.out.next hb)
  have HB := hide (HB.out.trans (hb.mono HB.out.size))
  clear hb
  have J2 := hide hi
  clear hi
  obtain ⟨zK, cK1, cK2, cK3, cK4, cK5⟩ := K.out.cells
  have zQ := Q.out.lt
  have cQ0 := Q.out.at_ 0
  have cQ1 := Q.out.at_ 1
  have cQ2 := Q.out.at_ 2
  simp only [List.getElem?_toArray, List.getElem?_cons_zero, List.getElem?_cons_succ] at cQ0 cQ1 cQ2
  obtain ⟨bu, ou, eu, hbu, hcu⟩ := K.out.v.untils.ints (show ka < f.untils.length by have := huu.out; omega)
  rw [eu] at cK2
  clear eu
  rw [Int.toNat_natCast] at R4 R5
  generalize nth f.untils ka = u at *
  have hkau : ((ka : Nat) : Int) < (f.untils.length : Int) := by have := huu.out; omega
  cases hlt : decide (q3 > u) with
  | true =>
    rw [hlt] at R4 R5
    have hgt1 : decide (u < q3) = true := hlt
    have hgt2 :  u < q3 := of_decide_eq_true hlt
    clear hlt
    go_upto_region 9 with fail
    go_quiet (fail)
    clear zK cK1 cK2 cK3 cK4 cK5 zQ cQ0 cQ1 cQ2
    have hb := below_drewN (Below.refl y5.heap.size y5) nq
    have K := hide (K.out.next hb)
    have Q := hide (Q.out.next hb)
    have J1 := hide (J1.out.next hb)
    have J2 := hide (J2.out.next hb)
    have HB := hide (HB.out.trans (hb.mono HB.out.size))
    clear hb
    generalize y5.drewN nq = y6 at *
    obtain ⟨zK, cK1, cK2, cK3, cK4, cK5⟩ := K.out.cells
    have zQ := Q.out.lt
    have cQ0 := Q.out.at_ 0
    have cQ1 := Q.out.at_ 1
    have cQ2 := Q.out.at_ 2
    simp only [List.getElem?_toArray, List.getElem?_cons_zero, List.getElem?_cons_succ] at cQ0 cQ1 cQ2
    clear hgt1 hgt2 hcu hbu
    have hh : (how == 2) = true := by have := R4.out; rw [← this]; rfl
    go_wp2_with fail
    refine (awake_any _).mono ?_
    rintro e yz ⟨rfl, hb⟩
    go_wp2_with fail
    go_ret
    exact ⟨rfl, HB.out.trans (hb.mono HB.out.size)⟩
  | false =>
    rw [hlt] at R4 R5
    have hgt1 : decide (u < q3) = false := hlt
    have hgt2 : ¬ u < q3 := of_decide_eq_false hlt
    clear hlt
    go_upto_region 9 with fail
    go_quiet (fail)
    clear zK cK1 cK2 cK3 cK4 cK5 zQ cQ0 cQ1 cQ2
    have hb := below_drewN (Below.refl y5.heap.size y5) nq
    have K := hide (K.out.next hb)
    have Q := hide (Q.out.next hb)
    have J1 := hide (J1.out.next hb)
    have J2 := hide (J2.out.next hb)
    have HB := hide (HB.out.trans (hb.mono HB.out.size))
    clear hb
    generalize y5.drewN nq = y6 at *
    obtain ⟨zK, cK1, cK2, cK3, cK4, cK5⟩ := K.out.cells
    have zQ := Q.out.lt
    have cQ0 := Q.out.at_ 0
    have cQ1 := Q.out.at_ 1
    have cQ2 := Q.out.at_ 2
    simp only [List.getElem?_toArray, List.getElem?_cons_zero, List.getElem?_cons_succ] at cQ0 cQ1 cQ2
    clear hgt1 hgt2 hcu hbu
    cases hfb : firstB f n with
    | false =>
      rw [hfb] at R4
      have hc := first7_any K.out.v (show n < f.claims.length by omega)
      rw [hfb] at hc
      go_wp2_with fail
      refine (hc).mono ?_
      rintro e y7 ⟨rfl, hb⟩
      clear zK cK1 cK2 cK3 cK4 cK5 zQ cQ0 cQ1 cQ2
      have K := hide (K.out.next hb)
      have Q := hide (Q.out.next hb)
      have J1 := hide (J1.out.next hb)
      have J2 := hide (J2.out.next hb)
      have HB := hide (HB.out.trans (hb.mono HB.out.size))
      clear hb
      obtain ⟨zK, cK1, cK2, cK3, cK4, cK5⟩ := K.out.cells
      have zQ := Q.out.lt
      have cQ0 := Q.out.at_ 0
      have cQ1 := Q.out.at_ 1
      have cQ2 := Q.out.at_ 2
      simp only [List.getElem?_toArray, List.getElem?_cons_zero, List.getElem?_cons_succ] at cQ0 cQ1 cQ2
      have hh : (how == 2) = true := by have := R4.out; rw [← this]; rfl
      cases hii : intsB (natInts who) [((ka : Nat) : Int)] with
      | false =>
        go_wp2_with fail
        refine (ints_any (J1.out.below ((Below.refl _ _).alloc (Nat.le_refl _) _)) (IntsS.lit1 rfl ((ka : Nat) : Int))).mono ?_
        rintro e y8 ⟨rfl, hd⟩
        rw [hii]
        have hb := ((Below.refl y7.heap.size y7).alloc (Nat.le_refl _) (.cells #[.int .i64 ((ka : Nat) : Int)] 3)).trans (hd.below y7.heap.size)
        clear hd
        clear zK cK1 cK2 cK3 cK4 cK5 zQ cQ0 cQ1 cQ2
        have K := hide (K.out.next hb)
        have Q := hide (Q.out.next hb)
        have J1 := hide (J1.out.next hb)
        have J2 := hide (J2.out.next hb)
        have HB := hide (HB.out.trans (hb.mono HB.out.size))
        clear hb
        obtain ⟨zK, cK1, cK2, cK3, cK4, cK5⟩ := K.out.cells
        have zQ := Q.out.lt
        have cQ0 := Q.out.at_ 0
        have cQ1 := Q.out.at_ 1
        have cQ2 := Q.out.at_ 2
        simp only [List.getElem?_toArray, List.getElem?_cons_zero, List.getElem?_cons_succ] at cQ0 cQ1 cQ2
        go_wp2_with fail
        refine (awake_any _).mono ?_
        rintro e yz ⟨rfl, hb⟩
        go_wp2_with fail
        go_ret
        exact ⟨rfl, HB.out.trans (hb.mono HB.out.size)⟩
      | true =>
        go_wp2_with fail
        refine (ints_any (J1.out.below ((Below.refl _ _).alloc (Nat.le_refl _) _)) (IntsS.lit1 rfl ((ka : Nat) : Int))).mono ?_
        rintro e y8 ⟨rfl, hd⟩
        rw [hii]
        have hb := ((Below.refl y7.heap.size y7).alloc (Nat.le_refl _) (.cells #[.int .i64 ((ka : Nat) : Int)] 3)).trans (hd.below y7.heap.size)
        clear hd
        clear zK cK1 cK2 cK3 cK4 cK5 zQ cQ0 cQ1 cQ2
        have K := hide (K.out.next hb)
        have Q := hide (Q.out.next hb)
        have J1 := hide (J1.out.next hb)
        have J2 := hide (J2.out.next hb)
        have HB := hide (HB.out.trans (hb.mono HB.out.size))
        clear hb
        obtain ⟨zK, cK1, cK2, cK3, cK4, cK5⟩ := K.out.cells
        have zQ := Q.out.lt
        have cQ0 := Q.out.at_ 0
        have cQ1 := Q.out.at_ 1
        have cQ2 := Q.out.at_ 2
        simp only [List.getElem?_toArray, List.getElem?_cons_zero, List.getElem?_cons_succ] at cQ0 cQ1 cQ2
        have hho := R5.out (by first | rfl | trivial) hii
        go_wp2_with fail
        refine (has_any J2.out ((kl : Nat) : Int)).mono ?_
        rintro e y9 ⟨rfl, rfl⟩
        rw [hho]
        go_wp2_with fail
        refine (awake_any _).mono ?_
        rintro e yz ⟨rfl, hb⟩
        go_wp2_with fail
        go_ret
        exact ⟨rfl, HB.out.trans (hb.mono HB.out.size)⟩
    | true =>
      rw [hfb] at R4
      have hc := first7_any K.out.v (show n < f.claims.length by omega)
      rw [hfb] at hc
      go_wp2_with fail
      refine (hc).mono ?_
      rintro e y7 ⟨rfl, hb⟩
      clear zK cK1 cK2 cK3 cK4 cK5 zQ cQ0 cQ1 cQ2
      have K := hide (K.out.next hb)
      have Q := hide (Q.out.next hb)
      have J1 := hide (J1.out.next hb)
      have J2 := hide (J2.out.next hb)
      have HB := hide (HB.out.trans (hb.mono HB.out.size))
      clear hb
      obtain ⟨zK, cK1, cK2, cK3, cK4, cK5⟩ := K.out.cells
      have zQ := Q.out.lt
      have cQ0 := Q.out.at_ 0
      have cQ1 := Q.out.at_ 1
      have cQ2 := Q.out.at_ 2
      simp only [List.getElem?_toArray, List.getElem?_cons_zero, List.getElem?_cons_succ] at cQ0 cQ1 cQ2
      cases hha : hasInt (natInts who) ((ka : Nat) : Int) with
      | false =>
        rw [hha] at R4
        have hh : (how == 2) = true := by have := R4.out; rw [← this]; rfl
        go_wp2_with fail
        refine (has_any J1.out ((ka : Nat) : Int)).mono ?_
        rintro e y8 ⟨rfl, rfl⟩
        rw [hha]
        cases hii : intsB (natInts who) [((ka : Nat) : Int)] with
        | false =>
          go_wp2_with fail
          refine (ints_any (J1.out.below ((Below.refl _ _).alloc (Nat.le_refl _) _)) (IntsS.lit1 rfl ((ka : Nat) : Int))).mono ?_
          rintro e y9 ⟨rfl, hd⟩
          rw [hii]
          have hb := ((Below.refl y7.heap.size y7).alloc (Nat.le_refl _) (.cells #[.int .i64 ((ka : Nat) : Int)] 3)).trans (hd.below y7.heap.size)
          clear hd
          clear zK cK1 cK2 cK3 cK4 cK5 zQ cQ0 cQ1 cQ2
          have K := hide (K.out.next hb)
          have Q := hide (Q.out.next hb)
          have J1 := hide (J1.out.next hb)
          have J2 := hide (J2.out.next hb)
          have HB := hide (HB.out.trans (hb.mono HB.out.size))
          clear hb
          obtain ⟨zK, cK1, cK2, cK3, cK4, cK5⟩ := K.out.cells
          have zQ := Q.out.lt
          have cQ0 := Q.out.at_ 0
          have cQ1 := Q.out.at_ 1
          have cQ2 := Q.out.at_ 2
          simp only [List.getElem?_toArray, List.getElem?_cons_zero, List.getElem?_cons_succ] at cQ0 cQ1 cQ2
          go_wp2_with fail
          refine (awake_any _).mono ?_
          rintro e yz ⟨rfl, hb⟩
          go_wp2_with fail
          go_ret
          exact ⟨rfl, HB.out.trans (hb.mono HB.out.size)⟩
        | true =>
          go_wp2_with fail
          refine (ints_any (J1.out.below ((Below.refl _ _).alloc (Nat.le_refl _) _)) (IntsS.lit1 rfl ((ka : Nat) : Int))).mono ?_
          rintro e y9 ⟨rfl, hd⟩
          rw [hii]
          have hb := ((Below.refl y7.heap.size y7).alloc (Nat.le_refl _) (.cells #[.int .i64 ((ka : Nat) : Int)] 3)).trans (hd.below y7.heap.size)
          clear hd
          clear zK cK1 cK2 cK3 cK4 cK5 zQ cQ0 cQ1 cQ2
          have K := hide (K.out.next hb)
          have Q := hide (Q.out.next hb)
          have J1 := hide (J1.out.next hb)
          have J2 := hide (J2.out.next hb)
          have HB := hide (HB.out.trans (hb.mono HB.out.size))
          clear hb
          obtain ⟨zK, cK1, cK2, cK3, cK4, cK5⟩ := K.out.cells
          have zQ := Q.out.lt
          have cQ0 := Q.out.at_ 0
          have cQ1 := Q.out.at_ 1
          have cQ2 := Q.out.at_ 2
          simp only [List.getElem?_toArray, List.getElem?_cons_zero, List.getElem?_cons_succ] at cQ0 cQ1 cQ2
          have hho := R5.out (by first | rfl | trivial) hii
          go_wp2_with fail
          refine (has_any J2.out ((kl : Nat) : Int)).mono ?_
          rintro e y10 ⟨rfl, rfl⟩
          rw [hho]
          go_wp2_with fail
          refine (awake_any _).mono ?_
          rintro e yz ⟨rfl, hb⟩
          go_wp2_with fail
          go_ret
          exact ⟨rfl, HB.out.trans (hb.mono HB.out.size)⟩
      | true =>
        rw [hha] at R4
        have hh : (how == 2) = false := by have := R4.out; rw [← this]; rfl
        go_wp2_with fail
        refine (has_any J1.out ((ka : Nat) : Int)).mono ?_
        rintro e y8 ⟨rfl, rfl⟩
        rw [hha]
        cases hii : intsB (natInts who) [((ka : Nat) : Int)] with
        | false =>
          go_wp2_with fail
          refine (ints_any (J1.out.below ((Below.refl _ _).alloc (Nat.le_refl _) _)) (IntsS.lit1 rfl ((ka : Nat) : Int))).mono ?_
          rintro e y9 ⟨rfl, hd⟩
          rw [hii]
          have hb := ((Below.refl y7.heap.size y7).alloc (Nat.le_refl _) (.cells #[.int .i64 ((ka : Nat) : Int)] 3)).trans (hd.below y7.heap.size)
          clear hd
          clear zK cK1 cK2 cK3 cK4 cK5 zQ cQ0 cQ1 cQ2
          have K := hide (K.out.next hb)
          have Q := hide (Q.out.next hb)
          have J1 := hide (J1.out.next hb)
          have J2 := hide (J2.out.next hb)
          have HB := hide (HB.out.trans (hb.mono HB.out.size))
          clear hb
          obtain ⟨zK, cK1, cK2, cK3, cK4, cK5⟩ := K.out.cells
          have zQ := Q.out.lt
          have cQ0 := Q.out.at_ 0
          have cQ1 := Q.out.at_ 1
          have cQ2 := Q.out.at_ 2
          simp only [List.getElem?_toArray, List.getElem?_cons_zero, List.getElem?_cons_succ] at cQ0 cQ1 cQ2
          go_wp2_with fail
          refine (awake_any _).mono ?_
          rintro e yz ⟨rfl, hb⟩
          go_wp2_with fail
          go_ret
          exact ⟨rfl, HB.out.trans (hb.mono HB.out.size)⟩
        | true =>
          go_wp2_with fail
          refine (ints_any (J1.out.below ((Below.refl _ _).alloc (Nat.le_refl _) _)) (IntsS.lit1 rfl ((ka : Nat) : Int))).mono ?_
          rintro e y9 ⟨rfl, hd⟩
          rw [hii]
          have hb := ((Below.refl y7.heap.size y7).alloc (Nat.le_refl _) (.cells #[.int .i64 ((ka : Nat) : Int)] 3)).trans (hd.below y7.heap.size)
          clear hd
          clear zK cK1 cK2 cK3 cK4 cK5 zQ cQ0 cQ1 cQ2
          have K := hide (K.out.next hb)
          have Q := hide (Q.out.next hb)
          have J1 := hide (J1.out.next hb)
          have J2 := hide (J2.out.next hb)
          have HB := hide (HB.out.trans (hb.mono HB.out.size))
          clear hb
          obtain ⟨zK, cK1, cK2, cK3, cK4, cK5⟩ := K.out.cells
          have zQ := Q.out.lt
          have cQ0 := Q.out.at_ 0
          have cQ1 := Q.out.at_ 1
          have cQ2 := Q.out.at_ 2
          simp only [List.getElem?_toArray, List.getElem?_cons_zero, List.getElem?_cons_succ] at cQ0 cQ1 cQ2
          have hho := R5.out (by first | rfl | trivial) hii
          go_wp2_with fail
          refine (has_any J2.out ((kl : Nat) : Int)).mono ?_
          rintro e y10 ⟨rfl, rfl⟩
          rw [hho]
          go_wp2_with fail
          refine (awake_any _).mono ?_
          rintro e yz ⟨rfl, hb⟩
          go_wp2_with fail
          go_ret
          exact ⟨rfl, HB.out.trans (hb.mono HB.out.size)⟩
theorem claimLate_any {f : File} {fa : FA} {w : World} (h : FileV w w.heap.size f fa) (x : Int) (hx : 0 ≤ x ∧ x ≤ 255) :
    Calls Try.prog 6 #[fileVal f fa, .int .u8 x] w fun e w' => e = .returned (.bool true) ∧ Below w.heap.size w w' := by
  by_cases hl : f.claims.length = 0
  · exact claimLate_bad h x (.inr hl)
  · cases hs : someT f with
    | false => exact claimLate_bad h x (.inl hs)
    | true => exact claimLate_ok h x hx hs (by omega)
end Go.Proofs.Ytllmahcanipcpaa
