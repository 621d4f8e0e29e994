/- The law ClaimNext. -/
import Derived.Test.YtllmahcanipcpaaGreatLB
import Derived.Test.YtllmahcanipcpaaGreatLO
import Derived.Test.YtllmahcanipcpaaGreatTE
import Derived.Test.YtllmahcanipcpaaGreatSTh
import Derived.BigQuiet
import Derived.OwnWalkIn
import Derived.TacticsInMore
import Derived.Deep.DeepCutAuto
set_option linter.unusedVariables false
set_option linter.unusedSimpArgs false
namespace Go.Proofs.YtllmahcanipcpaaGreat
open Go.RowKit
attribute [local go_sem ↓] Go.wp_at_zero Go.wp_at_succ
attribute [local go_sem] Oper.semAt_some
theorem next_bad {f : File} (h : someT f = false ∨ f.lots.length = 0) : ∃ e, nextV f 0 0 = ((0, 0), e) ∧ e ≠ 0 := by
  have hne : enterE f 0 f.lots.length (otherE 0) ≠ 0 := by
    rw [show otherE 0 = 0 from rfl]
    rcases h with h | h
    · exact enter_bad h _ _
    · exact enter_off (by omega)
  exact ⟨_, by rw [nextV, if_neg hne], hne⟩
set_option maxHeartbeats 8000000 in
set_option maxRecDepth 100000 in
theorem claimNext_bad {f : File} {fa : FA} {w : World} (h : FileV w w.heap.size f fa) (xa xb xc : Int) (hbad : someT f = false ∨ f.lots.length = 0) :
    Calls Tryz.prog 9 #[fileVal f fa, .agg #[.int .u8 xa, .int .u8 xb, .int .u8 xc]] w fun e w' => e = .returned (.bool true) ∧ Below w.heap.size w w' := by
  have hB0 : Below w.heap.size w ((w.alloc (.cells (fileCells f fa) 28)).alloc (.cells #[.int .u8 xa, .int .u8 xb, .int .u8 xc] 63)) := ((Below.refl _ _).alloc (Nat.le_refl _) _).alloc (by simp) _
  have K : Hid (BoxF ((w.alloc (.cells (fileCells f fa) 28)).alloc (.cells #[.int .u8 xa, .int .u8 xb, .int .u8 xc] 63)) w.heap.size f fa) := hide ⟨h.next hB0, Blk.made.alloc _⟩
  have Q : Hid (Blk ((w.alloc (.cells (fileCells f fa) 28)).alloc (.cells #[.int .u8 xa, .int .u8 xb, .int .u8 xc] 63)) (w.heap.size + 1) 63 #[.int .u8 xa, .int .u8 xb, .int .u8 xc]) := hide (Blk.made' (by simp))
  have HB := hide hB0
  clear h hB0
  go_enter Tryz.func9, Tryz.ntmps9
  go_upto_region 1 with (fail)
  generalize ((w.alloc (.cells (fileCells f fa) 28)).alloc (.cells #[.int .u8 xa, .int .u8 xb, .int .u8 xc] 63)) = y0 at *
  obtain ⟨er, hNV, hne⟩ := next_bad hbad
  have HNV := hide hNV
  have hne2 : (er != 0) = true := by simpa using hne
  clear hNV hne
  cases hs : someT f with
  | false =>
    obtain ⟨zK, cK1, cK2, cK3, cK4, cK5⟩ := K.out.cells
    have zQ := Q.out.lt
    have cQ0 := Q.out.at_ 0
    have cQ1 := Q.out.at_ 1
    have cQ2 := Q.out.at_ 2
    simp only [List.getElem?_toArray, List.getElem?_cons_zero, List.getElem?_cons_succ] at cQ0 cQ1 cQ2
    go_wp2_with fail
    refine (someL_any K.out.v hs).mono ?_
    rintro e y1 ⟨rfl, hb⟩
    clear zK cK1 cK2 cK3 cK4 cK5 zQ cQ0 cQ1 cQ2
    have K := hide (K.out.next hb)
    have Q := hide (Q.out.next hb)
    have HB := hide (HB.out.trans (hb.mono HB.out.size))
    clear hb
    obtain ⟨zK, cK1, cK2, cK3, cK4, cK5⟩ := K.out.cells
    have zQ := Q.out.lt
    have cQ0 := Q.out.at_ 0
    have cQ1 := Q.out.at_ 1
    have cQ2 := Q.out.at_ 2
    simp only [List.getElem?_toArray, List.getElem?_cons_zero, List.getElem?_cons_succ] at cQ0 cQ1 cQ2
    have hc := next_any2 K.out.v 0 0
    rw [HNV.out] at hc
    dsimp only at hc
    go_wp2_with fail
    refine (hc).mono ?_
    rintro e y2 ⟨rfl, hb⟩
    clear zK cK1 cK2 cK3 cK4 cK5 zQ cQ0 cQ1 cQ2
    have K := hide (K.out.next hb)
    have Q := hide (Q.out.next hb)
    have HB := hide (HB.out.trans (hb.mono HB.out.size))
    clear hb
    obtain ⟨zK, cK1, cK2, cK3, cK4, cK5⟩ := K.out.cells
    have zQ := Q.out.lt
    have cQ0 := Q.out.at_ 0
    have cQ1 := Q.out.at_ 1
    have cQ2 := Q.out.at_ 2
    simp only [List.getElem?_toArray, List.getElem?_cons_zero, List.getElem?_cons_succ] at cQ0 cQ1 cQ2
    go_wp2_with fail
    refine (awake_any _).mono ?_
    rintro e yz ⟨rfl, hb⟩
    go_wp2_with fail
    go_ret
    exact ⟨rfl, HB.out.trans (hb.mono HB.out.size)⟩
  | true =>
    have hl0 : f.lots.length = 0 := hbad.resolve_left (fun e => by rw [hs] at e; cases e)
    have hl1 : ((f.lots.length : Int) == 0) = true := by rw [hl0]; rfl
    have hl3 : (f.lots.length == 0) = true := by rw [hl0]; rfl
    clear hl0
    obtain ⟨zK, cK1, cK2, cK3, cK4, cK5⟩ := K.out.cells
    have zQ := Q.out.lt
    have cQ0 := Q.out.at_ 0
    have cQ1 := Q.out.at_ 1
    have cQ2 := Q.out.at_ 2
    simp only [List.getElem?_toArray, List.getElem?_cons_zero, List.getElem?_cons_succ] at cQ0 cQ1 cQ2
    go_wp2_with fail
    refine (someL_any K.out.v hs).mono ?_
    rintro e y4 ⟨rfl, hb⟩
    clear zK cK1 cK2 cK3 cK4 cK5 zQ cQ0 cQ1 cQ2
    have K := hide (K.out.next hb)
    have Q := hide (Q.out.next hb)
    have HB := hide (HB.out.trans (hb.mono HB.out.size))
    clear hb
    obtain ⟨zK, cK1, cK2, cK3, cK4, cK5⟩ := K.out.cells
    have zQ := Q.out.lt
    have cQ0 := Q.out.at_ 0
    have cQ1 := Q.out.at_ 1
    have cQ2 := Q.out.at_ 2
    simp only [List.getElem?_toArray, List.getElem?_cons_zero, List.getElem?_cons_succ] at cQ0 cQ1 cQ2
    have hc := next_any2 K.out.v 0 0
    rw [HNV.out] at hc
    dsimp only at hc
    go_wp2_with fail
    refine (hc).mono ?_
    rintro e y5 ⟨rfl, hb⟩
    clear zK cK1 cK2 cK3 cK4 cK5 zQ cQ0 cQ1 cQ2
    have K := hide (K.out.next hb)
    have Q := hide (Q.out.next hb)
    have HB := hide (HB.out.trans (hb.mono HB.out.size))
    clear hb
    obtain ⟨zK, cK1, cK2, cK3, cK4, cK5⟩ := K.out.cells
    have zQ := Q.out.lt
    have cQ0 := Q.out.at_ 0
    have cQ1 := Q.out.at_ 1
    have cQ2 := Q.out.at_ 2
    simp only [List.getElem?_toArray, List.getElem?_cons_zero, List.getElem?_cons_succ] at cQ0 cQ1 cQ2
    go_wp2_with fail
    refine (awake_any _).mono ?_
    rintro e yz ⟨rfl, hb⟩
    go_wp2_with fail
    go_ret
    exact ⟨rfl, HB.out.trans (hb.mono HB.out.size)⟩
set_option maxHeartbeats 8000000 in
set_option maxRecDepth 100000 in
theorem claimNext_ok {f : File} {fa : FA} {w : World} (h : FileV w w.heap.size f fa) (xa xb xc : Int) (hxa : 0 ≤ xa ∧ xa ≤ 255) (hxb : 0 ≤ xb ∧ xb ≤ 255) (hxc : 0 ≤ xc ∧ xc ≤ 255) (hs : someT f = true) (hl : 0 < f.lots.length) :
    Calls Tryz.prog 9 #[fileVal f fa, .agg #[.int .u8 xa, .int .u8 xb, .int .u8 xc]] w fun e w' => e = .returned (.bool true) ∧ Below w.heap.size w w' := by
  have hB0 : Below w.heap.size w ((w.alloc (.cells (fileCells f fa) 28)).alloc (.cells #[.int .u8 xa, .int .u8 xb, .int .u8 xc] 63)) := ((Below.refl _ _).alloc (Nat.le_refl _) _).alloc (by simp) _
  have K : Hid (BoxF ((w.alloc (.cells (fileCells f fa) 28)).alloc (.cells #[.int .u8 xa, .int .u8 xb, .int .u8 xc] 63)) w.heap.size f fa) := hide ⟨h.next hB0, Blk.made.alloc _⟩
  have Q : Hid (Blk ((w.alloc (.cells (fileCells f fa) 28)).alloc (.cells #[.int .u8 xa, .int .u8 xb, .int .u8 xc] 63)) (w.heap.size + 1) 63 #[.int .u8 xa, .int .u8 xb, .int .u8 xc]) := hide (Blk.made' (by simp))
  have HB := hide hB0
  clear h hB0
  obtain ⟨hv, hck, hne⟩ := some_ok hs
  have HVL := hide hv
  have HS := hide hs
  have HPL := hide (fun g (hg : g ∈ truthsM f []) => truthsM_pl hv hg)
  have H256 := hide (truthsM_256 hv [])
  have hpl4 := hv.parties
  have hll4 := hv.lots
  have hcl0 := hv.claims
  have hpar : 0 < f.parties.length := by
    have hr := hv.route 0 hl
    have := hr.2.1 0 (by omega)
    omega
  have hp0 := Int.emod_nonneg xa (show (f.lots.length : Int) ≠ 0 by omega)
  have hp1 := Int.emod_lt_of_pos xa (show 0 < (f.lots.length : Int) by omega)
  have hmo1 : xa.tmod (f.lots.length : Int) = xa % (f.lots.length : Int) := Int.tmod_eq_emod_of_nonneg hxa.1
  have hmz1 : (f.lots.length : Int) ≠ 0 := by omega
  have hxw1 : IntKind.i64.wrap xa = xa := IntWalk.i64_in _ (by omega)
  obtain ⟨l, hd1⟩ : ∃ l : Nat, xa % (f.lots.length : Int) = (l : Int) := ⟨(xa % (f.lots.length : Int)).toNat, by omega⟩
  rw [hd1] at hp0 hp1 hmo1
  clear hd1
  have hmw1 : IntKind.i64.wrap l = l := IntWalk.i64_in _ (by omega)
  have hl0 := hp0
  have hl1 := hp1
  clear hp0 hp1
  have hp0 := Int.emod_nonneg xb (show (61 : Int) ≠ 0 by omega)
  have hp1 := Int.emod_lt_of_pos xb (show 0 < (61 : Int) by omega)
  have hmo2 : xb.tmod (61 : Int) = xb % (61 : Int) := Int.tmod_eq_emod_of_nonneg hxb.1
  have hmz2 : (61 : Int) ≠ 0 := by omega
  have hxw2 : IntKind.i64.wrap xb = xb := IntWalk.i64_in _ (by omega)
  obtain ⟨day, hd2⟩ : ∃ day : Int, xb % (61 : Int) = day := ⟨_, rfl⟩
  rw [hd2] at hp0 hp1 hmo2
  clear hd2
  have hmw2 : IntKind.i64.wrap day = day := IntWalk.i64_in _ (by omega)
  have hday0 := hp0
  have hday1 := hp1
  clear hp0 hp1
  have hp0 := Int.emod_nonneg xc (show (f.parties.length : Int) ≠ 0 by omega)
  have hp1 := Int.emod_lt_of_pos xc (show 0 < (f.parties.length : Int) by omega)
  have hmo3 : xc.tmod (f.parties.length : Int) = xc % (f.parties.length : Int) := Int.tmod_eq_emod_of_nonneg hxc.1
  have hmz3 : (f.parties.length : Int) ≠ 0 := by omega
  have hxw3 : IntKind.i64.wrap xc = xc := IntWalk.i64_in _ (by omega)
  obtain ⟨other, hd3⟩ : ∃ other : Nat, xc % (f.parties.length : Int) = (other : Int) := ⟨(xc % (f.parties.length : Int)).toNat, by omega⟩
  rw [hd3] at hp0 hp1 hmo3
  clear hd3
  have hmw3 : IntKind.i64.wrap other = other := IntWalk.i64_in _ (by omega)
  have hother0 := hp0
  have hother1 := hp1
  clear hp0 hp1
  have hNL := next_laws hs (l := l) (by omega) (day := day) ⟨hday0, by omega⟩ (other := other) (by omega)
  have HCI := hide (claim_in (f := f) (l := (l : Nat)) (day := day) (p := other) ⟨by omega, by omega⟩ ⟨hday0, by omega⟩ (by omega))
  have hl1 : ((f.lots.length : Int) == 0) = false := by rw [beq_eq_false_iff_ne]; omega
  have hl2 : ¬ f.lots.length = 0 := by omega
  have hl3 : (f.lots.length == 0) = false := by simpa using hl2
  have hl4 : ¬ f.lots = [] := fun e => hl2 (by rw [e]; rfl)
  have hl5 : ¬ f.parties = [] := fun e => by rw [e] at hpar; simp at hpar
  clear hv hck hne hs
  go_enter Tryz.func9, Tryz.ntmps9
  go_upto_region 1 with (fail)
  generalize ((w.alloc (.cells (fileCells f fa) 28)).alloc (.cells #[.int .u8 xa, .int .u8 xb, .int .u8 xc] 63)) = y0 at *
  obtain ⟨zK, cK1, cK2, cK3, cK4, cK5⟩ := K.out.cells
  have zQ := Q.out.lt
  have cQ0 := Q.out.at_ 0
  have cQ1 := Q.out.at_ 1
  have cQ2 := Q.out.at_ 2
  simp only [List.getElem?_toArray, List.getElem?_cons_zero, List.getElem?_cons_succ] at cQ0 cQ1 cQ2
  go_wp2_with fail
  refine (someL_any K.out.v HS.out).mono ?_
  rintro e y1 ⟨rfl, hb⟩
  clear zK cK1 cK2 cK3 cK4 cK5 zQ cQ0 cQ1 cQ2
  have K := hide (K.out.next hb)
  have Q := hide (Q.out.next hb)
  have HB := hide (HB.out.trans (hb.mono HB.out.size))
  clear hb
  obtain ⟨zK, cK1, cK2, cK3, cK4, cK5⟩ := K.out.cells
  have zQ := Q.out.lt
  have cQ0 := Q.out.at_ 0
  have cQ1 := Q.out.at_ 1
  have cQ2 := Q.out.at_ 2
  simp only [List.getElem?_toArray, List.getElem?_cons_zero, List.getElem?_cons_succ] at cQ0 cQ1 cQ2
  go_upto_region 4 with (fail)
  go_quiet (fail)
  clear zK cK1 cK2 cK3 cK4 cK5 zQ cQ0 cQ1 cQ2
  have hb := below_drewN (Below.refl y1.heap.size y1) nq
  have K := hide (K.out.next hb)
  have Q := hide (Q.out.next hb)
  have HB := hide (HB.out.trans (hb.mono HB.out.size))
  clear hb
  generalize y1.drewN nq = y2 at *
  obtain ⟨zK, cK1, cK2, cK3, cK4, cK5⟩ := K.out.cells
  have zQ := Q.out.lt
  have cQ0 := Q.out.at_ 0
  have cQ1 := Q.out.at_ 1
  have cQ2 := Q.out.at_ 2
  simp only [List.getElem?_toArray, List.getElem?_cons_zero, List.getElem?_cons_succ] at cQ0 cQ1 cQ2
  rcases hNL with ⟨e1, e2⟩ | ⟨party, helps, hp, hh1, e1, e2, e3, e4, e5⟩
  · have HNV := hide e1
    have HN := hide e2
    clear e1 e2
    have hc := next_any2 K.out.v ((l : Nat) : Int) day
    rw [HNV.out] at hc
    dsimp only at hc
    go_wp2_with fail
    refine (hc).mono ?_
    rintro e y3 ⟨rfl, hb⟩
    clear zK cK1 cK2 cK3 cK4 cK5 zQ cQ0 cQ1 cQ2
    have K := hide (K.out.next hb)
    have Q := hide (Q.out.next hb)
    have HB := hide (HB.out.trans (hb.mono HB.out.size))
    clear hb
    obtain ⟨zK, cK1, cK2, cK3, cK4, cK5⟩ := K.out.cells
    have zQ := Q.out.lt
    have cQ0 := Q.out.at_ 0
    have cQ1 := Q.out.at_ 1
    have cQ2 := Q.out.at_ 2
    simp only [List.getElem?_toArray, List.getElem?_cons_zero, List.getElem?_cons_succ] at cQ0 cQ1 cQ2
    go_wp2_with fail
    refine (truths7_any K.out.v HVL.out IntsS.nil_).mono ?_
    rintro e y4 ⟨AT, cT, rfl, hT, hb⟩
    clear zK cK1 cK2 cK3 cK4 cK5 zQ cQ0 cQ1 cQ2
    have K := hide (K.out.next hb)
    have Q := hide (Q.out.next hb)
    have HB := hide (HB.out.trans (hb.mono HB.out.size))
    clear hb
    have HT := hide hT
    clear hT
    obtain ⟨zK, cK1, cK2, cK3, cK4, cK5⟩ := K.out.cells
    have zQ := Q.out.lt
    have cQ0 := Q.out.at_ 0
    have cQ1 := Q.out.at_ 1
    have cQ2 := Q.out.at_ 2
    simp only [List.getElem?_toArray, List.getElem?_cons_zero, List.getElem?_cons_succ] at cQ0 cQ1 cQ2
    have hc := helps7_any K.out.v HVL.out ⟨l, (other : Nat), day⟩ HCI.out HT.out HPL.out H256.out
    rw [HN.out] at hc
    go_wp2_with fail
    refine (hc).mono ?_
    rintro e y5 ⟨rfl, hb⟩
    clear zK cK1 cK2 cK3 cK4 cK5 zQ cQ0 cQ1 cQ2
    have K := hide (K.out.next hb)
    have Q := hide (Q.out.next hb)
    have HT := hide (HT.out.next hb)
    have HB := hide (HB.out.trans (hb.mono HB.out.size))
    clear hb
    obtain ⟨zK, cK1, cK2, cK3, cK4, cK5⟩ := K.out.cells
    have zQ := Q.out.lt
    have cQ0 := Q.out.at_ 0
    have cQ1 := Q.out.at_ 1
    have cQ2 := Q.out.at_ 2
    simp only [List.getElem?_toArray, List.getElem?_cons_zero, List.getElem?_cons_succ] at cQ0 cQ1 cQ2
    go_wp2_with fail
    refine (awake_any _).mono ?_
    rintro e yz ⟨rfl, hb⟩
    go_wp2_with fail
    go_ret
    exact ⟨rfl, HB.out.trans (hb.mono HB.out.size)⟩
  · have HNV := hide e1
    have HN := hide e2
    clear e1 e2
    have hc := next_any2 K.out.v ((l : Nat) : Int) day
    rw [HNV.out] at hc
    dsimp only at hc
    go_wp2_with fail
    refine (hc).mono ?_
    rintro e y3 ⟨rfl, hb⟩
    clear zK cK1 cK2 cK3 cK4 cK5 zQ cQ0 cQ1 cQ2
    have K := hide (K.out.next hb)
    have Q := hide (Q.out.next hb)
    have HB := hide (HB.out.trans (hb.mono HB.out.size))
    clear hb
    obtain ⟨zK, cK1, cK2, cK3, cK4, cK5⟩ := K.out.cells
    have zQ := Q.out.lt
    have cQ0 := Q.out.at_ 0
    have cQ1 := Q.out.at_ 1
    have cQ2 := Q.out.at_ 2
    simp only [List.getElem?_toArray, List.getElem?_cons_zero, List.getElem?_cons_succ] at cQ0 cQ1 cQ2
    go_wp2_with fail
    refine (truths7_any K.out.v HVL.out IntsS.nil_).mono ?_
    rintro e y4 ⟨AT, cT, rfl, hT, hb⟩
    clear zK cK1 cK2 cK3 cK4 cK5 zQ cQ0 cQ1 cQ2
    have K := hide (K.out.next hb)
    have Q := hide (Q.out.next hb)
    have HB := hide (HB.out.trans (hb.mono HB.out.size))
    clear hb
    have HT := hide hT
    clear hT
    obtain ⟨zK, cK1, cK2, cK3, cK4, cK5⟩ := K.out.cells
    have zQ := Q.out.lt
    have cQ0 := Q.out.at_ 0
    have cQ1 := Q.out.at_ 1
    have cQ2 := Q.out.at_ 2
    simp only [List.getElem?_toArray, List.getElem?_cons_zero, List.getElem?_cons_succ] at cQ0 cQ1 cQ2
    have hc := helps7_any K.out.v HVL.out ⟨l, (other : Nat), day⟩ HCI.out HT.out HPL.out H256.out
    go_wp2_with fail
    refine (hc).mono ?_
    rintro e y5 ⟨rfl, hb⟩
    clear zK cK1 cK2 cK3 cK4 cK5 zQ cQ0 cQ1 cQ2
    have K := hide (K.out.next hb)
    have Q := hide (Q.out.next hb)
    have HT := hide (HT.out.next hb)
    have HB := hide (HB.out.trans (hb.mono HB.out.size))
    clear hb
    obtain ⟨zK, cK1, cK2, cK3, cK4, cK5⟩ := K.out.cells
    have zQ := Q.out.lt
    have cQ0 := Q.out.at_ 0
    have cQ1 := Q.out.at_ 1
    have cQ2 := Q.out.at_ 2
    simp only [List.getElem?_toArray, List.getElem?_cons_zero, List.getElem?_cons_succ] at cQ0 cQ1 cQ2
    generalize helpsM f ⟨l, (other : Nat), day⟩ (truthsM f []) = n at *
    have HIN := hide (show inB ((party : Nat) : Int) 0 ((f.parties.length : Int) - 1) = true by rw [inB, decide_eq_true_eq]; omega)
    have hwp : IntKind.i64.wrap ((f.parties.length : Int) - 1) = (f.parties.length : Int) - 1 := IntWalk.i64_in _ (by omega)
    have HCP := hide (claim_in (f := f) (l := (l : Nat)) (day := day) (p := party) ⟨by omega, by omega⟩ ⟨hday0, by omega⟩ hp)
    have hn1 : ¬ ((helps : Nat) : Int) < 1 := by omega
    have hn2 : ¬ helps < 1 := by omega
    have hn3 : ¬ helps < n := by omega
    have hn4 : ¬ ((helps : Nat) : Int) < ((n : Nat) : Int) := by omega
    have hn5 : ¬ helps = 0 := by omega
    go_wp2_with fail
    refine (in_any _ _ _ _).mono ?_
    rintro e y6 ⟨rfl, rfl⟩
    rw [HIN.out]
    have hc := helps7_any K.out.v HVL.out ⟨l, (party : Nat), day⟩ HCP.out HT.out HPL.out H256.out
    rw [HN.out] at hc
    go_wp2_with fail
    refine (hc).mono ?_
    rintro e y7 ⟨rfl, hb⟩
    clear zK cK1 cK2 cK3 cK4 cK5 zQ cQ0 cQ1 cQ2
    have K := hide (K.out.next hb)
    have Q := hide (Q.out.next hb)
    have HT := hide (HT.out.next hb)
    have HB := hide (HB.out.trans (hb.mono HB.out.size))
    clear hb
    obtain ⟨zK, cK1, cK2, cK3, cK4, cK5⟩ := K.out.cells
    have zQ := Q.out.lt
    have cQ0 := Q.out.at_ 0
    have cQ1 := Q.out.at_ 1
    have cQ2 := Q.out.at_ 2
    simp only [List.getElem?_toArray, List.getElem?_cons_zero, List.getElem?_cons_succ] at cQ0 cQ1 cQ2
    cases hq : ((n : Int) == (helps : Int)) with
    | true =>
      have hnh : n = helps := by have := beq_iff_eq.1 hq; omega
      have hpo := e4 hnh
      have hnq : (n == helps) = true := by rw [hnh]; simp
      clear hnh
      have hn6 : ¬ ((other : Nat) : Int) < ((party : Nat) : Int) := by omega
      have hn7 : ¬ other < party := by omega
      cases hcl : ((f.claims.length : Int) == 5) with
      | true =>
        have hcl4 : (f.claims.length == 5) = true := by have := (beq_iff_eq).1 hcl; rw [beq_iff_eq]; omega
        go_wp2_with fail
        refine (awake_any _).mono ?_
        rintro e yz ⟨rfl, hb⟩
        go_wp2_with fail
        go_ret
        exact ⟨rfl, HB.out.trans (hb.mono HB.out.size)⟩
      | false =>
        have hcl5 : ¬ f.claims.length = 5 := by have := (beq_eq_false_iff_ne).1 hcl; omega
        have hcl4 : (f.claims.length == 5) = false := by simpa using hcl5
        obtain ⟨how, oo, oz, r1, r2, r3, r4, r5, r6, r7⟩ := e5 (by omega)
        have R1 := hide r1
        have R2 := hide r2
        have R3 := hide r3
        have R6 := hide r6
        have R7 := hide r7
        have hr4 : (how != 2) = true := by simpa using r4
        clear r1 r2 r3 r4 r6 r7
        go_upto_region 16 with (go_at_call 42; refine (more7_any K.out.v (by omega) ⟨l, (party : Nat), day⟩).mono ?_; rintro e y8 ⟨fb, rfl, hF, hb⟩)
        clear zK cK1 cK2 cK3 cK4 cK5 zQ cQ0 cQ1 cQ2
        have K := hide (K.out.next hb)
        have Q := hide (Q.out.next hb)
        have HT := hide (HT.out.next hb)
        have HB := hide (HB.out.trans (hb.mono HB.out.size))
        clear hb
        obtain ⟨zK, cK1, cK2, cK3, cK4, cK5⟩ := K.out.cells
        have zQ := Q.out.lt
        have cQ0 := Q.out.at_ 0
        have cQ1 := Q.out.at_ 1
        have cQ2 := Q.out.at_ 2
        simp only [List.getElem?_toArray, List.getElem?_cons_zero, List.getElem?_cons_succ] at cQ0 cQ1 cQ2
        clear zK cK1 cK2 cK3 cK4 cK5 zQ cQ0 cQ1 cQ2
        have Z := hide (BoxF.made hF)
        have hb : Below y8.heap.size y8 (y8.alloc (.cells (fileCells (moreF f ⟨l, (party : Nat), day⟩) fb) 28)) := (Below.refl _ _).alloc (Nat.le_refl _) _
        clear hF
        have K := hide (K.out.next hb)
        have Q := hide (Q.out.next hb)
        have HT := hide (HT.out.next hb)
        have HB := hide (HB.out.trans (hb.mono HB.out.size))
        clear hb
        generalize (y8.alloc (.cells (fileCells (moreF f ⟨l, (party : Nat), day⟩) fb) 28)) = y9 at *
        generalize moreF f ⟨l, (party : Nat), day⟩ = zf at *
        have hc := pays_any Z.out.v ((f.claims.length : Nat) : Int)
        rw [R1.out] at hc
        dsimp only at hc
        obtain ⟨zK, cK1, cK2, cK3, cK4, cK5⟩ := K.out.cells
        have zQ := Q.out.lt
        have cQ0 := Q.out.at_ 0
        have cQ1 := Q.out.at_ 1
        have cQ2 := Q.out.at_ 2
        simp only [List.getElem?_toArray, List.getElem?_cons_zero, List.getElem?_cons_succ] at cQ0 cQ1 cQ2
        obtain ⟨zZ, cZ1, cZ2, cZ3, cZ4, cZ5⟩ := Z.out.cells
        go_wp2_with fail
        refine (hc).mono ?_
        rintro e y10 ⟨rfl, hb⟩
        clear zK cK1 cK2 cK3 cK4 cK5 zQ cQ0 cQ1 cQ2 zZ cZ1 cZ2 cZ3 cZ4 cZ5
        have K := hide (K.out.next hb)
        have Q := hide (Q.out.next hb)
        have HT := hide (HT.out.next hb)
        have Z := hide (Z.out.next hb)
        have HB := hide (HB.out.trans (hb.mono HB.out.size))
        clear hb
        obtain ⟨zK, cK1, cK2, cK3, cK4, cK5⟩ := K.out.cells
        have zQ := Q.out.lt
        have cQ0 := Q.out.at_ 0
        have cQ1 := Q.out.at_ 1
        have cQ2 := Q.out.at_ 2
        simp only [List.getElem?_toArray, List.getElem?_cons_zero, List.getElem?_cons_succ] at cQ0 cQ1 cQ2
        obtain ⟨zZ, cZ1, cZ2, cZ3, cZ4, cZ5⟩ := Z.out.cells
        have hc := open_any K.out.v
        rw [R2.out] at hc
        dsimp only at hc
        go_wp2_with fail
        refine (hc).mono ?_
        rintro e y11 ⟨A11, q11, rfl, hi, hb⟩
        clear zK cK1 cK2 cK3 cK4 cK5 zQ cQ0 cQ1 cQ2 zZ cZ1 cZ2 cZ3 cZ4 cZ5
        have K := hide (K.out.next hb)
        have Q := hide (Q.out.next hb)
        have HT := hide (HT.out.next hb)
        have Z := hide (Z.out.next hb)
        have HB := hide (HB.out.trans (hb.mono HB.out.size))
        clear hb
        have J1 := hide hi
        clear hi
        obtain ⟨zK, cK1, cK2, cK3, cK4, cK5⟩ := K.out.cells
        have zQ := Q.out.lt
        have cQ0 := Q.out.at_ 0
        have cQ1 := Q.out.at_ 1
        have cQ2 := Q.out.at_ 2
        simp only [List.getElem?_toArray, List.getElem?_cons_zero, List.getElem?_cons_succ] at cQ0 cQ1 cQ2
        obtain ⟨zZ, cZ1, cZ2, cZ3, cZ4, cZ5⟩ := Z.out.cells
        have hc := open_any Z.out.v
        rw [R3.out] at hc
        dsimp only at hc
        go_wp2_with fail
        refine (hc).mono ?_
        rintro e y12 ⟨A12, q12, rfl, hi, hb⟩
        clear zK cK1 cK2 cK3 cK4 cK5 zQ cQ0 cQ1 cQ2 zZ cZ1 cZ2 cZ3 cZ4 cZ5
        have K := hide (K.out.next hb)
        have Q := hide (Q.out.next hb)
        have HT := hide (HT.out.next hb)
        have Z := hide (Z.out.next hb)
        have J1 := hide (J1.out.next hb)
        have HB := hide (HB.out.trans (hb.mono HB.out.size))
        clear hb
        have J2 := hide hi
        clear hi
        obtain ⟨zK, cK1, cK2, cK3, cK4, cK5⟩ := K.out.cells
        have zQ := Q.out.lt
        have cQ0 := Q.out.at_ 0
        have cQ1 := Q.out.at_ 1
        have cQ2 := Q.out.at_ 2
        simp only [List.getElem?_toArray, List.getElem?_cons_zero, List.getElem?_cons_succ] at cQ0 cQ1 cQ2
        obtain ⟨zZ, cZ1, cZ2, cZ3, cZ4, cZ5⟩ := Z.out.cells
        cases hb1 : (how == 1) with
        | true =>
          rw [hb1] at r5
          have hb2 : helps = (truthsM f []).length := by simpa using r5.symm
          have hb3 : (((helps : Nat) : Int) == (((truthsM f []).length : Nat) : Int)) = true := by rw [hb2]; simp
          have hb4 : (helps == (truthsM f []).length) = true := by rw [hb2]; simp
          clear hb2
          clear r5
          go_wp2_with fail
          refine (has_any J1.out ((l : Nat) : Int)).mono ?_
          rintro e y13 ⟨rfl, rfl⟩
          rw [R6.out]
          go_wp2_with fail
          refine (subset_any J2.out J1.out R7.out).mono ?_
          rintro e y14 ⟨rfl, rfl⟩
          go_wp2_with fail
          refine (awake_any _).mono ?_
          rintro e yz ⟨rfl, hb⟩
          go_wp2_with fail
          go_ret
          exact ⟨rfl, HB.out.trans (hb.mono HB.out.size)⟩
        | false =>
          rw [hb1] at r5
          have hb2 : ¬ helps = (truthsM f []).length := by simpa using r5.symm
          have hb3 : (((helps : Nat) : Int) == (((truthsM f []).length : Nat) : Int)) = false := by rw [beq_eq_false_iff_ne]; omega
          clear r5
          have hb4 : (helps == (truthsM f []).length) = false := by simpa using hb2
          go_wp2_with fail
          refine (has_any J1.out ((l : Nat) : Int)).mono ?_
          rintro e y13 ⟨rfl, rfl⟩
          rw [R6.out]
          go_wp2_with fail
          refine (subset_any J2.out J1.out R7.out).mono ?_
          rintro e y14 ⟨rfl, rfl⟩
          go_wp2_with fail
          refine (awake_any _).mono ?_
          rintro e yz ⟨rfl, hb⟩
          go_wp2_with fail
          go_ret
          exact ⟨rfl, HB.out.trans (hb.mono HB.out.size)⟩
    | false =>
      have hn8 : ¬ n = helps := by have := beq_eq_false_iff_ne.1 hq; omega
      have hn9 : (n == helps) = false := by simpa using hn8
      cases hcl : ((f.claims.length : Int) == 5) with
      | true =>
        have hcl4 : (f.claims.length == 5) = true := by have := (beq_iff_eq).1 hcl; rw [beq_iff_eq]; omega
        go_wp2_with fail
        refine (awake_any _).mono ?_
        rintro e yz ⟨rfl, hb⟩
        go_wp2_with fail
        go_ret
        exact ⟨rfl, HB.out.trans (hb.mono HB.out.size)⟩
      | false =>
        have hcl5 : ¬ f.claims.length = 5 := by have := (beq_eq_false_iff_ne).1 hcl; omega
        have hcl4 : (f.claims.length == 5) = false := by simpa using hcl5
        obtain ⟨how, oo, oz, r1, r2, r3, r4, r5, r6, r7⟩ := e5 (by omega)
        have R1 := hide r1
        have R2 := hide r2
        have R3 := hide r3
        have R6 := hide r6
        have R7 := hide r7
        have hr4 : (how != 2) = true := by simpa using r4
        clear r1 r2 r3 r4 r6 r7
        go_upto_region 16 with (go_at_call 42; refine (more7_any K.out.v (by omega) ⟨l, (party : Nat), day⟩).mono ?_; rintro e y8 ⟨fb, rfl, hF, hb⟩)
        clear zK cK1 cK2 cK3 cK4 cK5 zQ cQ0 cQ1 cQ2
        have K := hide (K.out.next hb)
        have Q := hide (Q.out.next hb)
        have HT := hide (HT.out.next hb)
        have HB := hide (HB.out.trans (hb.mono HB.out.size))
        clear hb
        obtain ⟨zK, cK1, cK2, cK3, cK4, cK5⟩ := K.out.cells
        have zQ := Q.out.lt
        have cQ0 := Q.out.at_ 0
        have cQ1 := Q.out.at_ 1
        have cQ2 := Q.out.at_ 2
        simp only [List.getElem?_toArray, List.getElem?_cons_zero, List.getElem?_cons_succ] at cQ0 cQ1 cQ2
        clear zK cK1 cK2 cK3 cK4 cK5 zQ cQ0 cQ1 cQ2
        have Z := hide (BoxF.made hF)
        have hb : Below y8.heap.size y8 (y8.alloc (.cells (fileCells (moreF f ⟨l, (party : Nat), day⟩) fb) 28)) := (Below.refl _ _).alloc (Nat.le_refl _) _
        clear hF
        have K := hide (K.out.next hb)
        have Q := hide (Q.out.next hb)
        have HT := hide (HT.out.next hb)
        have HB := hide (HB.out.trans (hb.mono HB.out.size))
        clear hb
        generalize (y8.alloc (.cells (fileCells (moreF f ⟨l, (party : Nat), day⟩) fb) 28)) = y9 at *
        generalize moreF f ⟨l, (party : Nat), day⟩ = zf at *
        have hc := pays_any Z.out.v ((f.claims.length : Nat) : Int)
        rw [R1.out] at hc
        dsimp only at hc
        obtain ⟨zK, cK1, cK2, cK3, cK4, cK5⟩ := K.out.cells
        have zQ := Q.out.lt
        have cQ0 := Q.out.at_ 0
        have cQ1 := Q.out.at_ 1
        have cQ2 := Q.out.at_ 2
        simp only [List.getElem?_toArray, List.getElem?_cons_zero, List.getElem?_cons_succ] at cQ0 cQ1 cQ2
        obtain ⟨zZ, cZ1, cZ2, cZ3, cZ4, cZ5⟩ := Z.out.cells
        go_wp2_with fail
        refine (hc).mono ?_
        rintro e y10 ⟨rfl, hb⟩
        clear zK cK1 cK2 cK3 cK4 cK5 zQ cQ0 cQ1 cQ2 zZ cZ1 cZ2 cZ3 cZ4 cZ5
        have K := hide (K.out.next hb)
        have Q := hide (Q.out.next hb)
        have HT := hide (HT.out.next hb)
        have Z := hide (Z.out.next hb)
        have HB := hide (HB.out.trans (hb.mono HB.out.size))
        clear hb
        obtain ⟨zK, cK1, cK2, cK3, cK4, cK5⟩ := K.out.cells
        have zQ := Q.out.lt
        have cQ0 := Q.out.at_ 0
        have cQ1 := Q.out.at_ 1
        have cQ2 := Q.out.at_ 2
        simp only [List.getElem?_toArray, List.getElem?_cons_zero, List.getElem?_cons_succ] at cQ0 cQ1 cQ2
        obtain ⟨zZ, cZ1, cZ2, cZ3, cZ4, cZ5⟩ := Z.out.cells
        have hc := open_any K.out.v
        rw [R2.out] at hc
        dsimp only at hc
        go_wp2_with fail
        refine (hc).mono ?_
        rintro e y11 ⟨A11, q11, rfl, hi, hb⟩
        clear zK cK1 cK2 cK3 cK4 cK5 zQ cQ0 cQ1 cQ2 zZ cZ1 cZ2 cZ3 cZ4 cZ5
        have K := hide (K.out.next hb)
        have Q := hide (Q.out.next hb)
        have HT := hide (HT.out.next hb)
        have Z := hide (Z.out.next hb)
        have HB := hide (HB.out.trans (hb.mono HB.out.size))
        clear hb
        have J1 := hide hi
        clear hi
        obtain ⟨zK, cK1, cK2, cK3, cK4, cK5⟩ := K.out.cells
        have zQ := Q.out.lt
        have cQ0 := Q.out.at_ 0
        have cQ1 := Q.out.at_ 1
        have cQ2 := Q.out.at_ 2
        simp only [List.getElem?_toArray, List.getElem?_cons_zero, List.getElem?_cons_succ] at cQ0 cQ1 cQ2
        obtain ⟨zZ, cZ1, cZ2, cZ3, cZ4, cZ5⟩ := Z.out.cells
        have hc := open_any Z.out.v
        rw [R3.out] at hc
        dsimp only at hc
        go_wp2_with fail
        refine (hc).mono ?_
        rintro e y12 ⟨A12, q12, rfl, hi, hb⟩
        clear zK cK1 cK2 cK3 cK4 cK5 zQ cQ0 cQ1 cQ2 zZ cZ1 cZ2 cZ3 cZ4 cZ5
        have K := hide (K.out.next hb)
        have Q := hide (Q.out.next hb)
        have HT := hide (HT.out.next hb)
        have Z := hide (Z.out.next hb)
        have J1 := hide (J1.out.next hb)
        have HB := hide (HB.out.trans (hb.mono HB.out.size))
        clear hb
        have J2 := hide hi
        clear hi
        obtain ⟨zK, cK1, cK2, cK3, cK4, cK5⟩ := K.out.cells
        have zQ := Q.out.lt
        have cQ0 := Q.out.at_ 0
        have cQ1 := Q.out.at_ 1
        have cQ2 := Q.out.at_ 2
        simp only [List.getElem?_toArray, List.getElem?_cons_zero, List.getElem?_cons_succ] at cQ0 cQ1 cQ2
        obtain ⟨zZ, cZ1, cZ2, cZ3, cZ4, cZ5⟩ := Z.out.cells
        cases hb1 : (how == 1) with
        | true =>
          rw [hb1] at r5
          have hb2 : helps = (truthsM f []).length := by simpa using r5.symm
          have hb3 : (((helps : Nat) : Int) == (((truthsM f []).length : Nat) : Int)) = true := by rw [hb2]; simp
          have hb4 : (helps == (truthsM f []).length) = true := by rw [hb2]; simp
          clear hb2
          clear r5
          go_wp2_with fail
          refine (has_any J1.out ((l : Nat) : Int)).mono ?_
          rintro e y13 ⟨rfl, rfl⟩
          rw [R6.out]
          go_wp2_with fail
          refine (subset_any J2.out J1.out R7.out).mono ?_
          rintro e y14 ⟨rfl, rfl⟩
          go_wp2_with fail
          refine (awake_any _).mono ?_
          rintro e yz ⟨rfl, hb⟩
          go_wp2_with fail
          go_ret
          exact ⟨rfl, HB.out.trans (hb.mono HB.out.size)⟩
        | false =>
          rw [hb1] at r5
          have hb2 : ¬ helps = (truthsM f []).length := by simpa using r5.symm
          have hb3 : (((helps : Nat) : Int) == (((truthsM f []).length : Nat) : Int)) = false := by rw [beq_eq_false_iff_ne]; omega
          clear r5
          have hb4 : (helps == (truthsM f []).length) = false := by simpa using hb2
          go_wp2_with fail
          refine (has_any J1.out ((l : Nat) : Int)).mono ?_
          rintro e y13 ⟨rfl, rfl⟩
          rw [R6.out]
          go_wp2_with fail
          refine (subset_any J2.out J1.out R7.out).mono ?_
          rintro e y14 ⟨rfl, rfl⟩
          go_wp2_with fail
          refine (awake_any _).mono ?_
          rintro e yz ⟨rfl, hb⟩
          go_wp2_with fail
          go_ret
          exact ⟨rfl, HB.out.trans (hb.mono HB.out.size)⟩
theorem claimNext_any {f : File} {fa : FA} {w : World} (h : FileV w w.heap.size f fa) (xa xb xc : Int) (hxa : 0 ≤ xa ∧ xa ≤ 255) (hxb : 0 ≤ xb ∧ xb ≤ 255) (hxc : 0 ≤ xc ∧ xc ≤ 255) :
    Calls Tryz.prog 9 #[fileVal f fa, .agg #[.int .u8 xa, .int .u8 xb, .int .u8 xc]] w fun e w' => e = .returned (.bool true) ∧ Below w.heap.size w w' := by
  by_cases hl : f.lots.length = 0
  · exact claimNext_bad h xa xb xc (.inr hl)
  · cases hs : someT f with
    | false => exact claimNext_bad h xa xb xc (.inl hs)
    | true => exact claimNext_ok h xa xb xc hxa hxb hxc hs (by omega)
end Go.Proofs.YtllmahcanipcpaaGreat
