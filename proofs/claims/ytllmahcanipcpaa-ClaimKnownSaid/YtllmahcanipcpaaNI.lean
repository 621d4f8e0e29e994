/- The contract of claim's enter: a looked-at file, or an error. -/
import Derived.Test.YtllmahcanipcpaaNH
set_option linter.unusedVariables false
set_option linter.unusedSimpArgs false
namespace Go.Proofs.Ytllmahcanipcpaa
open Go.RowKit
attribute [local go_sem ↓] Go.wp_at_zero Go.wp_at_succ

def enterE (f : File) (n below other : Int) : Int := if (checkM f).2.2 ≠ 0 then (checkM f).2.2 else if offP 0 (below - 1) n then 4 else if other ≠ 0 then other else if someB f 0 then 0 else 8
/-- What enter gives. -/
def EnterP (f : File) (a : FA) (n below other : Int) (w : World) (e : Ending) (w' : World) : Prop :=
  (enterE f n below other = 0 ∧ Valid f ∧ ∃ b bm, e = .returned (.tuple #[.pointer (some ⟨b, 0, none⟩), .int .i64 0]) ∧ w.heap.size ≤ b ∧ w.heap.size ≤ bm ∧ LookG w' w.heap.size b bm f a (0 : Nat) (paidV f) ∧ Below w.heap.size w w') ∨
  (enterE f n below other ≠ 0 ∧ e = .returned (.tuple #[.pointer none, .int .i64 (enterE f n below other)]) ∧ Below w.heap.size w w')
set_option maxHeartbeats 1600000 in
set_option maxRecDepth 100000 in
theorem enter_any {f : File} {a : FA} {w : World} (h : FileV w w.heap.size f a) (n below other : Int) (hbl : 0 ≤ below ∧ below ≤ 9223372036854775807) :
    Calls Try.prog 48 #[fileVal f a, .int .i64 n, .int .i64 below, .int .i64 other] w (EnterP f a n below other w) := by
  have hw1 : IntKind.i64.wrap (below - 1) = below - 1 := IntWalk.i64_in _ (by omega)
  have hB0 : Below w.heap.size w (w.alloc (.cells (fileCells f a) 28)) := (Below.refl _ _).alloc (Nat.le_refl _) _
  have bk : Blk (w.alloc (.cells (fileCells f a) 28)) w.heap.size 28 (fileCells f a) := Blk.made
  have HC0 := hide (h.next hB0)
  have H00 := hide h
  have HBK := hide bk
  have HB0 := hide hB0
  have hz := bk.lt
  have HE0 := hide (show enterE f n below other = if (checkM f).2.2 ≠ 0 then (checkM f).2.2 else if offP 0 (below - 1) n then 4 else if other ≠ 0 then other else if someB f 0 then 0 else 8 from rfl)
  clear h hB0 bk
  generalize hE : enterE f n below other = E at *
  have HE := hide hE
  clear hE
  go_enter Try.func48, Try.ntmps48
  go_upto_region 1 with (fail)
  generalize (w.alloc (.cells (fileCells f a) 28)) = w0 at *
  have p0 := HBK.out.at_ 0
  have p1 := HBK.out.at_ 1
  have p2 := HBK.out.at_ 2
  have p3 := HBK.out.at_ 3
  have p4 := HBK.out.at_ 4
  simp only [fileCells, List.getElem?_toArray, List.getElem?_cons_succ, List.getElem?_cons_zero] at p0 p1 p2 p3 p4
  cases hce : ((checkM f).2.2 != 0) with
  | true =>
    have hne : (checkM f).2.2 ≠ 0 := by simpa using hce
    have HX := hide (show E = (checkM f).2.2 by rw [HE0.out, if_pos hne])
    have HNE := hide hne
    clear hne
    go_wp2_with (go_at_call 8; refine (check_any HC0.out).mono ?_; rintro e w1 ⟨rfl, hb1⟩)
    go_ret2
    exact .inr ⟨by rw [HE.out, HX.out]; exact HNE.out, by rw [HE.out, HX.out]; rfl, HB0.out.trans (hb1.mono (by omega))⟩
  | false =>
    have hne : (checkM f).2.2 = 0 := by simpa using hce
    have HV := hide (valid_of hne)
    have HE1 := hide (show E = if offP 0 (below - 1) n then 4 else if other ≠ 0 then other else if someB f 0 then 0 else 8 by rw [HE0.out, if_neg (by simp [hne])])
    clear hne HE0
    go_upto_region 2 with (go_at_call 8; refine (check_any HC0.out).mono ?_; rintro e w1 ⟨rfl, hb1⟩)
    have HC1 := hide (HC0.out.next hb1)
    have HB1 := hide (HB0.out.trans (hb1.mono (by omega)))
    have HBK1 := hide (HBK.out.next hb1)
    clear hb1 p0 p1 p2 p3 p4 hz HC0 HB0 HBK
    cases hof : offP 0 (below - 1) n with
    | true =>
      have HX := hide (show E = 4 by rw [HE1.out, hof]; rfl)
      have HOF := hide hof
      clear hof
      go_wp2_with (go_at_call 33; refine (off_1 (by simp) _ _ _).mono ?_; rintro e w2 ⟨rfl, hb2⟩; rw [HOF.out])
      go_ret2
      exact .inr ⟨by rw [HE.out, HX.out]; decide, by rw [HE.out, HX.out]; rfl, HB1.out.trans (hb2.mono HB1.out.size)⟩
    | false =>
      have HE2 := hide (show E = if other ≠ 0 then other else if someB f 0 then 0 else 8 by rw [HE1.out, hof]; rfl)
      have HOF := hide hof
      clear hof HE1
      go_upto_region 6 with (go_at_call 33; refine (off_1 (by simp) _ _ _).mono ?_; rintro e w2 ⟨rfl, hb2⟩; rw [HOF.out])
      have HC2 := hide (HC1.out.next hb2)
      have HB2 := hide (HB1.out.trans (hb2.mono HB1.out.size))
      have HBK2 := hide (HBK1.out.next hb2)
      clear hb2 HC1 HB1 HBK1
      cases hot : (other != 0) with
      | true =>
        have hne : other ≠ 0 := by simpa using hot
        have HX := hide (show E = other by rw [HE2.out, if_pos hne])
        have HNE := hide hne
        clear hne
        go_wp2_with fail
        go_ret2
        exact .inr ⟨by rw [HE.out, HX.out]; exact HNE.out, by rw [HE.out, HX.out]; rfl, HB2.out⟩
      | false =>
        have hne : other = 0 := by simpa using hot
        have HE3 := hide (show E = if someB f 0 then 0 else 8 by rw [HE2.out, if_neg (by simp [hne])])
        clear hne HE2
        have p0 := HBK2.out.at_ 0
        have p1 := HBK2.out.at_ 1
        have p2 := HBK2.out.at_ 2
        have p3 := HBK2.out.at_ 3
        have p4 := HBK2.out.at_ 4
        simp only [fileCells, List.getElem?_toArray, List.getElem?_cons_succ, List.getElem?_cons_zero] at p0 p1 p2 p3 p4
        have hz := HBK2.out.lt
        have HL0 := hide (look_any (but := (0 : Nat)) HC2.out (paidV f))
        rw [show (((0 : Nat) : Int)) = 0 from rfl] at HL0
        cases hso : someB f 0 with
        | true =>
          have HX := hide (show E = 0 by rw [HE3.out, hso]; rfl)
          go_wp2_with (first
            | (go_at_call 62; refine HL0.out.mono ?_; rintro e w3 ⟨b, bm, rfl, hbb, hbm, hB3, hL3⟩)
            | (go_at_call 63; refine (some_any (but := 0) hL3.lookG HV.out (by omega)).mono ?_; rintro e w4 ⟨rfl, hk4, hn4⟩; rw [hso]))
          go_ret2
          have hz2 := HB2.out.size
          have hbd : Below w.heap.size w w4 := HB2.out.trans ((hB3.mono (by omega)).trans (hk4.below (fun k h => by omega) (by have := hB3.size; omega)))
          exact .inl ⟨by rw [HE.out, HX.out], HV.out, b, bm, rfl, by omega, by omega, (hL3.lookG.keep hk4 (fun k h => .inl h) hn4).less (H00.out.below hbd) hbd.size, hbd⟩
        | false =>
          have HX := hide (show E = 8 by rw [HE3.out, hso]; rfl)
          go_wp2_with (first
            | (go_at_call 62; refine HL0.out.mono ?_; rintro e w3 ⟨b, bm, rfl, hbb, hbm, hB3, hL3⟩)
            | (go_at_call 63; refine (some_any (but := 0) hL3.lookG HV.out (by omega)).mono ?_; rintro e w4 ⟨rfl, hk4, hn4⟩; rw [hso]))
          go_ret2
          have hz2 := HB2.out.size
          exact .inr ⟨by rw [HE.out, HX.out]; decide, by rw [HE.out, HX.out]; rfl, HB2.out.trans ((hB3.mono (by omega)).trans (hk4.below (fun k h => by omega) (by have := hB3.size; omega)))⟩
end Go.Proofs.Ytllmahcanipcpaa
