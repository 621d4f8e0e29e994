/- Contracts of the reference's First and Paid. -/
import Derived.Test.YtllmahcanipcpaaSG
import Derived.OwnWalkIn
import Derived.TacticsInMore
import Derived.Deep.DeepCutAuto
set_option linter.unusedVariables false
set_option linter.unusedSimpArgs false
namespace Go.Proofs.Ytllmahcanipcpaa
open Go.RowKit
attribute [local go_sem ↓] Go.wp_at_zero Go.wp_at_succ
attribute [local go_sem] Oper.semAt_some

theorem wpOp_valueD {P : Program} {ops : Array Oper} {Q : Exit → Act → World → Prop} {i d : Nat} {o : Oper} {K : Act → World → Prop} {a : Act} {W W' : World} {v : Value} (ho : ops[i]? = some o) (hg : o.guard = none) (hd : o.dst = some d) (hr : (execOp a.eval o).run P W = .ok (.value v) W') (hk : K (a.put (some d) v) W') : wpOp P ops Q i K a W :=
  wpOp_value ho hg hr (by rw [hd]; exact hk)
/-- What Paid and Settles ask of a file: it may have one claim more than Check lets by. -/
structure Fair (f : File) : Prop where
  untils : f.untils.length = f.parties.length
  claim : ∀ i, i < f.claims.length → 0 ≤ (nth f.claims i).lot ∧ (nth f.claims i).lot < f.lots.length ∧ 0 ≤ (nth f.claims i).against ∧ (nth f.claims i).against < f.parties.length ∧ 0 ≤ (nth f.claims i).day ∧ (nth f.claims i).day ≤ 60
theorem Valid.fair {f : File} (h : Valid f) : Fair f := ⟨h.untils, h.claim⟩
theorem firstTo_succ2 (f : File) (n k : Nat) : firstTo f n (k + 1) = (firstTo f n k && firstAt f n k) := by simp [firstTo, List.range_succ]
set_option maxHeartbeats 4000000 in
set_option maxRecDepth 100000 in
theorem first7_any {f : File} {fa : FA} {w : World} (h : FileV w w.heap.size f fa) {n : Nat} (hn : n < f.claims.length) :
    Calls Try.prog 24 #[fileVal f fa, .int .i64 (n : Nat)] w fun e w' => e = .returned (.bool (firstB f n)) ∧ Below w.heap.size w w' := by
  have HBX := hide (BoxF.made h)
  have HB0 : Hid (Below w.heap.size w (w.alloc (.cells (fileCells f fa) 28))) := hide ((Below.refl _ _).alloc (Nat.le_refl _) _)
  have hm5 := h.m5
  unfold maxLen at hm5
  clear h
  go_enter Try.func24, Try.ntmps24
  go_upto_region 1 with (fail)
  generalize (w.alloc (.cells (fileCells f fa) 28)) = w0 at *
  obtain ⟨hz, e1, e2, e3, e4, e5⟩ := HBX.out.cells
  obtain ⟨bc, oc, hA5, hbc, y0, y1, y2⟩ := HBX.out.v.claims.claims hn
  rw [hA5] at e5
  clear hA5
  have hn0 : (0 : Int) ≤ (n : Int) := Int.natCast_nonneg _
  have hn1 : (n : Int) < (f.claims.length : Int) := by omega
  go_upto_region 2 with (fail)
  have hb : Below w0.heap.size w0 (w0.alloc (.cells #[.int .i64 (nth f.claims n).lot, .int .i64 (nth f.claims n).against, .int .i64 (nth f.claims n).day] 52)) := (Below.refl _ _).alloc (Nat.le_refl _) _
  have HQ : Hid (Blk (w0.alloc (.cells #[.int .i64 (nth f.claims n).lot, .int .i64 (nth f.claims n).against, .int .i64 (nth f.claims n).day] 52)) w0.heap.size 52 #[.int .i64 (nth f.claims n).lot, .int .i64 (nth f.claims n).against, .int .i64 (nth f.claims n).day]) := hide Blk.made
  have HBX1 := hide (HBX.out.next hb)
  have HB1 := hide (HB0.out.trans (hb.mono HB0.out.size))
  clear hb e1 e2 e3 e4 e5 y0 y1 y2 hbc HBX HB0 hz
  generalize (w0.alloc (.cells #[.int .i64 (nth f.claims n).lot, .int .i64 (nth f.claims n).against, .int .i64 (nth f.claims n).day] 52)) = w1 at *
  have HFB := hide (show firstB f n = firstTo f n f.claims.length from rfl)
  have HF0 := hide (show firstTo f n 0 = true from rfl)
  have HSS := hide (firstTo_succ2 f n)
  have HAT := hide (fun k : Nat => show firstAt f n k = !((nth f.claims k).lot == (nth f.claims n).lot && (nth f.claims k).against == (nth f.claims n).against && (decide ((nth f.claims k).day < (nth f.claims n).day) || ((nth f.claims k).day == (nth f.claims n).day && decide (k < n)))) from rfl)
  generalize nth f.claims n = cn at *
  obtain ⟨cl, ca, cd⟩ := cn
  dsimp only at *
  go_wp2_with fail
  go_loopw [6, 7, 8, 9] (fun v6 v7 _ _ wr => ∃ k : Nat, k ≤ f.claims.length ∧ v7 = .int .i64 k ∧ v6 = .bool (firstTo f n k) ∧ Below w1.heap.size w1 wr) (fun _ v7 _ _ _ => f.claims.length - (intOf v7).toNat)
  case atStart => exact ⟨0, Nat.zero_le _, rfl, by rw [HF0.out], Below.refl _ _⟩
  case round =>
    obtain ⟨k, hk, rfl, rfl, hB⟩ := hrel
    have hk0 : (0 : Int) ≤ (k : Int) := Int.natCast_nonneg _
    have HBr := hide (HBX1.out.next hB)
    have HQr := hide (HQ.out.next hB)
    obtain ⟨hz, e1, e2, e3, e4, e5⟩ := HBr.out.cells
    have hzr := hB.size
    by_cases hlt : k < f.claims.length
    · have hk1 : (k : Int) < (f.claims.length : Int) := by omega
      obtain ⟨bx, ox, hA5, hbx, y0, y1, y2⟩ := HBr.out.v.claims.claims hlt
      rw [hA5] at e5
      clear hA5
      have HB := hide hB
      clear hB
      have HSU := hide (HSS.out k)
      have HAK := hide (HAT.out k)
      go_upto_region 7 with (fail)
      have hb : Below wr.heap.size wr (wr.alloc (.cells #[.int .i64 (nth f.claims k).lot, .int .i64 (nth f.claims k).against, .int .i64 (nth f.claims k).day] 52)) := (Below.refl _ _).alloc (Nat.le_refl _) _
      have q : Blk (wr.alloc (.cells #[.int .i64 (nth f.claims k).lot, .int .i64 (nth f.claims k).against, .int .i64 (nth f.claims k).day] 52)) wr.heap.size 52 #[.int .i64 (nth f.claims k).lot, .int .i64 (nth f.claims k).against, .int .i64 (nth f.claims k).day] := Blk.made
      have q2 := HQr.out.next hb
      have HBZ := hide (HB.out.trans (hb.mono hzr))
      clear hb e1 e2 e3 e4 e5 y0 y1 y2 hbx
      generalize (wr.alloc (.cells #[.int .i64 (nth f.claims k).lot, .int .i64 (nth f.claims k).against, .int .i64 (nth f.claims k).day] 52)) = w2 at *
      generalize nth f.claims k = cx at *
      obtain ⟨xl, xa, xd⟩ := cx
      dsimp only at *
      have x0 := q.at_ 0
      have x1 := q.at_ 1
      have x2 := q.at_ 2
      have r0 := q2.at_ 0
      have r1 := q2.at_ 1
      have r2 := q2.at_ 2
      simp only [List.getElem?_toArray, List.getElem?_cons_zero, List.getElem?_cons_succ] at x0 x1 x2 r0 r1 r2
      have hzx := q.lt
      have hzq := q2.lt
      clear q q2
      cases hI : firstTo f n k with
      | false =>
        have HX := hide (show firstTo f n (k + 1) = false by rw [HSU.out, hI]; rfl)
        clear hI
        by_cases hd : xd < cd
        · have hd1 : decide (xd < cd) = true := by simpa using hd
          go_wp2_with fail
          go_roundw
          case rel => exact ⟨k + 1, by omega, by go_num, by rw [HX.out], HBZ.out⟩
          case measure => simp [intOf]; omega
        · by_cases hde : xd = cd
          · have hd1 : decide (xd < cd) = false := by simp [hd]
            have hd2 : (xd == cd) = true := by simpa using hde
            go_wp2_with fail
            go_roundw
            case rel => exact ⟨k + 1, by omega, by go_num, by rw [HX.out], HBZ.out⟩
            case measure => simp [intOf]; omega
          · have hd1 : decide (xd < cd) = false := by simp [hd]
            have hd2 : (xd == cd) = false := by simpa using hde
            go_wp2_with fail
            go_roundw
            case rel => exact ⟨k + 1, by omega, by go_num, by rw [HX.out], HBZ.out⟩
            case measure => simp [intOf]; omega
      | true =>
        have HX := hide (show firstTo f n (k + 1) = firstAt f n k by rw [HSU.out, hI]; rfl)
        clear hI
        cases hL : (xl == cl) with
        | false =>
          have hL2 : (xl != cl) = true := by rw [bne, hL]; rfl
          have HX := hide (show firstTo f n (k + 1) = true by rw [HX.out, HAK.out, hL]; rfl)
          by_cases hd : xd < cd
          · have hd1 : decide (xd < cd) = true := by simpa using hd
            go_wp2_with fail
            go_roundw
            case rel => exact ⟨k + 1, by omega, by go_num, by rw [HX.out], HBZ.out⟩
            case measure => simp [intOf]; omega
          · by_cases hde : xd = cd
            · have hd1 : decide (xd < cd) = false := by simp [hd]
              have hd2 : (xd == cd) = true := by simpa using hde
              go_wp2_with fail
              go_roundw
              case rel => exact ⟨k + 1, by omega, by go_num, by rw [HX.out], HBZ.out⟩
              case measure => simp [intOf]; omega
            · have hd1 : decide (xd < cd) = false := by simp [hd]
              have hd2 : (xd == cd) = false := by simpa using hde
              go_wp2_with fail
              go_roundw
              case rel => exact ⟨k + 1, by omega, by go_num, by rw [HX.out], HBZ.out⟩
              case measure => simp [intOf]; omega
        | true =>
          have hL2 : (xl != cl) = false := by rw [bne, hL]; rfl
          cases hM : (xa == ca) with
          | false =>
            have hM2 : (xa != ca) = true := by rw [bne, hM]; rfl
            have HX := hide (show firstTo f n (k + 1) = true by rw [HX.out, HAK.out, hL, hM]; rfl)
            by_cases hd : xd < cd
            · have hd1 : decide (xd < cd) = true := by simpa using hd
              go_wp2_with fail
              go_roundw
              case rel => exact ⟨k + 1, by omega, by go_num, by rw [HX.out], HBZ.out⟩
              case measure => simp [intOf]; omega
            · by_cases hde : xd = cd
              · have hd1 : decide (xd < cd) = false := by simp [hd]
                have hd2 : (xd == cd) = true := by simpa using hde
                go_wp2_with fail
                go_roundw
                case rel => exact ⟨k + 1, by omega, by go_num, by rw [HX.out], HBZ.out⟩
                case measure => simp [intOf]; omega
              · have hd1 : decide (xd < cd) = false := by simp [hd]
                have hd2 : (xd == cd) = false := by simpa using hde
                go_wp2_with fail
                go_roundw
                case rel => exact ⟨k + 1, by omega, by go_num, by rw [HX.out], HBZ.out⟩
                case measure => simp [intOf]; omega
          | true =>
            have hM2 : (xa != ca) = false := by rw [bne, hM]; rfl
            have HX := hide (show firstTo f n (k + 1) = !(decide (xd < cd) || ((xd == cd) && decide (k < n))) by rw [HX.out, HAK.out, hL, hM]; rfl)
            have hc : decide ((k : Int) < (n : Int)) = decide (k < n) := by simp
            by_cases hd : xd < cd
            · have hd1 : decide (xd < cd) = true := by simpa using hd
              go_wp2_with fail
              go_roundw
              case rel => exact ⟨k + 1, by omega, by go_num, by rw [HX.out, hd1]; simp, HBZ.out⟩
              case measure => simp [intOf]; omega
            · by_cases hde : xd = cd
              · have hd1 : decide (xd < cd) = false := by simp [hd]
                have hd2 : (xd == cd) = true := by simpa using hde
                go_wp2_with fail
                go_roundw
                case rel => exact ⟨k + 1, by omega, by go_num, by rw [HX.out, hd1, hd2]; simp, HBZ.out⟩
                case measure => simp [intOf]; omega
              · have hd1 : decide (xd < cd) = false := by simp [hd]
                have hd2 : (xd == cd) = false := by simpa using hde
                go_wp2_with fail
                go_roundw
                case rel => exact ⟨k + 1, by omega, by go_num, by rw [HX.out, hd1, hd2]; simp, HBZ.out⟩
                case measure => simp [intOf]; omega
    · have hkk : k = f.claims.length := by omega
      have HX := hide (show firstTo f n k = firstB f n by rw [HFB.out, hkk])
      clear hkk
      go_wp2_with fail
      go_ret
      exact ⟨by rw [HX.out]; rfl, HB1.out.trans (hB.mono HB1.out.size)⟩
end Go.Proofs.Ytllmahcanipcpaa
