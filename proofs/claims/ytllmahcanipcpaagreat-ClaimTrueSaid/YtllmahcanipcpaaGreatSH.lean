/- Contracts of the reference's First and Paid. -/
import Derived.Test.YtllmahcanipcpaaGreatSG
import Derived.OwnWalkIn
import Derived.TacticsInMore
import Derived.Deep.DeepCutAuto
set_option linter.unusedVariables false
set_option linter.unusedSimpArgs false
namespace Go.Proofs.YtllmahcanipcpaaGreat
open Go.RowKit
attribute [local go_sem ↓] Go.wp_at_zero Go.wp_at_succ
attribute [local go_sem] Oper.semAt_some

theorem wpOp_valueD {P : Program} {ops : Array Oper} {Q : Exit → Act → World → Prop} {i d : Nat} {o : Oper} {K : Act → World → Prop} {a : Act} {W W' : World} {v : Value} (ho : ops[i]? = some o) (hg : o.guard = none) (hd : o.dst = some d) (hr : (execOp a.eval o).run P W = .ok (.value v) W') (hk : K (a.put (some d) v) W') : wpOp P ops Q i K a W :=
  wpOp_value ho hg hr (by rw [hd]; exact hk)
/-- What Paid and Settles ask of a file: it may have one claim more than Check lets by. -/
structure Fair (f : File) : Prop where
  untils : f.untils.length = f.parties.length
  claim : ∀ i, i < f.claims.length → 0 ≤ (nth f.claims i).lot ∧ (nth f.claims i).lot < f.lots.length ∧ 0 ≤ (nth f.claims i).against ∧ (nth f.claims i).against < f.parties.length ∧ 0 ≤ (nth f.claims i).day ∧ (nth f.claims i).day ≤ 60
theorem Valid.fair {f : File} (h : Valid f) : Fair f := ⟨h.untils, h.claim⟩
theorem firstTo_succ2 (f : File) (n k : Nat) : firstTo f n (k + 1) = (firstTo f n k && firstAt f n k) := by simp [firstTo, List.range_succ]
set_option maxHeartbeats 4000000 in
set_option maxRecDepth 100000 in
theorem first7_any {f : File} {fa : FA} {w : World} (h : FileV w w.heap.size f fa) {n : Nat} (hn : n < f.claims.length) :
    Calls Tryz.prog 69 #[fileVal f fa, .int .i64 (n : Nat)] w fun e w' => e = .returned (.bool (firstB f n)) ∧ Below w.heap.size w w' := by
  have HBX := hide (BoxF.made h)
  have HB0 : Hid (Below w.heap.size w (w.alloc (.cells (fileCells f fa) 28))) := hide ((Below.refl _ _).alloc (Nat.le_refl _) _)
  have hm5 := h.m5
  unfold maxLen at hm5
  clear h
  go_enter Tryz.func69, Tryz.ntmps69
  go_upto_region 1 with (fail)
  generalize (w.alloc (.cells (fileCells f fa) 28)) = w0 at *
  obtain ⟨hz, e1, e2, e3, e4, e5⟩ := HBX.out.cells
  obtain ⟨bc, oc, hA5, hbc, y0, y1, y2⟩ := HBX.out.v.claims.claims hn
  rw [hA5] at e5
  clear hA5
  have hn0 : (0 : Int) ≤ (n : Int) := Int.natCast_nonneg _
  have hn1 : (n : Int) < (f.claims.length : Int) := by omega
  go_upto_region 2 with (fail)
  have hb : Below w0.heap.size w0 (w0.alloc (.cells #[.int .i64 (nth f.claims n).lot, .int .i64 (nth f.claims n).against, .int .i64 (nth f.claims n).day] 59)) := (Below.refl _ _).alloc (Nat.le_refl _) _
  have HQ : Hid (Blk (w0.alloc (.cells #[.int .i64 (nth f.claims n).lot, .int .i64 (nth f.claims n).against, .int .i64 (nth f.claims n).day] 59)) w0.heap.size 59 #[.int .i64 (nth f.claims n).lot, .int .i64 (nth f.claims n).against, .int .i64 (nth f.claims n).day]) := hide Blk.made
  have HBX1 := hide (HBX.out.next hb)
  have HB1 := hide (HB0.out.trans (hb.mono HB0.out.size))
  clear hb e1 e2 e3 e4 e5 y0 y1 y2 hbc HBX HB0 hz
  generalize (w0.alloc (.cells #[.int .i64 (nth f.claims n).lot, .int .i64 (nth f.claims n).against, .int .i64 (nth f.claims n).day] 59)) = w1 at *
  have HFB := hide (show firstB f n = firstTo f n f.claims.length from rfl)
  have HF0 := hide (show firstTo f n 0 = true from rfl)
  have HSS := hide (firstTo_succ2 f n)
  have HAT := hide (fun k : Nat => show firstAt f n k = !((nth f.claims k).lot == (nth f.claims n).lot && (nth f.claims k).against == (nth f.claims n).against && (decide ((nth f.claims k).day < (nth f.claims n).day) || ((nth f.claims k).day == (nth f.claims n).day && decide (k < n)))) from rfl)
  generalize nth f.claims n = cn at *
  obtain ⟨cl, ca, cd⟩ := cn
  dsimp only at *
  go_wp2_with fail
  go_loopw [6, 7, 8, 9] (fun v6 v7 _ _ wr => ∃ k : Nat, k ≤ f.claims.length ∧ v7 = .int .i64 k ∧ v6 = .bool (firstTo f n k) ∧ Below w1.heap.size w1 wr) (fun _ v7 _ _ _ => f.claims.length - (intOf v7).toNat)
  case atStart => exact ⟨0, Nat.zero_le _, rfl, by rw [HF0.out], Below.refl _ _⟩
  case round =>
    obtain ⟨k, hk, rfl, rfl, hB⟩ := hrel
    have hk0 : (0 : Int) ≤ (k : Int) := Int.natCast_nonneg _
    have HBr := hide (HBX1.out.next hB)
    have HQr := hide (HQ.out.next hB)
    obtain ⟨hz, e1, e2, e3, e4, e5⟩ := HBr.out.cells
    have hzr := hB.size
    by_cases hlt : k < f.claims.length
    · have hk1 : (k : Int) < (f.claims.length : Int) := by omega
      obtain ⟨bx, ox, hA5, hbx, y0, y1, y2⟩ := HBr.out.v.claims.claims hlt
      rw [hA5] at e5
      clear hA5
      have HB := hide hB
      clear hB
      have HSU := hide (HSS.out k)
      have HAK := hide (HAT.out k)
      go_upto_region 7 with (fail)
      have hb : Below wr.heap.size wr (wr.alloc (.cells #[.int .i64 (nth f.claims k).lot, .int .i64 (nth f.claims k).against, .int .i64 (nth f.claims k).day] 59)) := (Below.refl _ _).alloc (Nat.le_refl _) _
      have q : Blk (wr.alloc (.cells #[.int .i64 (nth f.claims k).lot, .int .i64 (nth f.claims k).against, .int .i64 (nth f.claims k).day] 59)) wr.heap.size 59 #[.int .i64 (nth f.claims k).lot, .int .i64 (nth f.claims k).against, .int .i64 (nth f.claims k).day] := Blk.made
      have q2 := HQr.out.next hb
      have HBZ := hide (HB.out.trans (hb.mono hzr))
      clear hb e1 e2 e3 e4 e5 y0 y1 y2 hbx
      generalize (wr.alloc (.cells #[.int .i64 (nth f.claims k).lot, .int .i64 (nth f.claims k).against, .int .i64 (nth f.claims k).day] 59)) = w2 at *
      generalize nth f.claims k = cx at *
      obtain ⟨xl, xa, xd⟩ := cx
      dsimp only at *
      have x0 := q.at_ 0
      have x1 := q.at_ 1
      have x2 := q.at_ 2
      have r0 := q2.at_ 0
      have r1 := q2.at_ 1
      have r2 := q2.at_ 2
      simp only [List.getElem?_toArray, List.getElem?_cons_zero, List.getElem?_cons_succ] at x0 x1 x2 r0 r1 r2
      have hzx := q.lt
      have hzq := q2.lt
      clear q q2
      cases hI : firstTo f n k with
      | false =>
        have HX := hide (show firstTo f n (k + 1) = false by rw [HSU.out, hI]; rfl)
        clear hI
        by_cases hd : xd < cd
        · have hd1 : decide (xd < cd) = true := by simpa using hd
          go_wp2_with fail
          go_roundw
          case rel => exact ⟨k + 1, by omega, by go_num, by rw [HX.out], HBZ.out⟩
          case measure => simp [intOf]; omega
        · by_cases hde : xd = cd
          · have hd1 : decide (xd < cd) = false := by simp [hd]
            have hd2 : (xd == cd) = true := by simpa using hde
            go_wp2_with fail
            go_roundw
            case rel => exact ⟨k + 1, by omega, by go_num, by rw [HX.out], HBZ.out⟩
            case measure => simp [intOf]; omega
          · have hd1 : decide (xd < cd) = false := by simp [hd]
            have hd2 : (xd == cd) = false := by simpa using hde
            go_wp2_with fail
            go_roundw
            case rel => exact ⟨k + 1, by omega, by go_num, by rw [HX.out], HBZ.out⟩
            case measure => simp [intOf]; omega
      | true =>
        have HX := hide (show firstTo f n (k + 1) = firstAt f n k by rw [HSU.out, hI]; rfl)
        clear hI
        cases hL : (xl == cl) with
        | false =>
          have hL2 : (xl != cl) = true := by rw [bne, hL]; rfl
          have HX := hide (show firstTo f n (k + 1) = true by rw [HX.out, HAK.out, hL]; rfl)
          by_cases hd : xd < cd
          · have hd1 : decide (xd < cd) = true := by simpa using hd
            go_wp2_with fail
            go_roundw
            case rel => exact ⟨k + 1, by omega, by go_num, by rw [HX.out], HBZ.out⟩
            case measure => simp [intOf]; omega
          · by_cases hde : xd = cd
            · have hd1 : decide (xd < cd) = false := by simp [hd]
              have hd2 : (xd == cd) = true := by simpa using hde
              go_wp2_with fail
              go_roundw
              case rel => exact ⟨k + 1, by omega, by go_num, by rw [HX.out], HBZ.out⟩
              case measure => simp [intOf]; omega
            · have hd1 : decide (xd < cd) = false := by simp [hd]
              have hd2 : (xd == cd) = false := by simpa using hde
              go_wp2_with fail
              go_roundw
              case rel => exact ⟨k + 1, by omega, by go_num, by rw [HX.out], HBZ.out⟩
              case measure => simp [intOf]; omega
        | true =>
          have hL2 : (xl != cl) = false := by rw [bne, hL]; rfl
          cases hM : (xa == ca) with
          | false =>
            have hM2 : (xa != ca) = true := by rw [bne, hM]; rfl
            have HX := hide (show firstTo f n (k + 1) = true by rw [HX.out, HAK.out, hL, hM]; rfl)
            by_cases hd : xd < cd
            · have hd1 : decide (xd < cd) = true := by simpa using hd
              go_wp2_with fail
              go_roundw
              case rel => exact ⟨k + 1, by omega, by go_num, by rw [HX.out], HBZ.out⟩
              case measure => simp [intOf]; omega
            · by_cases hde : xd = cd
              · have hd1 : decide (xd < cd) = false := by simp [hd]
                have hd2 : (xd == cd) = true := by simpa using hde
                go_wp2_with fail
                go_roundw
                case rel => exact ⟨k + 1, by omega, by go_num, by rw [HX.out], HBZ.out⟩
                case measure => simp [intOf]; omega
              · have hd1 : decide (xd < cd) = false := by simp [hd]
                have hd2 : (xd == cd) = false := by simpa using hde
                go_wp2_with fail
                go_roundw
                case rel => exact ⟨k + 1, by omega, by go_num, by rw [HX.out], HBZ.out⟩
                case measure => simp [intOf]; omega
          | true =>
            have hM2 : (xa != ca) = false := by rw [bne, hM]; rfl
            have HX := hide (show firstTo f n (k + 1) = !(decide (xd < cd) || ((xd == cd) && decide (k < n))) by rw [HX.out, HAK.out, hL, hM]; rfl)
            have hc : decide ((k : Int) < (n : Int)) = decide (k < n) := by simp
            by_cases hd : xd < cd
            · have hd1 : decide (xd < cd) = true := by simpa using hd
              go_wp2_with fail
              go_roundw
              case rel => exact ⟨k + 1, by omega, by go_num, by rw [HX.out, hd1]; simp, HBZ.out⟩
              case measure => simp [intOf]; omega
            · by_cases hde : xd = cd
              · have hd1 : decide (xd < cd) = false := by simp [hd]
                have hd2 : (xd == cd) = true := by simpa using hde
                go_wp2_with fail
                go_roundw
                case rel => exact ⟨k + 1, by omega, by go_num, by rw [HX.out, hd1, hd2]; simp, HBZ.out⟩
                case measure => simp [intOf]; omega
              · have hd1 : decide (xd < cd) = false := by simp [hd]
                have hd2 : (xd == cd) = false := by simpa using hde
                go_wp2_with fail
                go_roundw
                case rel => exact ⟨k + 1, by omega, by go_num, by rw [HX.out, hd1, hd2]; simp, HBZ.out⟩
                case measure => simp [intOf]; omega
    · have hkk : k = f.claims.length := by omega
      have HX := hide (show firstTo f n k = firstB f n by rw [HFB.out, hkk])
      clear hkk
      go_wp2_with fail
      go_ret
      exact ⟨by rw [HX.out]; rfl, HB1.out.trans (hB.mono HB1.out.size)⟩
set_option maxHeartbeats 4000000 in
set_option maxRecDepth 100000 in
theorem paid7_any {f : File} {fa : FA} {w : World} {A : Option Addr} {N c : Nat} {p : List Int} (h : FileV w w.heap.size f fa) (hv : Fair f) (hp : IntsS w w.heap.size A N c p) (hP : Pl f p) {n : Nat} (hn : n < f.claims.length) :
    Calls Tryz.prog 34 #[fileVal f fa, .int .i64 (n : Nat), .slice A N c] w fun e w' => e = .returned (.bool (paidB f p n)) ∧ Below w.heap.size w w' := by
  have HBX := hide (BoxF.made h)
  have HB0 : Hid (Below w.heap.size w (w.alloc (.cells (fileCells f fa) 28))) := hide ((Below.refl _ _).alloc (Nat.le_refl _) _)
  have HP0 := hide (hp.next HB0.out)
  have HPL := hide hP
  have hm5 := h.m5
  have hm2 := h.m2
  unfold maxLen at hm5 hm2
  have hcl := hv.claim n hn
  have HUL := hide hv.untils
  clear h hp hP hv
  go_enter Tryz.func34, Tryz.ntmps34
  go_upto_region 1 with (fail)
  generalize (w.alloc (.cells (fileCells f fa) 28)) = w0 at *
  obtain ⟨hz, e1, e2, e3, e4, e5⟩ := HBX.out.cells
  obtain ⟨bc, oc, hA5, hbc, y0, y1, y2⟩ := HBX.out.v.claims.claims hn
  rw [hA5] at e5
  clear hA5
  have hn0 : (0 : Int) ≤ (n : Int) := Int.natCast_nonneg _
  have hn1 : (n : Int) < (f.claims.length : Int) := by omega
  go_upto_region 2 with (fail)
  have hb : Below w0.heap.size w0 (w0.alloc (.cells #[.int .i64 (nth f.claims n).lot, .int .i64 (nth f.claims n).against, .int .i64 (nth f.claims n).day] 59)) := (Below.refl _ _).alloc (Nat.le_refl _) _
  have hq : Blk (w0.alloc (.cells #[.int .i64 (nth f.claims n).lot, .int .i64 (nth f.claims n).against, .int .i64 (nth f.claims n).day] 59)) w0.heap.size 59 #[.int .i64 (nth f.claims n).lot, .int .i64 (nth f.claims n).against, .int .i64 (nth f.claims n).day] := Blk.made
  have HBX1 := hide (HBX.out.next hb)
  have HP1 := hide (HP0.out.next hb)
  have HB1 := hide (HB0.out.trans (hb.mono HB0.out.size))
  clear hb e1 e2 e3 e4 e5 y0 y1 y2 hbc HBX HB0 hz HP0
  generalize (w0.alloc (.cells #[.int .i64 (nth f.claims n).lot, .int .i64 (nth f.claims n).against, .int .i64 (nth f.claims n).day] 59)) = w1 at *
  have HPB := hide (show paidB f p n = (withM f p (nth f.claims n).lot.toNat == (nth f.claims n).against && decide ((nth f.claims n).day ≤ nth f.untils (nth f.claims n).against.toNat) && firstB f n) from rfl)
  generalize nth f.claims n = cn at *
  obtain ⟨cl, ca, cd⟩ := cn
  dsimp only at *
  obtain ⟨hl0, hl1, ha0, ha1, -, -⟩ := hcl
  obtain ⟨cl, rfl⟩ : ∃ k : Nat, cl = k := ⟨cl.toNat, by omega⟩
  obtain ⟨ca, rfl⟩ : ∃ k : Nat, ca = k := ⟨ca.toNat, by omega⟩
  simp only [Int.toNat_natCast] at HPB
  have hcl : cl < f.lots.length := by omega
  have hca : ca < f.untils.length := by have := HUL.out; omega
  have hca1 : (ca : Int) < (f.untils.length : Int) := by omega
  have r0 := hq.at_ 0
  have r1 := hq.at_ 1
  have r2 := hq.at_ 2
  simp only [List.getElem?_toArray, List.getElem?_cons_zero, List.getElem?_cons_succ] at r0 r1 r2
  have hzq := hq.lt
  clear hq
  obtain ⟨hz, e1, e2, e3, e4, e5⟩ := HBX1.out.cells
  obtain ⟨bu, ou, hA2, hbu, yu⟩ := HBX1.out.v.untils.ints hca
  have HE2 := hide (e2.trans (by rw [hA2]) : w1.cell? ⟨w.heap.size, 1, none⟩ = some (.slice (some ⟨bu, ou, none⟩) f.untils.length fa.c2))
  clear hA2
  have HFN := hide (fun (W : World) (hh : FileV W W.heap.size f fa) => first7_any hh hn)
  generalize hWM : withM f p cl = wm at *
  have HWM := hide hWM
  clear hWM
  cases hq : (wm == (ca : Int)) with
  | false =>
    have HX := hide (show paidB f p n = false by rw [HPB.out, hq]; rfl)
    go_wp2_with fail
    refine wp_region_rel (dst := fun oi => [13, 14, 15, 16, 17, 18, 19, 20, 21, 22, 23, 24, 25, 26, 27, 28, 29, 30, 31, 32, 33, 34, 35, 36, 0].getD oi 0) (mono := fun oi => decide (oi < 24)) (pre := fun oi => decide (oi < 24)) (R := LKeep (fun _ => False) (fun _ => True))
      (Pv := fun oi v W => match oi with
        | 0 => v = fileVal f fa
        | 1 => v = .slice A N c
        | 2 => v = .pointer (some ⟨w0.heap.size, 0, none⟩)
        | 3 => v = .int .i64 (cl : Nat)
        | 4 => v = .int .i64 wm
        | 5 => v = .pointer (some ⟨w0.heap.size, 1, none⟩)
        | 6 => v = .int .i64 (ca : Nat)
        | 7 => v = .bool false
        | 8 => v = .bool false
        | 9 => v = undef
        | 10 => v = undef
        | 11 => v = undef
        | 12 => v = undef
        | 13 => v = undef
        | 14 => v = undef
        | 15 => v = undef
        | 16 => v = undef
        | 17 => v = undef
        | 18 => v = .bool false
        | 19 => v = .bool false
        | 20 => v = undef
        | 21 => v = undef
        | 22 => v = undef
        | 23 => v = .bool false
        | _ => True) (by kernel_rfl) (by kernel_rfl) (LKeep.refl _ _) (fun _ _ _ h h' => h.trans h') ?hstA ?hstepA ?hendA
    case hstA =>
      intro oi v W W' h hk
      match oi, h with
      | 0, h => exact h
      | 1, h => exact h
      | 2, h => exact h
      | 3, h => exact h
      | 4, h => exact h
      | 5, h => exact h
      | 6, h => exact h
      | 7, h => exact h
      | 8, h => exact h
      | 9, h => exact h
      | 10, h => exact h
      | 11, h => exact h
      | 12, h => exact h
      | 13, h => exact h
      | 14, h => exact h
      | 15, h => exact h
      | 16, h => exact h
      | 17, h => exact h
      | 18, h => exact h
      | 19, h => exact h
      | 20, h => exact h
      | 21, h => exact h
      | 22, h => exact h
      | 23, h => exact h
      | oi + 24, h => exact trivial
    case hstepA =>
      intro oi hoi hom listed vs ao W hU hk0 hpv haft Ko hK
      have hkk := (LKeep.drew (fun _ => False) (M := fun _ => True) w1 (fun h => h)).trans hk0
      have hk := hkk.1
      have hkm := hkk.2
      clear hkk
      match oi, hoi, hom with
      | 0, hoi, hom =>
        have z3 : ao.tmps[3]?.getD undef = .pointer (some ⟨w.heap.size, 0, none⟩) := hU.same 3 (by decide)
        have y0 := (hk.cell (b := w.heap.size) (o := 0) (hz) (fun h => h)).trans (e1)
        have y1 := (hk.cell (b := w.heap.size) (o := 1) (hz) (fun h => h)).trans (e2)
        have y2 := (hk.cell (b := w.heap.size) (o := 2) (hz) (fun h => h)).trans (e3)
        have y3 := (hk.cell (b := w.heap.size) (o := 3) (hz) (fun h => h)).trans (e4)
        have y4 := (hk.cell (b := w.heap.size) (o := 4) (hz) (fun h => h)).trans (e5)
        refine wpOp_value (v := fileVal f fa) (W' := W) rfl rfl ?_ (hK _ _ (LKeep.refl _ _ _) rfl)
        go_simp
      | 1, hoi, hom =>
        have z2 : ao.tmps[2]?.getD undef = .slice A N c := hU.same 2 (by decide)
        refine wpOp_value (v := .slice A N c) (W' := W) rfl rfl ?_ (hK _ _ (LKeep.refl _ _ _) rfl)
        go_simp
      | 2, hoi, hom =>
        have z7 : ao.tmps[7]?.getD undef = .pointer (some ⟨w0.heap.size, 0, none⟩) := hU.same 7 (by decide)
        refine wpOp_value (v := .pointer (some ⟨w0.heap.size, 0, none⟩)) (W' := W) rfl rfl ?_ (hK _ _ (LKeep.refl _ _ _) rfl)
        go_simp
      | 3, hoi, hom =>
        have l2 := haft _ rfl { on := 2, ground := .data } (by simp) rfl
        have hv2 : vs 2 = .pointer (some ⟨w0.heap.size, 0, none⟩) := hpv 2 l2
        have s2 : ao.tmps[15]?.getD undef = vs 2 := hU.slot 2 (by decide) l2
        rw [hv2] at s2
        have y0 := (hk.cell (b := w0.heap.size) (o := 0) (hzq) (fun h => h)).trans (r0)
        refine wpOp_value (v := .int .i64 (cl : Nat)) (W' := W) rfl rfl ?_ (hK _ _ (LKeep.refl _ _ _) rfl)
        go_simp
      | 4, hoi, hom =>
        have l0 := haft _ rfl { on := 0, ground := .data } (by simp) rfl
        have hv0 : vs 0 = fileVal f fa := hpv 0 l0
        have s0 : ao.tmps[13]?.getD undef = vs 0 := hU.slot 0 (by decide) l0
        rw [hv0] at s0
        have l1 := haft _ rfl { on := 1, ground := .data } (by simp) rfl
        have hv1 : vs 1 = .slice A N c := hpv 1 l1
        have s1 : ao.tmps[14]?.getD undef = vs 1 := hU.slot 1 (by decide) l1
        rw [hv1] at s1
        have l3 := haft _ rfl { on := 3, ground := .data } (by simp) rfl
        have hv3 : vs 3 = .int .i64 (cl : Nat) := hpv 3 l3
        have s3 : ao.tmps[16]?.getD undef = vs 3 := hU.slot 3 (by decide) l3
        rw [hv3] at s3
        refine wpOp_enter (f := 29) (args := #[fileVal f fa, .slice A N c, .int .i64 (cl : Nat)]) (W' := W) rfl rfl ?_ (((with7_any (HBX1.out.v.next (hk.below (B := w1.heap.size) (fun k h => h.elim) (Nat.le_refl _))) (HP1.out.next (hk.below (B := w1.heap.size) (fun k h => h.elim) (Nat.le_refl _))) HPL.out hcl).mono (fun e w h => by rw [HWM.out] at h; exact h)).mono (fun e w'' h => ?_))
        · go_simp
        · obtain ⟨he, hbw⟩ := h
          exact ⟨_, he, hK _ _ (LKeep.below hbw (fun h => h)) rfl⟩
      | 5, hoi, hom =>
        have z7 : ao.tmps[7]?.getD undef = .pointer (some ⟨w0.heap.size, 0, none⟩) := hU.same 7 (by decide)
        refine wpOp_value (v := .pointer (some ⟨w0.heap.size, 1, none⟩)) (W' := W) rfl rfl ?_ (hK _ _ (LKeep.refl _ _ _) rfl)
        go_simp
      | 6, hoi, hom =>
        have l5 := haft _ rfl { on := 5, ground := .data } (by simp) rfl
        have hv5 : vs 5 = .pointer (some ⟨w0.heap.size, 1, none⟩) := hpv 5 l5
        have s5 : ao.tmps[18]?.getD undef = vs 5 := hU.slot 5 (by decide) l5
        rw [hv5] at s5
        have y0 := (hk.cell (b := w0.heap.size) (o := 1) (hzq) (fun h => h)).trans (r1)
        refine wpOp_value (v := .int .i64 (ca : Nat)) (W' := W) rfl rfl ?_ (hK _ _ (LKeep.refl _ _ _) rfl)
        go_simp
      | 7, hoi, hom =>
        have l4 := haft _ rfl { on := 4, ground := .data } (by simp) rfl
        have hv4 : vs 4 = .int .i64 wm := hpv 4 l4
        have s4 : ao.tmps[17]?.getD undef = vs 4 := hU.slot 4 (by decide) l4
        rw [hv4] at s4
        have l6 := haft _ rfl { on := 6, ground := .data } (by simp) rfl
        have hv6 : vs 6 = .int .i64 (ca : Nat) := hpv 6 l6
        have s6 : ao.tmps[19]?.getD undef = vs 6 := hU.slot 6 (by decide) l6
        rw [hv6] at s6
        refine wpOp_value (v := .bool false) (W' := W) rfl rfl ?_ (hK _ _ (LKeep.refl _ _ _) rfl)
        go_simp
      | 8, hoi, hom =>
        have l7 := haft _ rfl { on := 7, ground := .data } (by simp) rfl
        have hv7 : vs 7 = .bool false := hpv 7 l7
        have s7 : ao.tmps[20]?.getD undef = vs 7 := hU.slot 7 (by decide) l7
        rw [hv7] at s7
        refine wpOp_value (v := .bool false) (W' := W) rfl rfl ?_ (hK _ _ (LKeep.refl _ _ _) rfl)
        go_simp
      | 9, hoi, hom =>
        have l8 := haft _ rfl { on := 8, ground := .guard } (by simp) rfl
        have hv8 : vs 8 = .bool false := hpv 8 l8
        have s8 : ao.tmps[21]?.getD undef = vs 8 := hU.slot 8 (by decide) l8
        rw [hv8] at s8
        refine wpOp_unwanted rfl ?_ (hK _ _ (LKeep.refl _ _ _) rfl)
        refine wanted_no (j := 8) (d := 21) ?_ ?_ s8 <;> rfl
      | 10, hoi, hom =>
        have l8 := haft _ rfl { on := 8, ground := .guard } (by simp) rfl
        have hv8 : vs 8 = .bool false := hpv 8 l8
        have s8 : ao.tmps[21]?.getD undef = vs 8 := hU.slot 8 (by decide) l8
        rw [hv8] at s8
        refine wpOp_unwanted rfl ?_ (hK _ _ (LKeep.refl _ _ _) rfl)
        refine wanted_no (j := 8) (d := 21) ?_ ?_ s8 <;> rfl
      | 11, hoi, hom =>
        have l8 := haft _ rfl { on := 8, ground := .guard } (by simp) rfl
        have hv8 : vs 8 = .bool false := hpv 8 l8
        have s8 : ao.tmps[21]?.getD undef = vs 8 := hU.slot 8 (by decide) l8
        rw [hv8] at s8
        refine wpOp_unwanted rfl ?_ (hK _ _ (LKeep.refl _ _ _) rfl)
        refine wanted_no (j := 8) (d := 21) ?_ ?_ s8 <;> rfl
      | 12, hoi, hom =>
        have l8 := haft _ rfl { on := 8, ground := .guard } (by simp) rfl
        have hv8 : vs 8 = .bool false := hpv 8 l8
        have s8 : ao.tmps[21]?.getD undef = vs 8 := hU.slot 8 (by decide) l8
        rw [hv8] at s8
        refine wpOp_unwanted rfl ?_ (hK _ _ (LKeep.refl _ _ _) rfl)
        refine wanted_no (j := 8) (d := 21) ?_ ?_ s8 <;> rfl
      | 13, hoi, hom =>
        have l8 := haft _ rfl { on := 8, ground := .guard } (by simp) rfl
        have hv8 : vs 8 = .bool false := hpv 8 l8
        have s8 : ao.tmps[21]?.getD undef = vs 8 := hU.slot 8 (by decide) l8
        rw [hv8] at s8
        refine wpOp_unwanted rfl ?_ (hK _ _ (LKeep.refl _ _ _) rfl)
        refine wanted_no (j := 8) (d := 21) ?_ ?_ s8 <;> rfl
      | 14, hoi, hom =>
        have l8 := haft _ rfl { on := 8, ground := .guard } (by simp) rfl
        have hv8 : vs 8 = .bool false := hpv 8 l8
        have s8 : ao.tmps[21]?.getD undef = vs 8 := hU.slot 8 (by decide) l8
        rw [hv8] at s8
        refine wpOp_unwanted rfl ?_ (hK _ _ (LKeep.refl _ _ _) rfl)
        refine wanted_no (j := 8) (d := 21) ?_ ?_ s8 <;> rfl
      | 15, hoi, hom =>
        have l8 := haft _ rfl { on := 8, ground := .guard } (by simp) rfl
        have hv8 : vs 8 = .bool false := hpv 8 l8
        have s8 : ao.tmps[21]?.getD undef = vs 8 := hU.slot 8 (by decide) l8
        rw [hv8] at s8
        refine wpOp_unwanted rfl ?_ (hK _ _ (LKeep.refl _ _ _) rfl)
        refine wanted_no (j := 8) (d := 21) ?_ ?_ s8 <;> rfl
      | 16, hoi, hom =>
        have l8 := haft _ rfl { on := 8, ground := .guard } (by simp) rfl
        have hv8 : vs 8 = .bool false := hpv 8 l8
        have s8 : ao.tmps[21]?.getD undef = vs 8 := hU.slot 8 (by decide) l8
        rw [hv8] at s8
        refine wpOp_unwanted rfl ?_ (hK _ _ (LKeep.refl _ _ _) rfl)
        refine wanted_no (j := 8) (d := 21) ?_ ?_ s8 <;> rfl
      | 17, hoi, hom =>
        have l8 := haft _ rfl { on := 8, ground := .guard } (by simp) rfl
        have hv8 : vs 8 = .bool false := hpv 8 l8
        have s8 : ao.tmps[21]?.getD undef = vs 8 := hU.slot 8 (by decide) l8
        rw [hv8] at s8
        refine wpOp_unwanted rfl ?_ (hK _ _ (LKeep.refl _ _ _) rfl)
        refine wanted_no (j := 8) (d := 21) ?_ ?_ s8 <;> rfl
      | 18, hoi, hom =>
        have l8 := haft _ rfl { on := 8, ground := .data } (by simp) rfl
        have hv8 : vs 8 = .bool false := hpv 8 l8
        have s8 : ao.tmps[21]?.getD undef = vs 8 := hU.slot 8 (by decide) l8
        rw [hv8] at s8
        have l17 := haft _ rfl { on := 17, ground := .data } (by simp) rfl
        have hv17 : vs 17 = undef := hpv 17 l17
        have s17 : ao.tmps[30]?.getD undef = vs 17 := hU.slot 17 (by decide) l17
        rw [hv17] at s17
        refine wpOp_value (v := .bool false) (W' := W) rfl rfl ?_ (hK _ _ (LKeep.refl _ _ _) rfl)
        go_simp
      | 19, hoi, hom =>
        have l18 := haft _ rfl { on := 18, ground := .data } (by simp) rfl
        have hv18 : vs 18 = .bool false := hpv 18 l18
        have s18 : ao.tmps[31]?.getD undef = vs 18 := hU.slot 18 (by decide) l18
        rw [hv18] at s18
        refine wpOp_value (v := .bool false) (W' := W) rfl rfl ?_ (hK _ _ (LKeep.refl _ _ _) rfl)
        go_simp
      | 20, hoi, hom =>
        have l19 := haft _ rfl { on := 19, ground := .guard } (by simp) rfl
        have hv19 : vs 19 = .bool false := hpv 19 l19
        have s19 : ao.tmps[32]?.getD undef = vs 19 := hU.slot 19 (by decide) l19
        rw [hv19] at s19
        refine wpOp_unwanted rfl ?_ (hK _ _ (LKeep.refl _ _ _) rfl)
        refine wanted_no (j := 19) (d := 32) ?_ ?_ s19 <;> rfl
      | 21, hoi, hom =>
        have l19 := haft _ rfl { on := 19, ground := .guard } (by simp) rfl
        have hv19 : vs 19 = .bool false := hpv 19 l19
        have s19 : ao.tmps[32]?.getD undef = vs 19 := hU.slot 19 (by decide) l19
        rw [hv19] at s19
        refine wpOp_unwanted rfl ?_ (hK _ _ (LKeep.refl _ _ _) rfl)
        refine wanted_no (j := 19) (d := 32) ?_ ?_ s19 <;> rfl
      | 22, hoi, hom =>
        have l19 := haft _ rfl { on := 19, ground := .guard } (by simp) rfl
        have hv19 : vs 19 = .bool false := hpv 19 l19
        have s19 : ao.tmps[32]?.getD undef = vs 19 := hU.slot 19 (by decide) l19
        rw [hv19] at s19
        refine wpOp_unwanted rfl ?_ (hK _ _ (LKeep.refl _ _ _) rfl)
        refine wanted_no (j := 19) (d := 32) ?_ ?_ s19 <;> rfl
      | 23, hoi, hom =>
        have l19 := haft _ rfl { on := 19, ground := .data } (by simp) rfl
        have hv19 : vs 19 = .bool false := hpv 19 l19
        have s19 : ao.tmps[32]?.getD undef = vs 19 := hU.slot 19 (by decide) l19
        rw [hv19] at s19
        have l22 := haft _ rfl { on := 22, ground := .data } (by simp) rfl
        have hv22 : vs 22 = undef := hpv 22 l22
        have s22 : ao.tmps[35]?.getD undef = vs 22 := hU.slot 22 (by decide) l22
        rw [hv22] at s22
        refine wpOp_value (v := .bool false) (W' := W) rfl rfl ?_ (hK _ _ (LKeep.refl _ _ _) rfl)
        go_simp
      | oi + 24, hoi, hom => exact absurd (of_decide_eq_true hom) (by omega)
    case hendA =>
      intro listed vs ao W hG hk0 hpv hpre
      have hkk := (LKeep.drew (fun _ => False) (M := fun _ => True) w1 (fun h => h)).trans hk0
      have hk := hkk.1
      have hkm := hkk.2
      clear hkk
      have hact := hG.act
      have hT := hG.lst hpre 0 #[true, true, true, true, true, true, true, true, true, true, true, true, true, true, true, true, true, true, true, true, true, true, true, true, false] rfl (by kernel_rfl) (hpre 0 (by decide) (by decide))
      rw [hG.ix hT (l := [0, 1, 2, 3, 4, 5, 6, 7, 8, 9, 10, 11, 12, 13, 14, 15, 16, 17, 18, 19, 20, 21, 22, 23]) (by kernel_rfl)] at hact
      rw [hG.lo hT (k := 1) (by kernel_rfl)]
      have hv0 : vs 0 = fileVal f fa := hpv 0 (hpre 0 (by decide) (by decide))
      have hv1 : vs 1 = .slice A N c := hpv 1 (hpre 1 (by decide) (by decide))
      have hv2 : vs 2 = .pointer (some ⟨w0.heap.size, 0, none⟩) := hpv 2 (hpre 2 (by decide) (by decide))
      have hv3 : vs 3 = .int .i64 (cl : Nat) := hpv 3 (hpre 3 (by decide) (by decide))
      have hv4 : vs 4 = .int .i64 wm := hpv 4 (hpre 4 (by decide) (by decide))
      have hv5 : vs 5 = .pointer (some ⟨w0.heap.size, 1, none⟩) := hpv 5 (hpre 5 (by decide) (by decide))
      have hv6 : vs 6 = .int .i64 (ca : Nat) := hpv 6 (hpre 6 (by decide) (by decide))
      have hv7 : vs 7 = .bool false := hpv 7 (hpre 7 (by decide) (by decide))
      have hv8 : vs 8 = .bool false := hpv 8 (hpre 8 (by decide) (by decide))
      have hv9 : vs 9 = undef := hpv 9 (hpre 9 (by decide) (by decide))
      have hv10 : vs 10 = undef := hpv 10 (hpre 10 (by decide) (by decide))
      have hv11 : vs 11 = undef := hpv 11 (hpre 11 (by decide) (by decide))
      have hv12 : vs 12 = undef := hpv 12 (hpre 12 (by decide) (by decide))
      have hv13 : vs 13 = undef := hpv 13 (hpre 13 (by decide) (by decide))
      have hv14 : vs 14 = undef := hpv 14 (hpre 14 (by decide) (by decide))
      have hv15 : vs 15 = undef := hpv 15 (hpre 15 (by decide) (by decide))
      have hv16 : vs 16 = undef := hpv 16 (hpre 16 (by decide) (by decide))
      have hv17 : vs 17 = undef := hpv 17 (hpre 17 (by decide) (by decide))
      have hv18 : vs 18 = .bool false := hpv 18 (hpre 18 (by decide) (by decide))
      have hv19 : vs 19 = .bool false := hpv 19 (hpre 19 (by decide) (by decide))
      have hv20 : vs 20 = undef := hpv 20 (hpre 20 (by decide) (by decide))
      have hv21 : vs 21 = undef := hpv 21 (hpre 21 (by decide) (by decide))
      have hv22 : vs 22 = undef := hpv 22 (hpre 22 (by decide) (by decide))
      have hv23 : vs 23 = .bool false := hpv 23 (hpre 23 (by decide) (by decide))
      clear hpv hpre hG hk0
      obtain rfl : ao = _ := hact
      subst hT
      simp only [setAll, List.setIfInBounds_toArray, List.set_cons_succ, List.set_cons_zero, List.getD_cons_succ, List.getD_cons_zero]
      simp only [hv0, hv1, hv2, hv3, hv4, hv5, hv6, hv7, hv8, hv9, hv10, hv11, hv12, hv13, hv14, hv15, hv16, hv17, hv18, hv19, hv20, hv21, hv22, hv23]
      clear hv0 hv1 hv2 hv3 hv4 hv5 hv6 hv7 hv8 hv9 hv10 hv11 hv12 hv13 hv14 hv15 hv16 hv17 hv18 hv19 hv20 hv21 hv22 hv23
      refine wpAny_all (rs := [24]) (by kernel_rfl) (by simp) ?_
      intro i2 hi2
      obtain rfl : i2 = 24 := by simpa using hi2
      refine wpOp_valueD (v := .bool false) (W' := W) (d := 6) rfl rfl rfl ?_ ?_
      · go_simp
      try simp only [Act.put, List.setIfInBounds_toArray, List.set_cons_zero, List.set_cons_succ]
      refine wpAny_done (by kernel_rfl) ?_ _
      have HBZ := hide (HB1.out.trans ((hk.below (B := w1.heap.size) (fun k h => h.elim) (Nat.le_refl _)).mono HB1.out.size))
      clear hk hkm
      go_wp2_with fail
      go_ret
      exact ⟨by rw [HX.out]; first | rfl | simp, HBZ.out⟩
  | true =>
    by_cases hd : cd ≤ nth f.untils ca
    · have hd1 : decide (cd ≤ nth f.untils ca) = true := by simpa using hd
      have HX := hide (show paidB f p n = firstB f n by rw [HPB.out, hq, hd1]; simp)
      generalize firstB f n = fb at *
      go_wp2_with fail
      refine wp_region_rel (dst := fun oi => [13, 14, 15, 16, 17, 18, 19, 20, 21, 22, 23, 24, 25, 26, 27, 28, 29, 30, 31, 32, 33, 34, 35, 36, 0].getD oi 0) (mono := fun oi => decide (oi < 24)) (pre := fun oi => decide (oi < 24)) (R := LKeep (fun _ => False) (fun _ => True))
        (Pv := fun oi v W => match oi with
          | 0 => v = fileVal f fa
          | 1 => v = .slice A N c
          | 2 => v = .pointer (some ⟨w0.heap.size, 0, none⟩)
          | 3 => v = .int .i64 (cl : Nat)
          | 4 => v = .int .i64 wm
          | 5 => v = .pointer (some ⟨w0.heap.size, 1, none⟩)
          | 6 => v = .int .i64 (ca : Nat)
          | 7 => v = .bool true
          | 8 => v = .bool true
          | 9 => v = .pointer (some ⟨w0.heap.size, 2, none⟩)
          | 10 => v = .int .i64 cd
          | 11 => v = .pointer (some ⟨w.heap.size, 1, none⟩)
          | 12 => v = .slice (some ⟨bu, ou, none⟩) f.untils.length fa.c2
          | 13 => v = .pointer (some ⟨w0.heap.size, 1, none⟩)
          | 14 => v = .int .i64 (ca : Nat)
          | 15 => v = .pointer (some ⟨bu, ou + ca, none⟩)
          | 16 => v = .int .i64 (nth f.untils ca)
          | 17 => v = .bool true
          | 18 => v = .bool true
          | 19 => v = .bool true
          | 20 => v = fileVal f fa
          | 21 => v = .int .i64 (n : Nat)
          | 22 => v = .bool fb
          | 23 => v = .bool fb
          | _ => True) (by kernel_rfl) (by kernel_rfl) (LKeep.refl _ _) (fun _ _ _ h h' => h.trans h') ?hstC ?hstepC ?hendC
      case hstC =>
        intro oi v W W' h hk
        match oi, h with
        | 0, h => exact h
        | 1, h => exact h
        | 2, h => exact h
        | 3, h => exact h
        | 4, h => exact h
        | 5, h => exact h
        | 6, h => exact h
        | 7, h => exact h
        | 8, h => exact h
        | 9, h => exact h
        | 10, h => exact h
        | 11, h => exact h
        | 12, h => exact h
        | 13, h => exact h
        | 14, h => exact h
        | 15, h => exact h
        | 16, h => exact h
        | 17, h => exact h
        | 18, h => exact h
        | 19, h => exact h
        | 20, h => exact h
        | 21, h => exact h
        | 22, h => exact h
        | 23, h => exact h
        | oi + 24, h => exact trivial
      case hstepC =>
        intro oi hoi hom listed vs ao W hU hk0 hpv haft Ko hK
        have hkk := (LKeep.drew (fun _ => False) (M := fun _ => True) w1 (fun h => h)).trans hk0
        have hk := hkk.1
        have hkm := hkk.2
        clear hkk
        match oi, hoi, hom with
        | 0, hoi, hom =>
          have z3 : ao.tmps[3]?.getD undef = .pointer (some ⟨w.heap.size, 0, none⟩) := hU.same 3 (by decide)
          have y0 := (hk.cell (b := w.heap.size) (o := 0) (hz) (fun h => h)).trans (e1)
          have y1 := (hk.cell (b := w.heap.size) (o := 1) (hz) (fun h => h)).trans (e2)
          have y2 := (hk.cell (b := w.heap.size) (o := 2) (hz) (fun h => h)).trans (e3)
          have y3 := (hk.cell (b := w.heap.size) (o := 3) (hz) (fun h => h)).trans (e4)
          have y4 := (hk.cell (b := w.heap.size) (o := 4) (hz) (fun h => h)).trans (e5)
          refine wpOp_value (v := fileVal f fa) (W' := W) rfl rfl ?_ (hK _ _ (LKeep.refl _ _ _) rfl)
          go_simp
        | 1, hoi, hom =>
          have z2 : ao.tmps[2]?.getD undef = .slice A N c := hU.same 2 (by decide)
          refine wpOp_value (v := .slice A N c) (W' := W) rfl rfl ?_ (hK _ _ (LKeep.refl _ _ _) rfl)
          go_simp
        | 2, hoi, hom =>
          have z7 : ao.tmps[7]?.getD undef = .pointer (some ⟨w0.heap.size, 0, none⟩) := hU.same 7 (by decide)
          refine wpOp_value (v := .pointer (some ⟨w0.heap.size, 0, none⟩)) (W' := W) rfl rfl ?_ (hK _ _ (LKeep.refl _ _ _) rfl)
          go_simp
        | 3, hoi, hom =>
          have l2 := haft _ rfl { on := 2, ground := .data } (by simp) rfl
          have hv2 : vs 2 = .pointer (some ⟨w0.heap.size, 0, none⟩) := hpv 2 l2
          have s2 : ao.tmps[15]?.getD undef = vs 2 := hU.slot 2 (by decide) l2
          rw [hv2] at s2
          have y0 := (hk.cell (b := w0.heap.size) (o := 0) (hzq) (fun h => h)).trans (r0)
          refine wpOp_value (v := .int .i64 (cl : Nat)) (W' := W) rfl rfl ?_ (hK _ _ (LKeep.refl _ _ _) rfl)
          go_simp
        | 4, hoi, hom =>
          have l0 := haft _ rfl { on := 0, ground := .data } (by simp) rfl
          have hv0 : vs 0 = fileVal f fa := hpv 0 l0
          have s0 : ao.tmps[13]?.getD undef = vs 0 := hU.slot 0 (by decide) l0
          rw [hv0] at s0
          have l1 := haft _ rfl { on := 1, ground := .data } (by simp) rfl
          have hv1 : vs 1 = .slice A N c := hpv 1 l1
          have s1 : ao.tmps[14]?.getD undef = vs 1 := hU.slot 1 (by decide) l1
          rw [hv1] at s1
          have l3 := haft _ rfl { on := 3, ground := .data } (by simp) rfl
          have hv3 : vs 3 = .int .i64 (cl : Nat) := hpv 3 l3
          have s3 : ao.tmps[16]?.getD undef = vs 3 := hU.slot 3 (by decide) l3
          rw [hv3] at s3
          refine wpOp_enter (f := 29) (args := #[fileVal f fa, .slice A N c, .int .i64 (cl : Nat)]) (W' := W) rfl rfl ?_ (((with7_any (HBX1.out.v.next (hk.below (B := w1.heap.size) (fun k h => h.elim) (Nat.le_refl _))) (HP1.out.next (hk.below (B := w1.heap.size) (fun k h => h.elim) (Nat.le_refl _))) HPL.out hcl).mono (fun e w h => by rw [HWM.out] at h; exact h)).mono (fun e w'' h => ?_))
          · go_simp
          · obtain ⟨he, hbw⟩ := h
            exact ⟨_, he, hK _ _ (LKeep.below hbw (fun h => h)) rfl⟩
        | 5, hoi, hom =>
          have z7 : ao.tmps[7]?.getD undef = .pointer (some ⟨w0.heap.size, 0, none⟩) := hU.same 7 (by decide)
          refine wpOp_value (v := .pointer (some ⟨w0.heap.size, 1, none⟩)) (W' := W) rfl rfl ?_ (hK _ _ (LKeep.refl _ _ _) rfl)
          go_simp
        | 6, hoi, hom =>
          have l5 := haft _ rfl { on := 5, ground := .data } (by simp) rfl
          have hv5 : vs 5 = .pointer (some ⟨w0.heap.size, 1, none⟩) := hpv 5 l5
          have s5 : ao.tmps[18]?.getD undef = vs 5 := hU.slot 5 (by decide) l5
          rw [hv5] at s5
          have y0 := (hk.cell (b := w0.heap.size) (o := 1) (hzq) (fun h => h)).trans (r1)
          refine wpOp_value (v := .int .i64 (ca : Nat)) (W' := W) rfl rfl ?_ (hK _ _ (LKeep.refl _ _ _) rfl)
          go_simp
        | 7, hoi, hom =>
          have l4 := haft _ rfl { on := 4, ground := .data } (by simp) rfl
          have hv4 : vs 4 = .int .i64 wm := hpv 4 l4
          have s4 : ao.tmps[17]?.getD undef = vs 4 := hU.slot 4 (by decide) l4
          rw [hv4] at s4
          have l6 := haft _ rfl { on := 6, ground := .data } (by simp) rfl
          have hv6 : vs 6 = .int .i64 (ca : Nat) := hpv 6 l6
          have s6 : ao.tmps[19]?.getD undef = vs 6 := hU.slot 6 (by decide) l6
          rw [hv6] at s6
          refine wpOp_value (v := .bool true) (W' := W) rfl rfl ?_ (hK _ _ (LKeep.refl _ _ _) rfl)
          go_simp
        | 8, hoi, hom =>
          have l7 := haft _ rfl { on := 7, ground := .data } (by simp) rfl
          have hv7 : vs 7 = .bool true := hpv 7 l7
          have s7 : ao.tmps[20]?.getD undef = vs 7 := hU.slot 7 (by decide) l7
          rw [hv7] at s7
          refine wpOp_value (v := .bool true) (W' := W) rfl rfl ?_ (hK _ _ (LKeep.refl _ _ _) rfl)
          go_simp
        | 9, hoi, hom =>
          have l8 := haft _ rfl { on := 8, ground := .guard } (by simp) rfl
          have hv8 : vs 8 = .bool true := hpv 8 l8
          have s8 : ao.tmps[21]?.getD undef = vs 8 := hU.slot 8 (by decide) l8
          rw [hv8] at s8
          have z7 : ao.tmps[7]?.getD undef = .pointer (some ⟨w0.heap.size, 0, none⟩) := hU.same 7 (by decide)
          refine wpOp_wanted (v := .pointer (some ⟨w0.heap.size, 2, none⟩)) (W' := W) rfl ?_ ?_ (hK _ _ (LKeep.refl _ _ _) rfl)
          · refine wanted_yes (j := 8) (d := 21) ?_ ?_ s8 <;> rfl
          go_simp
        | 10, hoi, hom =>
          have l8 := haft _ rfl { on := 8, ground := .guard } (by simp) rfl
          have hv8 : vs 8 = .bool true := hpv 8 l8
          have s8 : ao.tmps[21]?.getD undef = vs 8 := hU.slot 8 (by decide) l8
          rw [hv8] at s8
          have l9 := haft _ rfl { on := 9, ground := .data } (by simp) rfl
          have hv9 : vs 9 = .pointer (some ⟨w0.heap.size, 2, none⟩) := hpv 9 l9
          have s9 : ao.tmps[22]?.getD undef = vs 9 := hU.slot 9 (by decide) l9
          rw [hv9] at s9
          have y0 := (hk.cell (b := w0.heap.size) (o := 2) (hzq) (fun h => h)).trans (r2)
          refine wpOp_wanted (v := .int .i64 cd) (W' := W) rfl ?_ ?_ (hK _ _ (LKeep.refl _ _ _) rfl)
          · refine wanted_yes (j := 8) (d := 21) ?_ ?_ s8 <;> rfl
          go_simp
        | 11, hoi, hom =>
          have l8 := haft _ rfl { on := 8, ground := .guard } (by simp) rfl
          have hv8 : vs 8 = .bool true := hpv 8 l8
          have s8 : ao.tmps[21]?.getD undef = vs 8 := hU.slot 8 (by decide) l8
          rw [hv8] at s8
          have z3 : ao.tmps[3]?.getD undef = .pointer (some ⟨w.heap.size, 0, none⟩) := hU.same 3 (by decide)
          refine wpOp_wanted (v := .pointer (some ⟨w.heap.size, 1, none⟩)) (W' := W) rfl ?_ ?_ (hK _ _ (LKeep.refl _ _ _) rfl)
          · refine wanted_yes (j := 8) (d := 21) ?_ ?_ s8 <;> rfl
          go_simp
        | 12, hoi, hom =>
          have l8 := haft _ rfl { on := 8, ground := .guard } (by simp) rfl
          have hv8 : vs 8 = .bool true := hpv 8 l8
          have s8 : ao.tmps[21]?.getD undef = vs 8 := hU.slot 8 (by decide) l8
          rw [hv8] at s8
          have l11 := haft _ rfl { on := 11, ground := .data } (by simp) rfl
          have hv11 : vs 11 = .pointer (some ⟨w.heap.size, 1, none⟩) := hpv 11 l11
          have s11 : ao.tmps[24]?.getD undef = vs 11 := hU.slot 11 (by decide) l11
          rw [hv11] at s11
          have y0 := (hk.cell (b := w.heap.size) (o := 1) (hz) (fun h => h)).trans (HE2.out)
          refine wpOp_wanted (v := .slice (some ⟨bu, ou, none⟩) f.untils.length fa.c2) (W' := W) rfl ?_ ?_ (hK _ _ (LKeep.refl _ _ _) rfl)
          · refine wanted_yes (j := 8) (d := 21) ?_ ?_ s8 <;> rfl
          go_simp
        | 13, hoi, hom =>
          have l8 := haft _ rfl { on := 8, ground := .guard } (by simp) rfl
          have hv8 : vs 8 = .bool true := hpv 8 l8
          have s8 : ao.tmps[21]?.getD undef = vs 8 := hU.slot 8 (by decide) l8
          rw [hv8] at s8
          have z7 : ao.tmps[7]?.getD undef = .pointer (some ⟨w0.heap.size, 0, none⟩) := hU.same 7 (by decide)
          refine wpOp_wanted (v := .pointer (some ⟨w0.heap.size, 1, none⟩)) (W' := W) rfl ?_ ?_ (hK _ _ (LKeep.refl _ _ _) rfl)
          · refine wanted_yes (j := 8) (d := 21) ?_ ?_ s8 <;> rfl
          go_simp
        | 14, hoi, hom =>
          have l8 := haft _ rfl { on := 8, ground := .guard } (by simp) rfl
          have hv8 : vs 8 = .bool true := hpv 8 l8
          have s8 : ao.tmps[21]?.getD undef = vs 8 := hU.slot 8 (by decide) l8
          rw [hv8] at s8
          have l13 := haft _ rfl { on := 13, ground := .data } (by simp) rfl
          have hv13 : vs 13 = .pointer (some ⟨w0.heap.size, 1, none⟩) := hpv 13 l13
          have s13 : ao.tmps[26]?.getD undef = vs 13 := hU.slot 13 (by decide) l13
          rw [hv13] at s13
          have y0 := (hk.cell (b := w0.heap.size) (o := 1) (hzq) (fun h => h)).trans (r1)
          refine wpOp_wanted (v := .int .i64 (ca : Nat)) (W' := W) rfl ?_ ?_ (hK _ _ (LKeep.refl _ _ _) rfl)
          · refine wanted_yes (j := 8) (d := 21) ?_ ?_ s8 <;> rfl
          go_simp
        | 15, hoi, hom =>
          have l8 := haft _ rfl { on := 8, ground := .guard } (by simp) rfl
          have hv8 : vs 8 = .bool true := hpv 8 l8
          have s8 : ao.tmps[21]?.getD undef = vs 8 := hU.slot 8 (by decide) l8
          rw [hv8] at s8
          have l12 := haft _ rfl { on := 12, ground := .data } (by simp) rfl
          have hv12 : vs 12 = .slice (some ⟨bu, ou, none⟩) f.untils.length fa.c2 := hpv 12 l12
          have s12 : ao.tmps[25]?.getD undef = vs 12 := hU.slot 12 (by decide) l12
          rw [hv12] at s12
          have l14 := haft _ rfl { on := 14, ground := .data } (by simp) rfl
          have hv14 : vs 14 = .int .i64 (ca : Nat) := hpv 14 l14
          have s14 : ao.tmps[27]?.getD undef = vs 14 := hU.slot 14 (by decide) l14
          rw [hv14] at s14
          refine wpOp_wanted (v := .pointer (some ⟨bu, ou + ca, none⟩)) (W' := W) rfl ?_ ?_ (hK _ _ (LKeep.refl _ _ _) rfl)
          · refine wanted_yes (j := 8) (d := 21) ?_ ?_ s8 <;> rfl
          go_simp
        | 16, hoi, hom =>
          have l8 := haft _ rfl { on := 8, ground := .guard } (by simp) rfl
          have hv8 : vs 8 = .bool true := hpv 8 l8
          have s8 : ao.tmps[21]?.getD undef = vs 8 := hU.slot 8 (by decide) l8
          rw [hv8] at s8
          have l15 := haft _ rfl { on := 15, ground := .data } (by simp) rfl
          have hv15 : vs 15 = .pointer (some ⟨bu, ou + ca, none⟩) := hpv 15 l15
          have s15 : ao.tmps[28]?.getD undef = vs 15 := hU.slot 15 (by decide) l15
          rw [hv15] at s15
          have y0 := (hk.cell (b := bu) (o := ou + ca) (hbu) (fun h => h)).trans (yu)
          refine wpOp_wanted (v := .int .i64 (nth f.untils ca)) (W' := W) rfl ?_ ?_ (hK _ _ (LKeep.refl _ _ _) rfl)
          · refine wanted_yes (j := 8) (d := 21) ?_ ?_ s8 <;> rfl
          go_simp
        | 17, hoi, hom =>
          have l8 := haft _ rfl { on := 8, ground := .guard } (by simp) rfl
          have hv8 : vs 8 = .bool true := hpv 8 l8
          have s8 : ao.tmps[21]?.getD undef = vs 8 := hU.slot 8 (by decide) l8
          rw [hv8] at s8
          have l10 := haft _ rfl { on := 10, ground := .data } (by simp) rfl
          have hv10 : vs 10 = .int .i64 cd := hpv 10 l10
          have s10 : ao.tmps[23]?.getD undef = vs 10 := hU.slot 10 (by decide) l10
          rw [hv10] at s10
          have l16 := haft _ rfl { on := 16, ground := .data } (by simp) rfl
          have hv16 : vs 16 = .int .i64 (nth f.untils ca) := hpv 16 l16
          have s16 : ao.tmps[29]?.getD undef = vs 16 := hU.slot 16 (by decide) l16
          rw [hv16] at s16
          refine wpOp_wanted (v := .bool true) (W' := W) rfl ?_ ?_ (hK _ _ (LKeep.refl _ _ _) rfl)
          · refine wanted_yes (j := 8) (d := 21) ?_ ?_ s8 <;> rfl
          go_simp
        | 18, hoi, hom =>
          have l8 := haft _ rfl { on := 8, ground := .data } (by simp) rfl
          have hv8 : vs 8 = .bool true := hpv 8 l8
          have s8 : ao.tmps[21]?.getD undef = vs 8 := hU.slot 8 (by decide) l8
          rw [hv8] at s8
          have l17 := haft _ rfl { on := 17, ground := .data } (by simp) rfl
          have hv17 : vs 17 = .bool true := hpv 17 l17
          have s17 : ao.tmps[30]?.getD undef = vs 17 := hU.slot 17 (by decide) l17
          rw [hv17] at s17
          refine wpOp_value (v := .bool true) (W' := W) rfl rfl ?_ (hK _ _ (LKeep.refl _ _ _) rfl)
          go_simp
        | 19, hoi, hom =>
          have l18 := haft _ rfl { on := 18, ground := .data } (by simp) rfl
          have hv18 : vs 18 = .bool true := hpv 18 l18
          have s18 : ao.tmps[31]?.getD undef = vs 18 := hU.slot 18 (by decide) l18
          rw [hv18] at s18
          refine wpOp_value (v := .bool true) (W' := W) rfl rfl ?_ (hK _ _ (LKeep.refl _ _ _) rfl)
          go_simp
        | 20, hoi, hom =>
          have l19 := haft _ rfl { on := 19, ground := .guard } (by simp) rfl
          have hv19 : vs 19 = .bool true := hpv 19 l19
          have s19 : ao.tmps[32]?.getD undef = vs 19 := hU.slot 19 (by decide) l19
          rw [hv19] at s19
          have z3 : ao.tmps[3]?.getD undef = .pointer (some ⟨w.heap.size, 0, none⟩) := hU.same 3 (by decide)
          have y0 := (hk.cell (b := w.heap.size) (o := 0) (hz) (fun h => h)).trans (e1)
          have y1 := (hk.cell (b := w.heap.size) (o := 1) (hz) (fun h => h)).trans (e2)
          have y2 := (hk.cell (b := w.heap.size) (o := 2) (hz) (fun h => h)).trans (e3)
          have y3 := (hk.cell (b := w.heap.size) (o := 3) (hz) (fun h => h)).trans (e4)
          have y4 := (hk.cell (b := w.heap.size) (o := 4) (hz) (fun h => h)).trans (e5)
          refine wpOp_wanted (v := fileVal f fa) (W' := W) rfl ?_ ?_ (hK _ _ (LKeep.refl _ _ _) rfl)
          · refine wanted_yes (j := 19) (d := 32) ?_ ?_ s19 <;> rfl
          go_simp
        | 21, hoi, hom =>
          have l19 := haft _ rfl { on := 19, ground := .guard } (by simp) rfl
          have hv19 : vs 19 = .bool true := hpv 19 l19
          have s19 : ao.tmps[32]?.getD undef = vs 19 := hU.slot 19 (by decide) l19
          rw [hv19] at s19
          have z1 : ao.tmps[1]?.getD undef = .int .i64 (n : Nat) := hU.same 1 (by decide)
          refine wpOp_wanted (v := .int .i64 (n : Nat)) (W' := W) rfl ?_ ?_ (hK _ _ (LKeep.refl _ _ _) rfl)
          · refine wanted_yes (j := 19) (d := 32) ?_ ?_ s19 <;> rfl
          go_simp
        | 22, hoi, hom =>
          have l19 := haft _ rfl { on := 19, ground := .guard } (by simp) rfl
          have hv19 : vs 19 = .bool true := hpv 19 l19
          have s19 : ao.tmps[32]?.getD undef = vs 19 := hU.slot 19 (by decide) l19
          rw [hv19] at s19
          have l20 := haft _ rfl { on := 20, ground := .data } (by simp) rfl
          have hv20 : vs 20 = fileVal f fa := hpv 20 l20
          have s20 : ao.tmps[33]?.getD undef = vs 20 := hU.slot 20 (by decide) l20
          rw [hv20] at s20
          have l21 := haft _ rfl { on := 21, ground := .data } (by simp) rfl
          have hv21 : vs 21 = .int .i64 (n : Nat) := hpv 21 l21
          have s21 : ao.tmps[34]?.getD undef = vs 21 := hU.slot 21 (by decide) l21
          rw [hv21] at s21
          refine wpOp_enterW (f := 69) (args := #[fileVal f fa, .int .i64 (n : Nat)]) (W' := W) rfl ?_ ?_ (((HFN.out W (HBX1.out.v.next (hk.below (B := w1.heap.size) (fun k h => h.elim) (Nat.le_refl _))))).mono (fun e w'' h => ?_))
          · refine wanted_yes (j := 19) (d := 32) ?_ ?_ s19 <;> rfl
          · go_simp
          · obtain ⟨he, hbw⟩ := h
            exact ⟨_, he, hK _ _ (LKeep.below hbw (fun h => h)) rfl⟩
        | 23, hoi, hom =>
          have l19 := haft _ rfl { on := 19, ground := .data } (by simp) rfl
          have hv19 : vs 19 = .bool true := hpv 19 l19
          have s19 : ao.tmps[32]?.getD undef = vs 19 := hU.slot 19 (by decide) l19
          rw [hv19] at s19
          have l22 := haft _ rfl { on := 22, ground := .data } (by simp) rfl
          have hv22 : vs 22 = .bool fb := hpv 22 l22
          have s22 : ao.tmps[35]?.getD undef = vs 22 := hU.slot 22 (by decide) l22
          rw [hv22] at s22
          refine wpOp_value (v := .bool fb) (W' := W) rfl rfl ?_ (hK _ _ (LKeep.refl _ _ _) rfl)
          go_simp
        | oi + 24, hoi, hom => exact absurd (of_decide_eq_true hom) (by omega)
      case hendC =>
        intro listed vs ao W hG hk0 hpv hpre
        have hkk := (LKeep.drew (fun _ => False) (M := fun _ => True) w1 (fun h => h)).trans hk0
        have hk := hkk.1
        have hkm := hkk.2
        clear hkk
        have hact := hG.act
        have hT := hG.lst hpre 0 #[true, true, true, true, true, true, true, true, true, true, true, true, true, true, true, true, true, true, true, true, true, true, true, true, false] rfl (by kernel_rfl) (hpre 0 (by decide) (by decide))
        rw [hG.ix hT (l := [0, 1, 2, 3, 4, 5, 6, 7, 8, 9, 10, 11, 12, 13, 14, 15, 16, 17, 18, 19, 20, 21, 22, 23]) (by kernel_rfl)] at hact
        rw [hG.lo hT (k := 1) (by kernel_rfl)]
        have hv0 : vs 0 = fileVal f fa := hpv 0 (hpre 0 (by decide) (by decide))
        have hv1 : vs 1 = .slice A N c := hpv 1 (hpre 1 (by decide) (by decide))
        have hv2 : vs 2 = .pointer (some ⟨w0.heap.size, 0, none⟩) := hpv 2 (hpre 2 (by decide) (by decide))
        have hv3 : vs 3 = .int .i64 (cl : Nat) := hpv 3 (hpre 3 (by decide) (by decide))
        have hv4 : vs 4 = .int .i64 wm := hpv 4 (hpre 4 (by decide) (by decide))
        have hv5 : vs 5 = .pointer (some ⟨w0.heap.size, 1, none⟩) := hpv 5 (hpre 5 (by decide) (by decide))
        have hv6 : vs 6 = .int .i64 (ca : Nat) := hpv 6 (hpre 6 (by decide) (by decide))
        have hv7 : vs 7 = .bool true := hpv 7 (hpre 7 (by decide) (by decide))
        have hv8 : vs 8 = .bool true := hpv 8 (hpre 8 (by decide) (by decide))
        have hv9 : vs 9 = .pointer (some ⟨w0.heap.size, 2, none⟩) := hpv 9 (hpre 9 (by decide) (by decide))
        have hv10 : vs 10 = .int .i64 cd := hpv 10 (hpre 10 (by decide) (by decide))
        have hv11 : vs 11 = .pointer (some ⟨w.heap.size, 1, none⟩) := hpv 11 (hpre 11 (by decide) (by decide))
        have hv12 : vs 12 = .slice (some ⟨bu, ou, none⟩) f.untils.length fa.c2 := hpv 12 (hpre 12 (by decide) (by decide))
        have hv13 : vs 13 = .pointer (some ⟨w0.heap.size, 1, none⟩) := hpv 13 (hpre 13 (by decide) (by decide))
        have hv14 : vs 14 = .int .i64 (ca : Nat) := hpv 14 (hpre 14 (by decide) (by decide))
        have hv15 : vs 15 = .pointer (some ⟨bu, ou + ca, none⟩) := hpv 15 (hpre 15 (by decide) (by decide))
        have hv16 : vs 16 = .int .i64 (nth f.untils ca) := hpv 16 (hpre 16 (by decide) (by decide))
        have hv17 : vs 17 = .bool true := hpv 17 (hpre 17 (by decide) (by decide))
        have hv18 : vs 18 = .bool true := hpv 18 (hpre 18 (by decide) (by decide))
        have hv19 : vs 19 = .bool true := hpv 19 (hpre 19 (by decide) (by decide))
        have hv20 : vs 20 = fileVal f fa := hpv 20 (hpre 20 (by decide) (by decide))
        have hv21 : vs 21 = .int .i64 (n : Nat) := hpv 21 (hpre 21 (by decide) (by decide))
        have hv22 : vs 22 = .bool fb := hpv 22 (hpre 22 (by decide) (by decide))
        have hv23 : vs 23 = .bool fb := hpv 23 (hpre 23 (by decide) (by decide))
        clear hpv hpre hG hk0
        obtain rfl : ao = _ := hact
        subst hT
        simp only [setAll, List.setIfInBounds_toArray, List.set_cons_succ, List.set_cons_zero, List.getD_cons_succ, List.getD_cons_zero]
        simp only [hv0, hv1, hv2, hv3, hv4, hv5, hv6, hv7, hv8, hv9, hv10, hv11, hv12, hv13, hv14, hv15, hv16, hv17, hv18, hv19, hv20, hv21, hv22, hv23]
        clear hv0 hv1 hv2 hv3 hv4 hv5 hv6 hv7 hv8 hv9 hv10 hv11 hv12 hv13 hv14 hv15 hv16 hv17 hv18 hv19 hv20 hv21 hv22 hv23
        refine wpAny_all (rs := [24]) (by kernel_rfl) (by simp) ?_
        intro i2 hi2
        obtain rfl : i2 = 24 := by simpa using hi2
        refine wpOp_valueD (v := .bool fb) (W' := W) (d := 6) rfl rfl rfl ?_ ?_
        · go_simp
        try simp only [Act.put, List.setIfInBounds_toArray, List.set_cons_zero, List.set_cons_succ]
        refine wpAny_done (by kernel_rfl) ?_ _
        have HBZ := hide (HB1.out.trans ((hk.below (B := w1.heap.size) (fun k h => h.elim) (Nat.le_refl _)).mono HB1.out.size))
        clear hk hkm
        go_wp2_with fail
        go_ret
        exact ⟨by rw [HX.out]; first | rfl | simp, HBZ.out⟩
    · have hd1 : decide (cd ≤ nth f.untils ca) = false := by simpa using hd
      have HX := hide (show paidB f p n = false by rw [HPB.out, hq, hd1]; simp)
      go_wp2_with fail
      refine wp_region_rel (dst := fun oi => [13, 14, 15, 16, 17, 18, 19, 20, 21, 22, 23, 24, 25, 26, 27, 28, 29, 30, 31, 32, 33, 34, 35, 36, 0].getD oi 0) (mono := fun oi => decide (oi < 24)) (pre := fun oi => decide (oi < 24)) (R := LKeep (fun _ => False) (fun _ => True))
        (Pv := fun oi v W => match oi with
          | 0 => v = fileVal f fa
          | 1 => v = .slice A N c
          | 2 => v = .pointer (some ⟨w0.heap.size, 0, none⟩)
          | 3 => v = .int .i64 (cl : Nat)
          | 4 => v = .int .i64 wm
          | 5 => v = .pointer (some ⟨w0.heap.size, 1, none⟩)
          | 6 => v = .int .i64 (ca : Nat)
          | 7 => v = .bool true
          | 8 => v = .bool true
          | 9 => v = .pointer (some ⟨w0.heap.size, 2, none⟩)
          | 10 => v = .int .i64 cd
          | 11 => v = .pointer (some ⟨w.heap.size, 1, none⟩)
          | 12 => v = .slice (some ⟨bu, ou, none⟩) f.untils.length fa.c2
          | 13 => v = .pointer (some ⟨w0.heap.size, 1, none⟩)
          | 14 => v = .int .i64 (ca : Nat)
          | 15 => v = .pointer (some ⟨bu, ou + ca, none⟩)
          | 16 => v = .int .i64 (nth f.untils ca)
          | 17 => v = .bool false
          | 18 => v = .bool false
          | 19 => v = .bool false
          | 20 => v = undef
          | 21 => v = undef
          | 22 => v = undef
          | 23 => v = .bool false
          | _ => True) (by kernel_rfl) (by kernel_rfl) (LKeep.refl _ _) (fun _ _ _ h h' => h.trans h') ?hstB ?hstepB ?hendB
      case hstB =>
        intro oi v W W' h hk
        match oi, h with
        | 0, h => exact h
        | 1, h => exact h
        | 2, h => exact h
        | 3, h => exact h
        | 4, h => exact h
        | 5, h => exact h
        | 6, h => exact h
        | 7, h => exact h
        | 8, h => exact h
        | 9, h => exact h
        | 10, h => exact h
        | 11, h => exact h
        | 12, h => exact h
        | 13, h => exact h
        | 14, h => exact h
        | 15, h => exact h
        | 16, h => exact h
        | 17, h => exact h
        | 18, h => exact h
        | 19, h => exact h
        | 20, h => exact h
        | 21, h => exact h
        | 22, h => exact h
        | 23, h => exact h
        | oi + 24, h => exact trivial
      case hstepB =>
        intro oi hoi hom listed vs ao W hU hk0 hpv haft Ko hK
        have hkk := (LKeep.drew (fun _ => False) (M := fun _ => True) w1 (fun h => h)).trans hk0
        have hk := hkk.1
        have hkm := hkk.2
        clear hkk
        match oi, hoi, hom with
        | 0, hoi, hom =>
          have z3 : ao.tmps[3]?.getD undef = .pointer (some ⟨w.heap.size, 0, none⟩) := hU.same 3 (by decide)
          have y0 := (hk.cell (b := w.heap.size) (o := 0) (hz) (fun h => h)).trans (e1)
          have y1 := (hk.cell (b := w.heap.size) (o := 1) (hz) (fun h => h)).trans (e2)
          have y2 := (hk.cell (b := w.heap.size) (o := 2) (hz) (fun h => h)).trans (e3)
          have y3 := (hk.cell (b := w.heap.size) (o := 3) (hz) (fun h => h)).trans (e4)
          have y4 := (hk.cell (b := w.heap.size) (o := 4) (hz) (fun h => h)).trans (e5)
          refine wpOp_value (v := fileVal f fa) (W' := W) rfl rfl ?_ (hK _ _ (LKeep.refl _ _ _) rfl)
          go_simp
        | 1, hoi, hom =>
          have z2 : ao.tmps[2]?.getD undef = .slice A N c := hU.same 2 (by decide)
          refine wpOp_value (v := .slice A N c) (W' := W) rfl rfl ?_ (hK _ _ (LKeep.refl _ _ _) rfl)
          go_simp
        | 2, hoi, hom =>
          have z7 : ao.tmps[7]?.getD undef = .pointer (some ⟨w0.heap.size, 0, none⟩) := hU.same 7 (by decide)
          refine wpOp_value (v := .pointer (some ⟨w0.heap.size, 0, none⟩)) (W' := W) rfl rfl ?_ (hK _ _ (LKeep.refl _ _ _) rfl)
          go_simp
        | 3, hoi, hom =>
          have l2 := haft _ rfl { on := 2, ground := .data } (by simp) rfl
          have hv2 : vs 2 = .pointer (some ⟨w0.heap.size, 0, none⟩) := hpv 2 l2
          have s2 : ao.tmps[15]?.getD undef = vs 2 := hU.slot 2 (by decide) l2
          rw [hv2] at s2
          have y0 := (hk.cell (b := w0.heap.size) (o := 0) (hzq) (fun h => h)).trans (r0)
          refine wpOp_value (v := .int .i64 (cl : Nat)) (W' := W) rfl rfl ?_ (hK _ _ (LKeep.refl _ _ _) rfl)
          go_simp
        | 4, hoi, hom =>
          have l0 := haft _ rfl { on := 0, ground := .data } (by simp) rfl
          have hv0 : vs 0 = fileVal f fa := hpv 0 l0
          have s0 : ao.tmps[13]?.getD undef = vs 0 := hU.slot 0 (by decide) l0
          rw [hv0] at s0
          have l1 := haft _ rfl { on := 1, ground := .data } (by simp) rfl
          have hv1 : vs 1 = .slice A N c := hpv 1 l1
          have s1 : ao.tmps[14]?.getD undef = vs 1 := hU.slot 1 (by decide) l1
          rw [hv1] at s1
          have l3 := haft _ rfl { on := 3, ground := .data } (by simp) rfl
          have hv3 : vs 3 = .int .i64 (cl : Nat) := hpv 3 l3
          have s3 : ao.tmps[16]?.getD undef = vs 3 := hU.slot 3 (by decide) l3
          rw [hv3] at s3
          refine wpOp_enter (f := 29) (args := #[fileVal f fa, .slice A N c, .int .i64 (cl : Nat)]) (W' := W) rfl rfl ?_ (((with7_any (HBX1.out.v.next (hk.below (B := w1.heap.size) (fun k h => h.elim) (Nat.le_refl _))) (HP1.out.next (hk.below (B := w1.heap.size) (fun k h => h.elim) (Nat.le_refl _))) HPL.out hcl).mono (fun e w h => by rw [HWM.out] at h; exact h)).mono (fun e w'' h => ?_))
          · go_simp
          · obtain ⟨he, hbw⟩ := h
            exact ⟨_, he, hK _ _ (LKeep.below hbw (fun h => h)) rfl⟩
        | 5, hoi, hom =>
          have z7 : ao.tmps[7]?.getD undef = .pointer (some ⟨w0.heap.size, 0, none⟩) := hU.same 7 (by decide)
          refine wpOp_value (v := .pointer (some ⟨w0.heap.size, 1, none⟩)) (W' := W) rfl rfl ?_ (hK _ _ (LKeep.refl _ _ _) rfl)
          go_simp
        | 6, hoi, hom =>
          have l5 := haft _ rfl { on := 5, ground := .data } (by simp) rfl
          have hv5 : vs 5 = .pointer (some ⟨w0.heap.size, 1, none⟩) := hpv 5 l5
          have s5 : ao.tmps[18]?.getD undef = vs 5 := hU.slot 5 (by decide) l5
          rw [hv5] at s5
          have y0 := (hk.cell (b := w0.heap.size) (o := 1) (hzq) (fun h => h)).trans (r1)
          refine wpOp_value (v := .int .i64 (ca : Nat)) (W' := W) rfl rfl ?_ (hK _ _ (LKeep.refl _ _ _) rfl)
          go_simp
        | 7, hoi, hom =>
          have l4 := haft _ rfl { on := 4, ground := .data } (by simp) rfl
          have hv4 : vs 4 = .int .i64 wm := hpv 4 l4
          have s4 : ao.tmps[17]?.getD undef = vs 4 := hU.slot 4 (by decide) l4
          rw [hv4] at s4
          have l6 := haft _ rfl { on := 6, ground := .data } (by simp) rfl
          have hv6 : vs 6 = .int .i64 (ca : Nat) := hpv 6 l6
          have s6 : ao.tmps[19]?.getD undef = vs 6 := hU.slot 6 (by decide) l6
          rw [hv6] at s6
          refine wpOp_value (v := .bool true) (W' := W) rfl rfl ?_ (hK _ _ (LKeep.refl _ _ _) rfl)
          go_simp
        | 8, hoi, hom =>
          have l7 := haft _ rfl { on := 7, ground := .data } (by simp) rfl
          have hv7 : vs 7 = .bool true := hpv 7 l7
          have s7 : ao.tmps[20]?.getD undef = vs 7 := hU.slot 7 (by decide) l7
          rw [hv7] at s7
          refine wpOp_value (v := .bool true) (W' := W) rfl rfl ?_ (hK _ _ (LKeep.refl _ _ _) rfl)
          go_simp
        | 9, hoi, hom =>
          have l8 := haft _ rfl { on := 8, ground := .guard } (by simp) rfl
          have hv8 : vs 8 = .bool true := hpv 8 l8
          have s8 : ao.tmps[21]?.getD undef = vs 8 := hU.slot 8 (by decide) l8
          rw [hv8] at s8
          have z7 : ao.tmps[7]?.getD undef = .pointer (some ⟨w0.heap.size, 0, none⟩) := hU.same 7 (by decide)
          refine wpOp_wanted (v := .pointer (some ⟨w0.heap.size, 2, none⟩)) (W' := W) rfl ?_ ?_ (hK _ _ (LKeep.refl _ _ _) rfl)
          · refine wanted_yes (j := 8) (d := 21) ?_ ?_ s8 <;> rfl
          go_simp
        | 10, hoi, hom =>
          have l8 := haft _ rfl { on := 8, ground := .guard } (by simp) rfl
          have hv8 : vs 8 = .bool true := hpv 8 l8
          have s8 : ao.tmps[21]?.getD undef = vs 8 := hU.slot 8 (by decide) l8
          rw [hv8] at s8
          have l9 := haft _ rfl { on := 9, ground := .data } (by simp) rfl
          have hv9 : vs 9 = .pointer (some ⟨w0.heap.size, 2, none⟩) := hpv 9 l9
          have s9 : ao.tmps[22]?.getD undef = vs 9 := hU.slot 9 (by decide) l9
          rw [hv9] at s9
          have y0 := (hk.cell (b := w0.heap.size) (o := 2) (hzq) (fun h => h)).trans (r2)
          refine wpOp_wanted (v := .int .i64 cd) (W' := W) rfl ?_ ?_ (hK _ _ (LKeep.refl _ _ _) rfl)
          · refine wanted_yes (j := 8) (d := 21) ?_ ?_ s8 <;> rfl
          go_simp
        | 11, hoi, hom =>
          have l8 := haft _ rfl { on := 8, ground := .guard } (by simp) rfl
          have hv8 : vs 8 = .bool true := hpv 8 l8
          have s8 : ao.tmps[21]?.getD undef = vs 8 := hU.slot 8 (by decide) l8
          rw [hv8] at s8
          have z3 : ao.tmps[3]?.getD undef = .pointer (some ⟨w.heap.size, 0, none⟩) := hU.same 3 (by decide)
          refine wpOp_wanted (v := .pointer (some ⟨w.heap.size, 1, none⟩)) (W' := W) rfl ?_ ?_ (hK _ _ (LKeep.refl _ _ _) rfl)
          · refine wanted_yes (j := 8) (d := 21) ?_ ?_ s8 <;> rfl
          go_simp
        | 12, hoi, hom =>
          have l8 := haft _ rfl { on := 8, ground := .guard } (by simp) rfl
          have hv8 : vs 8 = .bool true := hpv 8 l8
          have s8 : ao.tmps[21]?.getD undef = vs 8 := hU.slot 8 (by decide) l8
          rw [hv8] at s8
          have l11 := haft _ rfl { on := 11, ground := .data } (by simp) rfl
          have hv11 : vs 11 = .pointer (some ⟨w.heap.size, 1, none⟩) := hpv 11 l11
          have s11 : ao.tmps[24]?.getD undef = vs 11 := hU.slot 11 (by decide) l11
          rw [hv11] at s11
          have y0 := (hk.cell (b := w.heap.size) (o := 1) (hz) (fun h => h)).trans (HE2.out)
          refine wpOp_wanted (v := .slice (some ⟨bu, ou, none⟩) f.untils.length fa.c2) (W' := W) rfl ?_ ?_ (hK _ _ (LKeep.refl _ _ _) rfl)
          · refine wanted_yes (j := 8) (d := 21) ?_ ?_ s8 <;> rfl
          go_simp
        | 13, hoi, hom =>
          have l8 := haft _ rfl { on := 8, ground := .guard } (by simp) rfl
          have hv8 : vs 8 = .bool true := hpv 8 l8
          have s8 : ao.tmps[21]?.getD undef = vs 8 := hU.slot 8 (by decide) l8
          rw [hv8] at s8
          have z7 : ao.tmps[7]?.getD undef = .pointer (some ⟨w0.heap.size, 0, none⟩) := hU.same 7 (by decide)
          refine wpOp_wanted (v := .pointer (some ⟨w0.heap.size, 1, none⟩)) (W' := W) rfl ?_ ?_ (hK _ _ (LKeep.refl _ _ _) rfl)
          · refine wanted_yes (j := 8) (d := 21) ?_ ?_ s8 <;> rfl
          go_simp
        | 14, hoi, hom =>
          have l8 := haft _ rfl { on := 8, ground := .guard } (by simp) rfl
          have hv8 : vs 8 = .bool true := hpv 8 l8
          have s8 : ao.tmps[21]?.getD undef = vs 8 := hU.slot 8 (by decide) l8
          rw [hv8] at s8
          have l13 := haft _ rfl { on := 13, ground := .data } (by simp) rfl
          have hv13 : vs 13 = .pointer (some ⟨w0.heap.size, 1, none⟩) := hpv 13 l13
          have s13 : ao.tmps[26]?.getD undef = vs 13 := hU.slot 13 (by decide) l13
          rw [hv13] at s13
          have y0 := (hk.cell (b := w0.heap.size) (o := 1) (hzq) (fun h => h)).trans (r1)
          refine wpOp_wanted (v := .int .i64 (ca : Nat)) (W' := W) rfl ?_ ?_ (hK _ _ (LKeep.refl _ _ _) rfl)
          · refine wanted_yes (j := 8) (d := 21) ?_ ?_ s8 <;> rfl
          go_simp
        | 15, hoi, hom =>
          have l8 := haft _ rfl { on := 8, ground := .guard } (by simp) rfl
          have hv8 : vs 8 = .bool true := hpv 8 l8
          have s8 : ao.tmps[21]?.getD undef = vs 8 := hU.slot 8 (by decide) l8
          rw [hv8] at s8
          have l12 := haft _ rfl { on := 12, ground := .data } (by simp) rfl
          have hv12 : vs 12 = .slice (some ⟨bu, ou, none⟩) f.untils.length fa.c2 := hpv 12 l12
          have s12 : ao.tmps[25]?.getD undef = vs 12 := hU.slot 12 (by decide) l12
          rw [hv12] at s12
          have l14 := haft _ rfl { on := 14, ground := .data } (by simp) rfl
          have hv14 : vs 14 = .int .i64 (ca : Nat) := hpv 14 l14
          have s14 : ao.tmps[27]?.getD undef = vs 14 := hU.slot 14 (by decide) l14
          rw [hv14] at s14
          refine wpOp_wanted (v := .pointer (some ⟨bu, ou + ca, none⟩)) (W' := W) rfl ?_ ?_ (hK _ _ (LKeep.refl _ _ _) rfl)
          · refine wanted_yes (j := 8) (d := 21) ?_ ?_ s8 <;> rfl
          go_simp
        | 16, hoi, hom =>
          have l8 := haft _ rfl { on := 8, ground := .guard } (by simp) rfl
          have hv8 : vs 8 = .bool true := hpv 8 l8
          have s8 : ao.tmps[21]?.getD undef = vs 8 := hU.slot 8 (by decide) l8
          rw [hv8] at s8
          have l15 := haft _ rfl { on := 15, ground := .data } (by simp) rfl
          have hv15 : vs 15 = .pointer (some ⟨bu, ou + ca, none⟩) := hpv 15 l15
          have s15 : ao.tmps[28]?.getD undef = vs 15 := hU.slot 15 (by decide) l15
          rw [hv15] at s15
          have y0 := (hk.cell (b := bu) (o := ou + ca) (hbu) (fun h => h)).trans (yu)
          refine wpOp_wanted (v := .int .i64 (nth f.untils ca)) (W' := W) rfl ?_ ?_ (hK _ _ (LKeep.refl _ _ _) rfl)
          · refine wanted_yes (j := 8) (d := 21) ?_ ?_ s8 <;> rfl
          go_simp
        | 17, hoi, hom =>
          have l8 := haft _ rfl { on := 8, ground := .guard } (by simp) rfl
          have hv8 : vs 8 = .bool true := hpv 8 l8
          have s8 : ao.tmps[21]?.getD undef = vs 8 := hU.slot 8 (by decide) l8
          rw [hv8] at s8
          have l10 := haft _ rfl { on := 10, ground := .data } (by simp) rfl
          have hv10 : vs 10 = .int .i64 cd := hpv 10 l10
          have s10 : ao.tmps[23]?.getD undef = vs 10 := hU.slot 10 (by decide) l10
          rw [hv10] at s10
          have l16 := haft _ rfl { on := 16, ground := .data } (by simp) rfl
          have hv16 : vs 16 = .int .i64 (nth f.untils ca) := hpv 16 l16
          have s16 : ao.tmps[29]?.getD undef = vs 16 := hU.slot 16 (by decide) l16
          rw [hv16] at s16
          refine wpOp_wanted (v := .bool false) (W' := W) rfl ?_ ?_ (hK _ _ (LKeep.refl _ _ _) rfl)
          · refine wanted_yes (j := 8) (d := 21) ?_ ?_ s8 <;> rfl
          go_simp
        | 18, hoi, hom =>
          have l8 := haft _ rfl { on := 8, ground := .data } (by simp) rfl
          have hv8 : vs 8 = .bool true := hpv 8 l8
          have s8 : ao.tmps[21]?.getD undef = vs 8 := hU.slot 8 (by decide) l8
          rw [hv8] at s8
          have l17 := haft _ rfl { on := 17, ground := .data } (by simp) rfl
          have hv17 : vs 17 = .bool false := hpv 17 l17
          have s17 : ao.tmps[30]?.getD undef = vs 17 := hU.slot 17 (by decide) l17
          rw [hv17] at s17
          refine wpOp_value (v := .bool false) (W' := W) rfl rfl ?_ (hK _ _ (LKeep.refl _ _ _) rfl)
          go_simp
        | 19, hoi, hom =>
          have l18 := haft _ rfl { on := 18, ground := .data } (by simp) rfl
          have hv18 : vs 18 = .bool false := hpv 18 l18
          have s18 : ao.tmps[31]?.getD undef = vs 18 := hU.slot 18 (by decide) l18
          rw [hv18] at s18
          refine wpOp_value (v := .bool false) (W' := W) rfl rfl ?_ (hK _ _ (LKeep.refl _ _ _) rfl)
          go_simp
        | 20, hoi, hom =>
          have l19 := haft _ rfl { on := 19, ground := .guard } (by simp) rfl
          have hv19 : vs 19 = .bool false := hpv 19 l19
          have s19 : ao.tmps[32]?.getD undef = vs 19 := hU.slot 19 (by decide) l19
          rw [hv19] at s19
          refine wpOp_unwanted rfl ?_ (hK _ _ (LKeep.refl _ _ _) rfl)
          refine wanted_no (j := 19) (d := 32) ?_ ?_ s19 <;> rfl
        | 21, hoi, hom =>
          have l19 := haft _ rfl { on := 19, ground := .guard } (by simp) rfl
          have hv19 : vs 19 = .bool false := hpv 19 l19
          have s19 : ao.tmps[32]?.getD undef = vs 19 := hU.slot 19 (by decide) l19
          rw [hv19] at s19
          refine wpOp_unwanted rfl ?_ (hK _ _ (LKeep.refl _ _ _) rfl)
          refine wanted_no (j := 19) (d := 32) ?_ ?_ s19 <;> rfl
        | 22, hoi, hom =>
          have l19 := haft _ rfl { on := 19, ground := .guard } (by simp) rfl
          have hv19 : vs 19 = .bool false := hpv 19 l19
          have s19 : ao.tmps[32]?.getD undef = vs 19 := hU.slot 19 (by decide) l19
          rw [hv19] at s19
          refine wpOp_unwanted rfl ?_ (hK _ _ (LKeep.refl _ _ _) rfl)
          refine wanted_no (j := 19) (d := 32) ?_ ?_ s19 <;> rfl
        | 23, hoi, hom =>
          have l19 := haft _ rfl { on := 19, ground := .data } (by simp) rfl
          have hv19 : vs 19 = .bool false := hpv 19 l19
          have s19 : ao.tmps[32]?.getD undef = vs 19 := hU.slot 19 (by decide) l19
          rw [hv19] at s19
          have l22 := haft _ rfl { on := 22, ground := .data } (by simp) rfl
          have hv22 : vs 22 = undef := hpv 22 l22
          have s22 : ao.tmps[35]?.getD undef = vs 22 := hU.slot 22 (by decide) l22
          rw [hv22] at s22
          refine wpOp_value (v := .bool false) (W' := W) rfl rfl ?_ (hK _ _ (LKeep.refl _ _ _) rfl)
          go_simp
        | oi + 24, hoi, hom => exact absurd (of_decide_eq_true hom) (by omega)
      case hendB =>
        intro listed vs ao W hG hk0 hpv hpre
        have hkk := (LKeep.drew (fun _ => False) (M := fun _ => True) w1 (fun h => h)).trans hk0
        have hk := hkk.1
        have hkm := hkk.2
        clear hkk
        have hact := hG.act
        have hT := hG.lst hpre 0 #[true, true, true, true, true, true, true, true, true, true, true, true, true, true, true, true, true, true, true, true, true, true, true, true, false] rfl (by kernel_rfl) (hpre 0 (by decide) (by decide))
        rw [hG.ix hT (l := [0, 1, 2, 3, 4, 5, 6, 7, 8, 9, 10, 11, 12, 13, 14, 15, 16, 17, 18, 19, 20, 21, 22, 23]) (by kernel_rfl)] at hact
        rw [hG.lo hT (k := 1) (by kernel_rfl)]
        have hv0 : vs 0 = fileVal f fa := hpv 0 (hpre 0 (by decide) (by decide))
        have hv1 : vs 1 = .slice A N c := hpv 1 (hpre 1 (by decide) (by decide))
        have hv2 : vs 2 = .pointer (some ⟨w0.heap.size, 0, none⟩) := hpv 2 (hpre 2 (by decide) (by decide))
        have hv3 : vs 3 = .int .i64 (cl : Nat) := hpv 3 (hpre 3 (by decide) (by decide))
        have hv4 : vs 4 = .int .i64 wm := hpv 4 (hpre 4 (by decide) (by decide))
        have hv5 : vs 5 = .pointer (some ⟨w0.heap.size, 1, none⟩) := hpv 5 (hpre 5 (by decide) (by decide))
        have hv6 : vs 6 = .int .i64 (ca : Nat) := hpv 6 (hpre 6 (by decide) (by decide))
        have hv7 : vs 7 = .bool true := hpv 7 (hpre 7 (by decide) (by decide))
        have hv8 : vs 8 = .bool true := hpv 8 (hpre 8 (by decide) (by decide))
        have hv9 : vs 9 = .pointer (some ⟨w0.heap.size, 2, none⟩) := hpv 9 (hpre 9 (by decide) (by decide))
        have hv10 : vs 10 = .int .i64 cd := hpv 10 (hpre 10 (by decide) (by decide))
        have hv11 : vs 11 = .pointer (some ⟨w.heap.size, 1, none⟩) := hpv 11 (hpre 11 (by decide) (by decide))
        have hv12 : vs 12 = .slice (some ⟨bu, ou, none⟩) f.untils.length fa.c2 := hpv 12 (hpre 12 (by decide) (by decide))
        have hv13 : vs 13 = .pointer (some ⟨w0.heap.size, 1, none⟩) := hpv 13 (hpre 13 (by decide) (by decide))
        have hv14 : vs 14 = .int .i64 (ca : Nat) := hpv 14 (hpre 14 (by decide) (by decide))
        have hv15 : vs 15 = .pointer (some ⟨bu, ou + ca, none⟩) := hpv 15 (hpre 15 (by decide) (by decide))
        have hv16 : vs 16 = .int .i64 (nth f.untils ca) := hpv 16 (hpre 16 (by decide) (by decide))
        have hv17 : vs 17 = .bool false := hpv 17 (hpre 17 (by decide) (by decide))
        have hv18 : vs 18 = .bool false := hpv 18 (hpre 18 (by decide) (by decide))
        have hv19 : vs 19 = .bool false := hpv 19 (hpre 19 (by decide) (by decide))
        have hv20 : vs 20 = undef := hpv 20 (hpre 20 (by decide) (by decide))
        have hv21 : vs 21 = undef := hpv 21 (hpre 21 (by decide) (by decide))
        have hv22 : vs 22 = undef := hpv 22 (hpre 22 (by decide) (by decide))
        have hv23 : vs 23 = .bool false := hpv 23 (hpre 23 (by decide) (by decide))
        clear hpv hpre hG hk0
        obtain rfl : ao = _ := hact
        subst hT
        simp only [setAll, List.setIfInBounds_toArray, List.set_cons_succ, List.set_cons_zero, List.getD_cons_succ, List.getD_cons_zero]
        simp only [hv0, hv1, hv2, hv3, hv4, hv5, hv6, hv7, hv8, hv9, hv10, hv11, hv12, hv13, hv14, hv15, hv16, hv17, hv18, hv19, hv20, hv21, hv22, hv23]
        clear hv0 hv1 hv2 hv3 hv4 hv5 hv6 hv7 hv8 hv9 hv10 hv11 hv12 hv13 hv14 hv15 hv16 hv17 hv18 hv19 hv20 hv21 hv22 hv23
        refine wpAny_all (rs := [24]) (by kernel_rfl) (by simp) ?_
        intro i2 hi2
        obtain rfl : i2 = 24 := by simpa using hi2
        refine wpOp_valueD (v := .bool false) (W' := W) (d := 6) rfl rfl rfl ?_ ?_
        · go_simp
        try simp only [Act.put, List.setIfInBounds_toArray, List.set_cons_zero, List.set_cons_succ]
        refine wpAny_done (by kernel_rfl) ?_ _
        have HBZ := hide (HB1.out.trans ((hk.below (B := w1.heap.size) (fun k h => h.elim) (Nat.le_refl _)).mono HB1.out.size))
        clear hk hkm
        go_wp2_with fail
        go_ret
        exact ⟨by rw [HX.out]; first | rfl | simp, HBZ.out⟩
end Go.Proofs.YtllmahcanipcpaaGreat
