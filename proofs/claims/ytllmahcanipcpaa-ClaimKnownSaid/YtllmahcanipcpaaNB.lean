/- The contract of claim's so: whether all papers are so. -/
import Derived.Test.YtllmahcanipcpaaNA
import Derived.Deep.DeepCutAuto
import Derived.Laws.Shifts
set_option linter.unusedVariables false
set_option linter.unusedSimpArgs false
namespace Go.Proofs.Ytllmahcanipcpaa
open Go.RowKit

theorem idx_place (r : List Int) (p : Int) : idxOf (fun x => x == p) r = placeM r p := rfl
set_option maxHeartbeats 4000000 in
set_option maxRecDepth 100000 in
theorem so_any {w : World} {b bm : Nat} {f : File} {a : FA} {but : Nat} {V : List Int → Int} (h : LookF w b bm f a but V) (hv : Valid f) (hbut : but < 32) {s : List Int} (hs : PlB f s) :
    Calls Try.prog 78 #[.pointer (some ⟨b, 0, none⟩), plVal s] w fun e w' => e = .returned (.bool (soB f but s)) ∧ Below w.heap.size w w' := by
  obtain ⟨A1, A2, A3, A4, A5, c1, c2, c3, c4, c5, R, K⟩ := a
  have q2 := h.q2
  have q3 := h.q3
  have q5 := h.q5
  have hm3 := h.v.m3
  have hm4 := h.v.m4
  dsimp only at q2 q3 hm3 hm4
  unfold maxLen at hm3 hm4
  have hpl := hv.papers
  have hll := hv.lots
  have hlt := cell_lt q3
  have HC := hide h.v
  have HV := hide hv
  have HP := hide hs
  have HPL := hide (show plVal s = .agg #[iv (nth s 0), iv (nth s 1), iv (nth s 2), iv (nth s 3)] from rfl)
  have hB0 : Below w.heap.size w (w.alloc (.cells #[iv (nth s 0), iv (nth s 1), iv (nth s 2), iv (nth s 3)] 86)) := (Below.refl _ _).alloc (Nat.le_refl _) _
  have bk : Blk (w.alloc (.cells #[iv (nth s 0), iv (nth s 1), iv (nth s 2), iv (nth s 3)] 86)) w.heap.size 86 #[iv (nth s 0), iv (nth s 1), iv (nth s 2), iv (nth s 3)] := Blk.made
  have HB0 := hide hB0
  have HBK := hide bk
  clear h hv hs hB0 bk
  simp only [plVal, iv] at *
  go_enter Try.func78, Try.ntmps78
  go_upto_region 1 with (fail)
  generalize (w.alloc (.cells #[.int .i64 (nth s 0), .int .i64 (nth s 1), .int .i64 (nth s 2), .int .i64 (nth s 3)] 86)) = w0 at *
  have HSY := hide (sayings_any w0)
  go_upto_region 2 with (refine HSY.out.mono ?_; rintro e w1 ⟨rfl, hb1⟩)
  have hB2 : Below w.heap.size w (w1.alloc (.cells #[.func (.func 102) #[] #[], .func (.func 103) #[] #[], .func (.func 104) #[] #[], .func (.func 105) #[] #[]] 124)) := (HB0.out.trans (hb1.mono HB0.out.size)).alloc (by have := HB0.out.size; have := hb1.size; omega) _
  have bs : Blk (w1.alloc (.cells #[.func (.func 102) #[] #[], .func (.func 103) #[] #[], .func (.func 104) #[] #[], .func (.func 105) #[] #[]] 124)) w1.heap.size 124 #[.func (.func 102) #[] #[], .func (.func 103) #[] #[], .func (.func 104) #[] #[], .func (.func 105) #[] #[]] := Blk.made
  have bp := (HBK.out.next hb1).alloc (.cells #[.func (.func 102) #[] #[], .func (.func 103) #[] #[], .func (.func 104) #[] #[], .func (.func 105) #[] #[]] 124)
  have hz1 : w.heap.size < w1.heap.size := (HBK.out.next hb1).lt
  generalize (w1.alloc (.cells #[.func (.func 102) #[] #[], .func (.func 103) #[] #[], .func (.func 104) #[] #[], .func (.func 105) #[] #[]] 124)) = w2 at *
  have hgz : w1.heap.size < w2.heap.size := bs.lt
  generalize w1.heap.size = gs at *
  have p2 := (hB2.cell (p := ⟨b, 2, none⟩) hlt).trans q2
  have p3 := (hB2.cell (p := ⟨b, 3, none⟩) hlt).trans q3
  have p5 := (hB2.cell (p := ⟨b, 5, none⟩) hlt).trans q5
  have hw2 := hB2.size
  have HC2 := hide ((HC.out.below hB2).more hw2)
  have HB2 := hide hB2
  have HBS := hide bs
  have HBP := hide bp
  have hb2 : b < w2.heap.size := by omega
  clear hB2 bs bp q2 q3 q5 HC hb1 HB0 HBK HSY
  go_wp2_with fail
  go_loopw [6, 7, 8, 9, 17] (fun _ _ _ _ v17 wr => ∃ j : Nat, j ≤ f.papers.length ∧ v17 = .int .i64 j ∧ Hid (soToB f but s j = true) ∧ Below w2.heap.size w2 wr) (fun _ _ _ _ v17 _ => f.papers.length - (intOf v17).toNat)
  case atStart => exact ⟨0, Nat.zero_le _, rfl, hide rfl, Below.refl _ _⟩
  case round =>
    obtain ⟨j, hj, rfl, HSO, hB⟩ := hrel
    obtain ⟨k1, f1⟩ := bcell hB
    have hzr := hB.size
    have hbr : b < wr.heap.size := by omega
    have HB := hide hB
    by_cases hltj : j < f.papers.length
    · have HSU := hide (soToB_succ f but s j)
      have HSB := hide (show soBit f but s j = (but.testBit j || soP f (nth f.papers j) s) from rfl)
      have hj0 : (0 : Int) ≤ (j : Int) := Int.natCast_nonneg _
      have hj1 : (j : Int) < (f.papers.length : Int) := by omega
      obtain ⟨bs, os, hA4, hbs, g0, g1, g2⟩ := HC2.out.papers.papers hltj
      dsimp only at hA4
      have hpv := HV.out.paper j hltj
      have hbsr : bs < wr.heap.size := by omega
      have hba := bits_and hbut (show j < 5 by omega)
      generalize nth f.papers j = x at *
      obtain ⟨ps, pl, po⟩ := x
      dsimp only at g0 g1 g2 hpv
      subst hA4
      clear hB
      by_cases hbit : but.testBit j = true
      · rw [if_pos hbit] at hba
        have HX := hide (show soToB f but s (j + 1) = true by rw [HSU.out, HSO.out, HSB.out, hbit]; rfl)
        clear hbit
        go_wp2_with fail
        exact ⟨⟨j + 1, by omega, by go_num, HX, HB.out.alloc hzr _⟩, by simp [intOf]; omega⟩
      · rw [if_neg hbit] at hba
        have hbit' : but.testBit j = false := by simpa using hbit
        rw [hbit', Bool.false_or] at HSB
        obtain ⟨k, rfl⟩ : ∃ k : Nat, pl = (k : Int) := ⟨pl.toNat, by omega⟩
        have hk : k < f.lots.length := by omega
        obtain ⟨m, hm, hmr, hm4'⟩ := HP.out.at_ HV.out hk
        obtain ⟨b3, o3, hA3, hb3, y0, _, _, _⟩ := HC2.out.lots.lots hk
        have HRT := hide (HC2.out.routes k hk)
        dsimp only at hA3 y0 HRT
        subst hA3
        have hk0 : (0 : Int) ≤ (k : Int) := Int.natCast_nonneg _
        have hk1 : (k : Int) < (f.lots.length : Int) := by omega
        have hk4 : (k : Int) < 4 := by omega
        have hpk : w2.cell? ⟨w.heap.size, k, none⟩ = some (.int .i64 (nth s k)) := by
          rw [HBP.out.at_]
          match k, (show k < 4 by omega) with
          | 0, _ => rfl
          | 1, _ => rfl
          | 2, _ => rfl
          | 3, _ => rfl
        clear hbit hbit'
        go_upto_region 6 with (fail)
        have hbx : Below w2.heap.size w2 (wr.alloc (.cells #[.int .i64 ps, .int .i64 (k : Int), .int .i64 po] 48)) := HB.out.alloc hzr _
        have bx : Blk (wr.alloc (.cells #[.int .i64 ps, .int .i64 (k : Int), .int .i64 po] 48)) wr.heap.size 48 #[.int .i64 ps, .int .i64 (k : Int), .int .i64 po] := Blk.made
        generalize (wr.alloc (.cells #[.int .i64 ps, .int .i64 (k : Int), .int .i64 po] 48)) = wx at *
        clear k1 f1
        have hzx := hbx.size
        have x0 : wx.cell? ⟨wr.heap.size, 0, none⟩ = some (.int .i64 ps) := bx.at_ 0
        have x1 : wx.cell? ⟨wr.heap.size, 1, none⟩ = some (.int .i64 (k : Int)) := bx.at_ 1
        have x2 : wx.cell? ⟨wr.heap.size, 2, none⟩ = some (.int .i64 po) := bx.at_ 2
        have hxl := bx.lt
        have r2 := (hbx.cell (p := ⟨b, 2, none⟩) hb2).trans p2
        have ry := (hbx.cell (p := ⟨b3, o3 + k * 4, none⟩) hb3).trans y0
        have rp := (hbx.cell (p := ⟨w.heap.size, k, none⟩) (by show w.heap.size < _; omega)).trans hpk
        have HRX := hide (HRT.out.below hbx)
        have HBX := hide hbx
        have HPO := hide hpv
        have HMK := hide hm
        clear hbx g0 g1 g2 hpv hm
        rcases (show ps = 0 ∨ ps = 1 ∨ ps = 2 ∨ ps = 3 by have := HPO.out; omega) with rfl | rfl | rfl | rfl
        · have HSV := hide (show soP f ⟨0, (k : Int), po⟩ s = decide (placeM (nth f.lots k).route po ≤ nth s k) from by simp [soP])
          have yf : wx.cell? ⟨gs, 0, none⟩ = some (.func (.func 102) #[] #[]) := (HBX.out.cell (p := ⟨gs, 0, none⟩) hgz).trans (HBS.out.at_ 0)
          cases hsv : decide (placeM (nth f.lots k).route po ≤ nth s k)
          all_goals
            go_quiet (first | (go_at_call 72; exact Calls.quiet_of_same ((index_any (HRX.out.drewN _) po).mono (fun _ _ h => ⟨by rw [h.1, idx_place], h.2.symm⟩))))
            go_wp2_with (refine (say1_any _ _ _).mono ?_; rintro e w' ⟨rfl, rfl⟩; rw [hsv])
          · go_ret
            exact ⟨ret_b (soToB_false (j := j + 1) (by rw [HSU.out, HSO.out, HSB.out, HSV.out, hsv]; rfl) (by omega)).symm, HB2.out.trans ((below_drewN HBX.out _).mono hw2)⟩
          · exact ⟨⟨j + 1, by omega, by go_num, hide (by rw [HSU.out, HSO.out, HSB.out, HSV.out, hsv]; rfl), below_drewN HBX.out _⟩, by simp [intOf]; omega⟩
        · have HSV := hide (show soP f ⟨1, (k : Int), po⟩ s = decide (nth s k < placeM (nth f.lots k).route po) from by simp [soP])
          have yf : wx.cell? ⟨gs, 1, none⟩ = some (.func (.func 103) #[] #[]) := (HBX.out.cell (p := ⟨gs, 1, none⟩) hgz).trans (HBS.out.at_ 1)
          cases hsv : decide (nth s k < placeM (nth f.lots k).route po)
          all_goals
            go_quiet (first | (go_at_call 72; exact Calls.quiet_of_same ((index_any (HRX.out.drewN _) po).mono (fun _ _ h => ⟨by rw [h.1, idx_place], h.2.symm⟩))))
            go_wp2_with (refine (say2_any _ _ _).mono ?_; rintro e w' ⟨rfl, rfl⟩; rw [hsv])
          · go_ret
            exact ⟨ret_b (soToB_false (j := j + 1) (by rw [HSU.out, HSO.out, HSB.out, HSV.out, hsv]; rfl) (by omega)).symm, HB2.out.trans ((below_drewN HBX.out _).mono hw2)⟩
          · exact ⟨⟨j + 1, by omega, by go_num, hide (by rw [HSU.out, HSO.out, HSB.out, HSV.out, hsv]; rfl), below_drewN HBX.out _⟩, by simp [intOf]; omega⟩
        · obtain ⟨hq1, hq2, hq3⟩ := HPO.out.2.2.2.2.2 (by omega)
          obtain ⟨k2, rfl⟩ : ∃ k2 : Nat, po = (k2 : Int) := ⟨po.toNat, by omega⟩
          have HSV := hide (show soP f ⟨2, (k : Int), (k2 : Int)⟩ s = (withM f s k == withM f s k2) from by simp [soP])
          have hk2 : k2 < f.lots.length := by omega
          obtain ⟨m2, hm2, hmr2, hm24⟩ := HP.out.at_ HV.out hk2
          have hW1 : withM f s k = nth (nth f.lots k).route m := by rw [withM, HMK.out, Int.toNat_natCast]
          have hW2 : withM f s k2 = nth (nth f.lots k2).route m2 := by rw [withM, hm2, Int.toNat_natCast]
          have n4 : ∀ i, i < 4 → nth [nth s 0, nth s 1, nth s 2, nth s 3] i = nth s i := fun i hi => by
            match i, hi with
            | 0, _ => rfl
            | 1, _ => rfl
            | 2, _ => rfl
            | 3, _ => rfl
          have hm' := (n4 k (by omega)).trans HMK.out
          have hm2' := (n4 k2 (by omega)).trans hm2
          have HFX := hide ((HC2.out.below HBX.out).more hzx)
          have yf : wx.cell? ⟨gs, 2, none⟩ = some (.func (.func 104) #[] #[]) := (HBX.out.cell (p := ⟨gs, 2, none⟩) hgz).trans (HBS.out.at_ 2)
          have s0 := (HBX.out.cell (p := ⟨w.heap.size, 0, none⟩) (by show w.heap.size < _; omega)).trans (HBP.out.at_ 0)
          have s1 := (HBX.out.cell (p := ⟨w.heap.size, 1, none⟩) (by show w.heap.size < _; omega)).trans (HBP.out.at_ 1)
          have s2 := (HBX.out.cell (p := ⟨w.heap.size, 2, none⟩) (by show w.heap.size < _; omega)).trans (HBP.out.at_ 2)
          have s3 := (HBX.out.cell (p := ⟨w.heap.size, 3, none⟩) (by show w.heap.size < _; omega)).trans (HBP.out.at_ 3)
          simp only [List.getElem?_toArray, List.getElem?_cons_succ, List.getElem?_cons_zero] at s0 s1 s2 s3
          have HW1 := hide hW1
          have HW2 := hide hW2
          have HM1 := hide hm'
          have HM2 := hide hm2'
          clear hW1 hW2 hm2 hm' hm2' n4 hq3
          go_quiet (first | (go_at_call 72; exact Calls.quiet_of_same ((index_any (HRX.out.drewN _) _).mono (fun _ _ h => ⟨by rw [h.1], h.2.symm⟩))))
          go_upto_region 8 with (fail)
          have hd : Below wx.heap.size wx (wx.drewN nq) := below_drewN (Below.refl _ _) nq
          have HBY := hide (HBX.out.trans (hd.mono hzx))
          have HFY := hide (HFX.out.next hd)
          have r2' := (hd.cell (p := ⟨b, 2, none⟩) (by show b < _; omega)).trans r2
          have x1' := (hd.cell (p := ⟨wr.heap.size, 1, none⟩) hxl).trans x1
          have x2' := (hd.cell (p := ⟨wr.heap.size, 2, none⟩) hxl).trans x2
          have x0' := (hd.cell (p := ⟨wr.heap.size, 0, none⟩) hxl).trans x0
          have yf' := (hd.cell (p := ⟨gs, 2, none⟩) (by show gs < _; omega)).trans yf
          have s0' := (hd.cell (p := ⟨w.heap.size, 0, none⟩) (by show w.heap.size < _; omega)).trans s0
          have s1' := (hd.cell (p := ⟨w.heap.size, 1, none⟩) (by show w.heap.size < _; omega)).trans s1
          have s2' := (hd.cell (p := ⟨w.heap.size, 2, none⟩) (by show w.heap.size < _; omega)).trans s2
          have s3' := (hd.cell (p := ⟨w.heap.size, 3, none⟩) (by show w.heap.size < _; omega)).trans s3
          have hzy := hd.size
          clear hd x0 x1 x2 yf s0 s1 s2 s3 r2 ry rp
          generalize wx.drewN nq = wy at *
          have hzw : w.heap.size < wy.heap.size := by omega
          have hzg : gs < wy.heap.size := by omega
          have hzr' : wr.heap.size < wy.heap.size := by omega
          have HWC : Hid (∀ (t : Later wy) (x : Nat), x = k ∨ x = k2 → Calls Try.prog 50 #[.pointer (some ⟨b, 0, none⟩), .agg #[.int .i64 (nth s 0), .int .i64 (nth s 1), .int .i64 (nth s 2), .int .i64 (nth s 3)], .int .i64 (x : Int)] (grow wy t) fun e w' => e = .returned (.int .i64 (withM f s x)) ∧ Below (grow wy t).heap.size (grow wy t) w') := fun t x hx => by
            rcases hx with rfl | rfl
            · rw [HW1.out]; exact with_any (HFY.out.next (grow_below (t := t))) ((grow_cell (t := t) b 2 (by omega)).trans r2') (nth s 0) (nth s 1) (nth s 2) (nth s 3) hk (by omega) HM1.out hmr
            · rw [HW2.out]; exact with_any (HFY.out.next (grow_below (t := t))) ((grow_cell (t := t) b 2 (by omega)).trans r2') (nth s 0) (nth s 1) (nth s 2) (nth s 3) hk2 (by omega) HM2.out hmr2
          refine wp_region_grow (by kernel_rfl) (by kernel_rfl) ?_
          have hgc := @grow_cell
          repeat (first | go_big_quiet_step ((first | (go_at_call 50; exact Calls.grow_of (HWC.out _ _ (by first | exact .inl rfl | exact .inr rfl))))) | quiet_step ((first | (go_at_call 50; exact Calls.grow_of (HWC.out _ _ (by first | exact .inl rfl | exact .inr rfl))))))
          refine wpQuiet_nil ?_
          rintro _ ⟨t, rfl⟩
          have hbt := grow_below (w := wy) (t := t)
          have x0'' := (hbt.cell (p := ⟨wr.heap.size, 0, none⟩) hzr').trans x0'
          have yf'' := (hbt.cell (p := ⟨gs, 2, none⟩) hzg).trans yf'
          have HBZ := hide (HBY.out.trans (hbt.mono (by have := HBY.out.size; omega)))
          clear hgc x0' x1' x2' yf' s0' s1' s2' s3' r2' hbt
          generalize grow wy t = wz at *
          cases hsv : (withM f s k == withM f s k2)
          all_goals
            have HSX := hide hsv
            clear hsv
            go_wp2_with (refine (say3_any _ _ _).mono ?_; rintro e w' ⟨rfl, rfl⟩; rw [HSX.out])
          · go_ret
            exact ⟨ret_b (soToB_false (j := j + 1) (by rw [HSU.out, HSO.out, HSB.out, HSV.out, HSX.out]; rfl) (by omega)).symm, HB2.out.trans (HBZ.out.mono hw2)⟩
          · exact ⟨⟨j + 1, by omega, by go_num, hide (by rw [HSU.out, HSO.out, HSB.out, HSV.out, HSX.out]; rfl), HBZ.out⟩, by simp [intOf]; omega⟩
        · obtain ⟨hq1, hq2, hq3⟩ := HPO.out.2.2.2.2.2 (by omega)
          obtain ⟨k2, rfl⟩ : ∃ k2 : Nat, po = (k2 : Int) := ⟨po.toNat, by omega⟩
          have HSV := hide (show soP f ⟨3, (k : Int), (k2 : Int)⟩ s = (withM f s k != withM f s k2) from by simp [soP])
          have hk2 : k2 < f.lots.length := by omega
          obtain ⟨m2, hm2, hmr2, hm24⟩ := HP.out.at_ HV.out hk2
          have hW1 : withM f s k = nth (nth f.lots k).route m := by rw [withM, HMK.out, Int.toNat_natCast]
          have hW2 : withM f s k2 = nth (nth f.lots k2).route m2 := by rw [withM, hm2, Int.toNat_natCast]
          have n4 : ∀ i, i < 4 → nth [nth s 0, nth s 1, nth s 2, nth s 3] i = nth s i := fun i hi => by
            match i, hi with
            | 0, _ => rfl
            | 1, _ => rfl
            | 2, _ => rfl
            | 3, _ => rfl
          have hm' := (n4 k (by omega)).trans HMK.out
          have hm2' := (n4 k2 (by omega)).trans hm2
          have HFX := hide ((HC2.out.below HBX.out).more hzx)
          have yf : wx.cell? ⟨gs, 3, none⟩ = some (.func (.func 105) #[] #[]) := (HBX.out.cell (p := ⟨gs, 3, none⟩) hgz).trans (HBS.out.at_ 3)
          have s0 := (HBX.out.cell (p := ⟨w.heap.size, 0, none⟩) (by show w.heap.size < _; omega)).trans (HBP.out.at_ 0)
          have s1 := (HBX.out.cell (p := ⟨w.heap.size, 1, none⟩) (by show w.heap.size < _; omega)).trans (HBP.out.at_ 1)
          have s2 := (HBX.out.cell (p := ⟨w.heap.size, 2, none⟩) (by show w.heap.size < _; omega)).trans (HBP.out.at_ 2)
          have s3 := (HBX.out.cell (p := ⟨w.heap.size, 3, none⟩) (by show w.heap.size < _; omega)).trans (HBP.out.at_ 3)
          simp only [List.getElem?_toArray, List.getElem?_cons_succ, List.getElem?_cons_zero] at s0 s1 s2 s3
          have HW1 := hide hW1
          have HW2 := hide hW2
          have HM1 := hide hm'
          have HM2 := hide hm2'
          clear hW1 hW2 hm2 hm' hm2' n4 hq3
          go_quiet (first | (go_at_call 72; exact Calls.quiet_of_same ((index_any (HRX.out.drewN _) _).mono (fun _ _ h => ⟨by rw [h.1], h.2.symm⟩))))
          go_upto_region 8 with (fail)
          have hd : Below wx.heap.size wx (wx.drewN nq) := below_drewN (Below.refl _ _) nq
          have HBY := hide (HBX.out.trans (hd.mono hzx))
          have HFY := hide (HFX.out.next hd)
          have r2' := (hd.cell (p := ⟨b, 2, none⟩) (by show b < _; omega)).trans r2
          have x1' := (hd.cell (p := ⟨wr.heap.size, 1, none⟩) hxl).trans x1
          have x2' := (hd.cell (p := ⟨wr.heap.size, 2, none⟩) hxl).trans x2
          have x0' := (hd.cell (p := ⟨wr.heap.size, 0, none⟩) hxl).trans x0
          have yf' := (hd.cell (p := ⟨gs, 3, none⟩) (by show gs < _; omega)).trans yf
          have s0' := (hd.cell (p := ⟨w.heap.size, 0, none⟩) (by show w.heap.size < _; omega)).trans s0
          have s1' := (hd.cell (p := ⟨w.heap.size, 1, none⟩) (by show w.heap.size < _; omega)).trans s1
          have s2' := (hd.cell (p := ⟨w.heap.size, 2, none⟩) (by show w.heap.size < _; omega)).trans s2
          have s3' := (hd.cell (p := ⟨w.heap.size, 3, none⟩) (by show w.heap.size < _; omega)).trans s3
          have hzy := hd.size
          clear hd x0 x1 x2 yf s0 s1 s2 s3 r2 ry rp
          generalize wx.drewN nq = wy at *
          have hzw : w.heap.size < wy.heap.size := by omega
          have hzg : gs < wy.heap.size := by omega
          have hzr' : wr.heap.size < wy.heap.size := by omega
          have HWC : Hid (∀ (t : Later wy) (x : Nat), x = k ∨ x = k2 → Calls Try.prog 50 #[.pointer (some ⟨b, 0, none⟩), .agg #[.int .i64 (nth s 0), .int .i64 (nth s 1), .int .i64 (nth s 2), .int .i64 (nth s 3)], .int .i64 (x : Int)] (grow wy t) fun e w' => e = .returned (.int .i64 (withM f s x)) ∧ Below (grow wy t).heap.size (grow wy t) w') := fun t x hx => by
            rcases hx with rfl | rfl
            · rw [HW1.out]; exact with_any (HFY.out.next (grow_below (t := t))) ((grow_cell (t := t) b 2 (by omega)).trans r2') (nth s 0) (nth s 1) (nth s 2) (nth s 3) hk (by omega) HM1.out hmr
            · rw [HW2.out]; exact with_any (HFY.out.next (grow_below (t := t))) ((grow_cell (t := t) b 2 (by omega)).trans r2') (nth s 0) (nth s 1) (nth s 2) (nth s 3) hk2 (by omega) HM2.out hmr2
          refine wp_region_grow (by kernel_rfl) (by kernel_rfl) ?_
          have hgc := @grow_cell
          repeat (first | go_big_quiet_step ((first | (go_at_call 50; exact Calls.grow_of (HWC.out _ _ (by first | exact .inl rfl | exact .inr rfl))))) | quiet_step ((first | (go_at_call 50; exact Calls.grow_of (HWC.out _ _ (by first | exact .inl rfl | exact .inr rfl))))))
          refine wpQuiet_nil ?_
          rintro _ ⟨t, rfl⟩
          have hbt := grow_below (w := wy) (t := t)
          have x0'' := (hbt.cell (p := ⟨wr.heap.size, 0, none⟩) hzr').trans x0'
          have yf'' := (hbt.cell (p := ⟨gs, 3, none⟩) hzg).trans yf'
          have HBZ := hide (HBY.out.trans (hbt.mono (by have := HBY.out.size; omega)))
          clear hgc x0' x1' x2' yf' s0' s1' s2' s3' r2' hbt
          generalize grow wy t = wz at *
          cases hsv : (withM f s k != withM f s k2)
          all_goals
            have HSX := hide hsv
            clear hsv
            go_wp2_with (refine (say4_any _ _ _).mono ?_; rintro e w' ⟨rfl, rfl⟩; rw [HSX.out])
          · go_ret
            exact ⟨ret_b (soToB_false (j := j + 1) (by rw [HSU.out, HSO.out, HSB.out, HSV.out, HSX.out]; rfl) (by omega)).symm, HB2.out.trans (HBZ.out.mono hw2)⟩
          · exact ⟨⟨j + 1, by omega, by go_num, hide (by rw [HSU.out, HSO.out, HSB.out, HSV.out, HSX.out]; rfl), HBZ.out⟩, by simp [intOf]; omega⟩
    · go_wp2
      go_ret
      exact ⟨ret_b (by rw [soB, show f.papers.length = j by omega, HSO.out]), HB2.out.trans (HB.out.mono hw2)⟩
end Go.Proofs.Ytllmahcanipcpaa
