/- Hands and Lost of the reference. -/
import Derived.Test.YtocdmkilnbpkdaaGreatDoorQK
import Derived.Test.YtocdmkilnbpkdaaGreatDoorZN
import Derived.OwnWalkIn
import Derived.Deep.MidRow
import Derived.OwnWalk
import Derived.Laws.AppendOwn
import Derived.Laws.StructEq
import Derived.TacticsInMore
import Derived.Deep.DeepCutAuto
set_option linter.unusedVariables false
set_option linter.unusedSimpArgs false
namespace Go.Proofs.YtocdmkilnbpkdaaGreatDoor
open Go.RowKit
attribute [local go_sem] Oper.semAt_some

set_option maxHeartbeats 4000000 in
set_option maxRecDepth 100000 in
theorem hands12_any {b : Book} {a : BA} {w : World} {s : Int} (h : BookV w w.heap.size b a) :
 Calls Tryz.prog 20 #[bookVal b a, .int .i64 s] w fun e w' => e = .returned (.tuple #[spanVal (okS b s (handsB b (fun _ => false) s.toNat)), .int .i64 (enterK b s)]) ∧ Below w.heap.size w w' := by
 have hb0 : Below w.heap.size w ((w.alloc (.cells (bookCells b a) 25)).alloc (.cells #[.int .i64 0, .int .i64 0] 30)) := ((Below.refl _ _).alloc (Nat.le_refl _) _).alloc (by simp) _
 have HX := hide ((BoxB.made h).next ((Below.refl _ _).alloc (Nat.le_refl _) (.cells #[.int .i64 0, .int .i64 0] 30)))
 have HR := hide (show Blk ((w.alloc (.cells (bookCells b a) 25)).alloc (.cells #[.int .i64 0, .int .i64 0] 30)) (w.heap.size + 1) 30 #[.int .i64 0, .int .i64 0] from Blk.made' (by simp))
 have HB := hide hb0
 clear h hb0
 have HE := hide (fun h : enterK b s = 0 => enterK_zero h)
 have HO := hide (show okS b s (handsB b (fun _ => false) s.toNat) = if enterK b s = 0 then handsB b (fun _ => false) s.toNat else ⟨0, 0⟩ from rfl)
 go_enter Tryz.func20, Tryz.ntmps20
 go_upto_region 1 with (fail)
 generalize ((w.alloc (.cells (bookCells b a) 25)).alloc (.cells #[.int .i64 0, .int .i64 0] 30)) = v0 at *
 obtain ⟨gx, x0, x1⟩ := HX.out.cells
 refine wp_region_rel (dst := fun oi => [9, 10, 11, 12, 13, 6].getD oi 0) (mono := fun oi => decide (oi < 6)) (pre := fun oi => decide (oi < 6)) (R := LKeep (fun _ => False) (fun _ => True))
  (Pv := fun oi v W => match oi with
   | 0 => v = bookVal b a
   | 1 => v = bookVal b a
   | 2 => v = .int .i64 s
   | 3 => v = .int .i64 (askK b s)
   | 4 => v = .int .i64 (enterK b s)
   | 5 => v = .int .i64 (enterK b s)
   | _ => True) (by kernel_rfl) (by kernel_rfl) (LKeep.refl _ _) (fun _ _ _ h h' => h.trans h') ?hst ?hstep ?hend
 case hst =>
  intro oi v W W' h hk
  match oi, h with
  | 0, h => exact h
  | 1, h => exact h
  | 2, h => exact h
  | 3, h => exact h
  | 4, h => exact h
  | 5, h => exact h
  | oi + 6, h => exact trivial
 case hstep =>
  intro oi hoi hom listed vs ao W hU hk0 hpv haft Ko hK
  have hkk := (LKeep.drew (fun _ => False) (M := fun _ => True) v0 (fun h => h)).trans hk0
  have hk := hkk.1
  have hkm := hkk.2
  clear hkk
  match oi, hoi, hom with
  | 0, hoi, hom =>
   have z2 : ao.tmps[2]?.getD undef = .pointer (some ⟨w.heap.size, 0, none⟩) := hU.same 2 (by decide)
   have y0 := (hk.cell (b := w.heap.size) (o := 0) (gx) (fun h => h)).trans (x0)
   have y1 := (hk.cell (b := w.heap.size) (o := 1) (gx) (fun h => h)).trans (x1)
   refine wpOp_value (v := bookVal b a) (W' := W) rfl rfl ?_ (hK _ _ (LKeep.refl _ _ _) rfl)
   go_simp
  | 1, hoi, hom =>
   have z2 : ao.tmps[2]?.getD undef = .pointer (some ⟨w.heap.size, 0, none⟩) := hU.same 2 (by decide)
   have y0 := (hk.cell (b := w.heap.size) (o := 0) (gx) (fun h => h)).trans (x0)
   have y1 := (hk.cell (b := w.heap.size) (o := 1) (gx) (fun h => h)).trans (x1)
   refine wpOp_value (v := bookVal b a) (W' := W) rfl rfl ?_ (hK _ _ (LKeep.refl _ _ _) rfl)
   go_simp
  | 2, hoi, hom =>
   have z1 : ao.tmps[1]?.getD undef = .int .i64 s := hU.same 1 (by decide)
   refine wpOp_value (v := .int .i64 s) (W' := W) rfl rfl ?_ (hK _ _ (LKeep.refl _ _ _) rfl)
   go_simp
  | 3, hoi, hom =>
   have l1 := haft _ rfl ⟨1, .data⟩ (by simp) rfl
   have s1 : ao.tmps[10]?.getD undef = bookVal b a := (hU.slot 1 (by decide) l1).trans (hpv 1 l1)
   have l2 := haft _ rfl ⟨2, .data⟩ (by simp) rfl
   have s2 : ao.tmps[11]?.getD undef = .int .i64 s := (hU.slot 2 (by decide) l2).trans (hpv 2 l2)
   have hc := asked12_any (HX.out.v.next (hk.below (B := v0.heap.size) (fun k h => h.elim) (Nat.le_refl _))) s
   refine wpOp_enter (f := 68) (args := #[bookVal b a, .int .i64 s]) (W' := W) rfl rfl ?_ ((hc).mono (fun e w'' h => ?_))
   · go_simp
   · obtain ⟨he, hbw⟩ := h
     exact ⟨_, he, hK _ _ (LKeep.below hbw (fun h => h)) rfl⟩
  | 4, hoi, hom =>
   have l0 := haft _ rfl ⟨0, .data⟩ (by simp) rfl
   have s0 : ao.tmps[9]?.getD undef = bookVal b a := (hU.slot 0 (by decide) l0).trans (hpv 0 l0)
   have l3 := haft _ rfl ⟨3, .data⟩ (by simp) rfl
   have s3 : ao.tmps[12]?.getD undef = .int .i64 (askK b s) := (hU.slot 3 (by decide) l3).trans (hpv 3 l3)
   have hc := known12_any (HX.out.v.next (hk.below (B := v0.heap.size) (fun k h => h.elim) (Nat.le_refl _))) (e := askK b s) ask_valid
   rw [known_ask] at hc
   refine wpOp_enter (f := 67) (args := #[bookVal b a, .int .i64 (askK b s)]) (W' := W) rfl rfl ?_ ((hc).mono (fun e w'' h => ?_))
   · go_simp
   · obtain ⟨he, hbw⟩ := h
     exact ⟨_, he, hK _ _ (LKeep.below hbw (fun h => h)) rfl⟩
  | 5, hoi, hom =>
   have l4 := haft _ rfl ⟨4, .data⟩ (by simp) rfl
   have s4 : ao.tmps[13]?.getD undef = .int .i64 (enterK b s) := (hU.slot 4 (by decide) l4).trans (hpv 4 l4)
   refine wpOp_value (v := .int .i64 (enterK b s)) (W' := W) rfl rfl ?_ (hK _ _ (LKeep.refl _ _ _) rfl)
   go_simp
  | oi + 6, hoi, hom => exact absurd (of_decide_eq_true hom) (by omega)
 case hend =>
  intro listed vs ao W hG hk0 hpv hpre
  have hkk := (LKeep.drew (fun _ => False) (M := fun _ => True) v0 (fun h => h)).trans hk0
  have hk := hkk.1
  have hkm := hkk.2
  clear hkk
  have hact := hG.act
  have hT := hG.lst hpre 0 #[true, true, true, true, true, true] rfl (by kernel_rfl) (hpre 0 (by decide) (by decide))
  rw [hG.ix hT (l := [0, 1, 2, 3, 4, 5]) (by kernel_rfl)] at hact
  rw [hG.lo hT (k := 0) (by kernel_rfl)]
  have hv0 : vs 0 = bookVal b a := hpv 0 (hpre 0 (by decide) (by decide))
  have hv1 : vs 1 = bookVal b a := hpv 1 (hpre 1 (by decide) (by decide))
  have hv2 : vs 2 = .int .i64 s := hpv 2 (hpre 2 (by decide) (by decide))
  have hv3 : vs 3 = .int .i64 (askK b s) := hpv 3 (hpre 3 (by decide) (by decide))
  have hv4 : vs 4 = .int .i64 (enterK b s) := hpv 4 (hpre 4 (by decide) (by decide))
  have hv5 : vs 5 = .int .i64 (enterK b s) := hpv 5 (hpre 5 (by decide) (by decide))
  clear hpv hpre hG hk0
  obtain rfl : ao = _ := hact
  subst hT
  simp only [setAll, List.setIfInBounds_toArray, List.set_cons_succ, List.set_cons_zero, List.getD_cons_succ, List.getD_cons_zero]
  simp only [hv0, hv1, hv2, hv3, hv4, hv5]
  clear hv0 hv1 hv2 hv3 hv4 hv5
  refine wpAny_done (by kernel_rfl) ?_ _
  have hb := (hk.below (B := v0.heap.size) (fun k h => h.elim) (Nat.le_refl _))
  clear hk hkm
  have HX1 := hide (HX.out.next hb)
  have HB1 := hide (HB.out.trans (hb.mono HB.out.size))
  have hR1 := HR.out.next hb
  have hz := HR.out.lt
  have hzb := hb.size
  clear x0 x1 gx hb HX HR
  generalize hK : enterK b s = K at *
  have HK := hide hK
  clear hK
  generalize W = v1 at *
  have c0 := hR1.at_ 0
  have c1 := hR1.at_ 1
  have f0 := hR1.free 0
  have f1 := hR1.free 1
  simp only [List.getElem?_toArray, List.getElem?_cons_zero, List.getElem?_cons_succ] at c0 c1
  have HRR := hide hR1
  clear hR1
  by_cases hk : K = 0
  · subst hk
    rw [if_pos rfl] at HO
    have HV := hide (HE.out rfl)
    clear HE
    obtain ⟨i, rfl⟩ : ∃ i : Nat, s = (i : Int) := ⟨s.toNat, by have := HV.out.2.1; omega⟩
    have hi : i < b.steps.length := by have := HV.out.2.1; omega
    have hx6 : i < 6 := by have := HV.out.1.steps; omega
    have hi0 : (0 : Int) ≤ (i : Int) := Int.natCast_nonneg _
    have hin : (i : Int) < (b.steps.length : Int) := by omega
    have HG := hide HV.out.1.good
    have h12 : b.tallies.length ≤ 12 := by have := HV.out.1.tallies; omega
    have HSM := hide (show someB b (hasInt [] ·) = true from HV.out.2.2)
    rw [Int.toNat_natCast] at HO
    obtain ⟨gx, x0, x1⟩ := HX1.out.cells
    have HHE := hide (show handsB b (fun _ => false) i = (wayOf b).d (cB b (hasInt [] ·)) i from rfl)
    have HEN := hide (show endsTo (setOf ((wayOf b).d (cB b (hasInt [] ·)) i)) 100 = handsB b (fun _ => false) i from ends_set (hands_99 HG.out HSM.out hi))
    go_upto_region 5 with (first | (go_at_call 70; refine (down12_any HX1.out.v HG.out h12 (IntsS.nil_ (w := v1)) HSM.out).mono ?_; rintro e y2 ⟨g3, rfl, hg3, hsd, hb3⟩) | (refine wpList_load_mid rfl 95 (.tmp 22) rfl _ _ rfl (setL (setOf ((wayOf b).d (cB b (hasInt [] ·)) i))) _ ?h0 Tryz.underlying95 rfl (size95 _) ?_; (case h0 => exact hsd.range hi)) | (go_at_call 69; refine (ends12_any (setOf ((wayOf b).d (cB b (hasInt [] ·)) i)) y2).mono ?_; rintro e y4 ⟨rfl, hb9⟩; have hb4 := hb3.trans (hb9.mono hb3.size); rw [endsV, HEN.out]))
    clear hsd hb9 hb3
    have hbq := HB1.out.trans (hb4.mono HB1.out.size)
    have hR4 := HRR.out.next hb4
    clear gx x0 x1 c0 c1 f0 f1 HRR HX1
    have hb5 : Below y4.heap.size y4 (y4.alloc (.cells #[.int .i64 (handsB b (fun _ => false) i).lo, .int .i64 (handsB b (fun _ => false) i).hi] 30)) := (Below.refl _ _).alloc (Nat.le_refl _) _
    have hS := show Blk (y4.alloc (.cells #[.int .i64 (handsB b (fun _ => false) i).lo, .int .i64 (handsB b (fun _ => false) i).hi] 30)) y4.heap.size 30 #[.int .i64 (handsB b (fun _ => false) i).lo, .int .i64 (handsB b (fun _ => false) i).hi] from Blk.made
    have hR5 := hR4.next hb5
    have hbz := hbq.trans (hb5.mono hbq.size)
    have hlt5 := hR4.lt
    clear hb4 hb5 hbq hR4
    generalize (y4.alloc (.cells #[.int .i64 (handsB b (fun _ => false) i).lo, .int .i64 (handsB b (fun _ => false) i).hi] 30)) = v5 at *
    generalize y4.heap.size = gs at *
    have c0 := hS.at_ 0
    have c1 := hS.at_ 1
    have hgs := hS.lt
    simp only [List.getElem?_toArray, List.getElem?_cons_zero, List.getElem?_cons_succ] at c0 c1
    have f0 := hR5.free 0
    have f1 := hR5.free 1
    have d0 := hR5.at_ 0
    have d1 := hR5.at_ 1
    have hz5 := hR5.lt
    simp only [List.getElem?_toArray, List.getElem?_cons_zero, List.getElem?_cons_succ] at d0 d1
    have HRR := hide hR5
    clear hR5 hS
    generalize hSI : (handsB b (fun _ => false) i) = si at *
    have HSI := hide hSI
    clear hSI
    go_wp2_with fail
    have b2 : Blk ((v5.setCell ⟨w.heap.size + 1, 0, none⟩ (.int .i64 si.lo)).setCell ⟨w.heap.size + 1, 1, none⟩ (.int .i64 si.hi)) (w.heap.size + 1) 30 #[.int .i64 si.lo, .int .i64 si.hi] := (HRR.out.store 0 _).store 1 _
    have hs : Keep (fun q => q = w.heap.size + 1) v5 ((v5.setCell ⟨w.heap.size + 1, 0, none⟩ (.int .i64 si.lo)).setCell ⟨w.heap.size + 1, 1, none⟩ (.int .i64 si.hi)) := (Keep.setCell _ _ _ (fun q => q = w.heap.size + 1) rfl).trans (Keep.setCell _ _ _ (fun q => q = w.heap.size + 1) rfl)
    have hbw := hbz.trans (hs.below (B := w.heap.size) (fun k h => by omega) hbz.size)
    generalize (v5.setCell ⟨w.heap.size + 1, 0, none⟩ (.int .i64 si.lo)).setCell ⟨w.heap.size + 1, 1, none⟩ (.int .i64 si.hi) = W8 at *
    have r0 := b2.at_ 0
    have r1 := b2.at_ 1
    simp only [List.getElem?_toArray, List.getElem?_cons_zero, List.getElem?_cons_succ] at r0 r1
    exact bodyPost_ret (v := .tuple #[spanVal si, .int .i64 0]) (by simp [results, Tryz.results20, go_sem, r0, r1]) rfl ⟨by rw [Int.toNat_natCast, HSI.out, HO.out, HK.out], hbw⟩
  · rw [if_neg hk] at HO
    have hd : (K != 0) = true := by simpa using hk
    clear hk HE
    go_wp2_with fail
    have b2 : Blk ((v1.setCell ⟨w.heap.size + 1, 0, none⟩ (.int .i64 0)).setCell ⟨w.heap.size + 1, 1, none⟩ (.int .i64 0)) (w.heap.size + 1) 30 #[.int .i64 0, .int .i64 0] := (HRR.out.store 0 _).store 1 _
    have hs : Keep (fun q => q = w.heap.size + 1) v1 ((v1.setCell ⟨w.heap.size + 1, 0, none⟩ (.int .i64 0)).setCell ⟨w.heap.size + 1, 1, none⟩ (.int .i64 0)) := (Keep.setCell _ _ _ (fun q => q = w.heap.size + 1) rfl).trans (Keep.setCell _ _ _ (fun q => q = w.heap.size + 1) rfl)
    have hbw := HB1.out.trans (hs.below (B := w.heap.size) (fun k h => by omega) HB1.out.size)
    generalize (v1.setCell ⟨w.heap.size + 1, 0, none⟩ (.int .i64 0)).setCell ⟨w.heap.size + 1, 1, none⟩ (.int .i64 0) = W8 at *
    have r0 := b2.at_ 0
    have r1 := b2.at_ 1
    simp only [List.getElem?_toArray, List.getElem?_cons_zero, List.getElem?_cons_succ] at r0 r1
    exact bodyPost_ret (v := .tuple #[spanVal ⟨0, 0⟩, .int .i64 K]) (by simp [results, Tryz.results20, go_sem, r0, r1]) rfl ⟨by rw [HO.out, HK.out], hbw⟩

set_option maxHeartbeats 4000000 in
set_option maxRecDepth 100000 in
theorem lost12_any {b : Book} {a : BA} {w : World} {s : Int} (h : BookV w w.heap.size b a) :
 Calls Tryz.prog 22 #[bookVal b a, .int .i64 s] w fun e w' => e = .returned (.tuple #[spanVal (okS b s (lostB b s.toNat)), .int .i64 (enterK b s)]) ∧ Below w.heap.size w w' := by
 have hb0 : Below w.heap.size w ((w.alloc (.cells (bookCells b a) 25)).alloc (.cells #[.int .i64 0, .int .i64 0] 30)) := ((Below.refl _ _).alloc (Nat.le_refl _) _).alloc (by simp) _
 have HX := hide ((BoxB.made h).next ((Below.refl _ _).alloc (Nat.le_refl _) (.cells #[.int .i64 0, .int .i64 0] 30)))
 have HR := hide (show Blk ((w.alloc (.cells (bookCells b a) 25)).alloc (.cells #[.int .i64 0, .int .i64 0] 30)) (w.heap.size + 1) 30 #[.int .i64 0, .int .i64 0] from Blk.made' (by simp))
 have HB := hide hb0
 clear h hb0
 have HE := hide (fun h : enterK b s = 0 => enterK_zero h)
 have HO := hide (show okS b s (lostB b s.toNat) = if enterK b s = 0 then lostB b s.toNat else ⟨0, 0⟩ from rfl)
 go_enter Tryz.func22, Tryz.ntmps22
 go_upto_region 1 with (fail)
 generalize ((w.alloc (.cells (bookCells b a) 25)).alloc (.cells #[.int .i64 0, .int .i64 0] 30)) = v0 at *
 obtain ⟨gx, x0, x1⟩ := HX.out.cells
 refine wp_region_rel (dst := fun oi => [9, 10, 11, 12, 13, 6].getD oi 0) (mono := fun oi => decide (oi < 6)) (pre := fun oi => decide (oi < 6)) (R := LKeep (fun _ => False) (fun _ => True))
  (Pv := fun oi v W => match oi with
   | 0 => v = bookVal b a
   | 1 => v = bookVal b a
   | 2 => v = .int .i64 s
   | 3 => v = .int .i64 (askK b s)
   | 4 => v = .int .i64 (enterK b s)
   | 5 => v = .int .i64 (enterK b s)
   | _ => True) (by kernel_rfl) (by kernel_rfl) (LKeep.refl _ _) (fun _ _ _ h h' => h.trans h') ?hst ?hstep ?hend
 case hst =>
  intro oi v W W' h hk
  match oi, h with
  | 0, h => exact h
  | 1, h => exact h
  | 2, h => exact h
  | 3, h => exact h
  | 4, h => exact h
  | 5, h => exact h
  | oi + 6, h => exact trivial
 case hstep =>
  intro oi hoi hom listed vs ao W hU hk0 hpv haft Ko hK
  have hkk := (LKeep.drew (fun _ => False) (M := fun _ => True) v0 (fun h => h)).trans hk0
  have hk := hkk.1
  have hkm := hkk.2
  clear hkk
  match oi, hoi, hom with
  | 0, hoi, hom =>
   have z2 : ao.tmps[2]?.getD undef = .pointer (some ⟨w.heap.size, 0, none⟩) := hU.same 2 (by decide)
   have y0 := (hk.cell (b := w.heap.size) (o := 0) (gx) (fun h => h)).trans (x0)
   have y1 := (hk.cell (b := w.heap.size) (o := 1) (gx) (fun h => h)).trans (x1)
   refine wpOp_value (v := bookVal b a) (W' := W) rfl rfl ?_ (hK _ _ (LKeep.refl _ _ _) rfl)
   go_simp
  | 1, hoi, hom =>
   have z2 : ao.tmps[2]?.getD undef = .pointer (some ⟨w.heap.size, 0, none⟩) := hU.same 2 (by decide)
   have y0 := (hk.cell (b := w.heap.size) (o := 0) (gx) (fun h => h)).trans (x0)
   have y1 := (hk.cell (b := w.heap.size) (o := 1) (gx) (fun h => h)).trans (x1)
   refine wpOp_value (v := bookVal b a) (W' := W) rfl rfl ?_ (hK _ _ (LKeep.refl _ _ _) rfl)
   go_simp
  | 2, hoi, hom =>
   have z1 : ao.tmps[1]?.getD undef = .int .i64 s := hU.same 1 (by decide)
   refine wpOp_value (v := .int .i64 s) (W' := W) rfl rfl ?_ (hK _ _ (LKeep.refl _ _ _) rfl)
   go_simp
  | 3, hoi, hom =>
   have l1 := haft _ rfl ⟨1, .data⟩ (by simp) rfl
   have s1 : ao.tmps[10]?.getD undef = bookVal b a := (hU.slot 1 (by decide) l1).trans (hpv 1 l1)
   have l2 := haft _ rfl ⟨2, .data⟩ (by simp) rfl
   have s2 : ao.tmps[11]?.getD undef = .int .i64 s := (hU.slot 2 (by decide) l2).trans (hpv 2 l2)
   have hc := asked12_any (HX.out.v.next (hk.below (B := v0.heap.size) (fun k h => h.elim) (Nat.le_refl _))) s
   refine wpOp_enter (f := 68) (args := #[bookVal b a, .int .i64 s]) (W' := W) rfl rfl ?_ ((hc).mono (fun e w'' h => ?_))
   · go_simp
   · obtain ⟨he, hbw⟩ := h
     exact ⟨_, he, hK _ _ (LKeep.below hbw (fun h => h)) rfl⟩
  | 4, hoi, hom =>
   have l0 := haft _ rfl ⟨0, .data⟩ (by simp) rfl
   have s0 : ao.tmps[9]?.getD undef = bookVal b a := (hU.slot 0 (by decide) l0).trans (hpv 0 l0)
   have l3 := haft _ rfl ⟨3, .data⟩ (by simp) rfl
   have s3 : ao.tmps[12]?.getD undef = .int .i64 (askK b s) := (hU.slot 3 (by decide) l3).trans (hpv 3 l3)
   have hc := known12_any (HX.out.v.next (hk.below (B := v0.heap.size) (fun k h => h.elim) (Nat.le_refl _))) (e := askK b s) ask_valid
   rw [known_ask] at hc
   refine wpOp_enter (f := 67) (args := #[bookVal b a, .int .i64 (askK b s)]) (W' := W) rfl rfl ?_ ((hc).mono (fun e w'' h => ?_))
   · go_simp
   · obtain ⟨he, hbw⟩ := h
     exact ⟨_, he, hK _ _ (LKeep.below hbw (fun h => h)) rfl⟩
  | 5, hoi, hom =>
   have l4 := haft _ rfl ⟨4, .data⟩ (by simp) rfl
   have s4 : ao.tmps[13]?.getD undef = .int .i64 (enterK b s) := (hU.slot 4 (by decide) l4).trans (hpv 4 l4)
   refine wpOp_value (v := .int .i64 (enterK b s)) (W' := W) rfl rfl ?_ (hK _ _ (LKeep.refl _ _ _) rfl)
   go_simp
  | oi + 6, hoi, hom => exact absurd (of_decide_eq_true hom) (by omega)
 case hend =>
  intro listed vs ao W hG hk0 hpv hpre
  have hkk := (LKeep.drew (fun _ => False) (M := fun _ => True) v0 (fun h => h)).trans hk0
  have hk := hkk.1
  have hkm := hkk.2
  clear hkk
  have hact := hG.act
  have hT := hG.lst hpre 0 #[true, true, true, true, true, true] rfl (by kernel_rfl) (hpre 0 (by decide) (by decide))
  rw [hG.ix hT (l := [0, 1, 2, 3, 4, 5]) (by kernel_rfl)] at hact
  rw [hG.lo hT (k := 0) (by kernel_rfl)]
  have hv0 : vs 0 = bookVal b a := hpv 0 (hpre 0 (by decide) (by decide))
  have hv1 : vs 1 = bookVal b a := hpv 1 (hpre 1 (by decide) (by decide))
  have hv2 : vs 2 = .int .i64 s := hpv 2 (hpre 2 (by decide) (by decide))
  have hv3 : vs 3 = .int .i64 (askK b s) := hpv 3 (hpre 3 (by decide) (by decide))
  have hv4 : vs 4 = .int .i64 (enterK b s) := hpv 4 (hpre 4 (by decide) (by decide))
  have hv5 : vs 5 = .int .i64 (enterK b s) := hpv 5 (hpre 5 (by decide) (by decide))
  clear hpv hpre hG hk0
  obtain rfl : ao = _ := hact
  subst hT
  simp only [setAll, List.setIfInBounds_toArray, List.set_cons_succ, List.set_cons_zero, List.getD_cons_succ, List.getD_cons_zero]
  simp only [hv0, hv1, hv2, hv3, hv4, hv5]
  clear hv0 hv1 hv2 hv3 hv4 hv5
  refine wpAny_done (by kernel_rfl) ?_ _
  have hb := (hk.below (B := v0.heap.size) (fun k h => h.elim) (Nat.le_refl _))
  clear hk hkm
  have HX1 := hide (HX.out.next hb)
  have HB1 := hide (HB.out.trans (hb.mono HB.out.size))
  have hR1 := HR.out.next hb
  have hz := HR.out.lt
  have hzb := hb.size
  clear x0 x1 gx hb HX HR
  generalize hK : enterK b s = K at *
  have HK := hide hK
  clear hK
  generalize W = v1 at *
  have c0 := hR1.at_ 0
  have c1 := hR1.at_ 1
  have f0 := hR1.free 0
  have f1 := hR1.free 1
  simp only [List.getElem?_toArray, List.getElem?_cons_zero, List.getElem?_cons_succ] at c0 c1
  have HRR := hide hR1
  clear hR1
  by_cases hk : K = 0
  · subst hk
    rw [if_pos rfl] at HO
    have HV := hide (HE.out rfl)
    clear HE
    obtain ⟨i, rfl⟩ : ∃ i : Nat, s = (i : Int) := ⟨s.toNat, by have := HV.out.2.1; omega⟩
    have hi : i < b.steps.length := by have := HV.out.2.1; omega
    have hx6 : i < 6 := by have := HV.out.1.steps; omega
    have hi0 : (0 : Int) ≤ (i : Int) := Int.natCast_nonneg _
    have hin : (i : Int) < (b.steps.length : Int) := by omega
    have HG := hide HV.out.1.good
    have h12 : b.tallies.length ≤ 12 := by have := HV.out.1.tallies; omega
    have HSM := hide (show someB b (hasInt [] ·) = true from HV.out.2.2)
    rw [Int.toNat_natCast] at HO
    obtain ⟨gx, x0, x1⟩ := HX1.out.cells
    have HEN := hide (show endsTo (setOf (lostB b i)) 100 = lostB b i from ends_set (by have h1 := lost_facts (show someV b = true by rw [someV, check_of HV.out.1]; exact HSM.out) hi; have h2 := HG.out.loss i hi; exact ⟨h1.1, h1.2.1, by omega⟩))
    go_upto_region 5 with (first | (go_at_call 72; refine (losses12_any HX1.out.v HG.out h12 HSM.out hi).mono ?_; rintro e y2 ⟨rfl, hb3⟩) | (go_at_call 69; refine (ends12_any (setOf (lostB b i)) y2).mono ?_; rintro e y4 ⟨rfl, hb9⟩; have hb4 := hb3.trans (hb9.mono hb3.size); rw [endsV, HEN.out]))
    clear hb9 hb3
    have hbq := HB1.out.trans (hb4.mono HB1.out.size)
    have hR4 := HRR.out.next hb4
    clear gx x0 x1 c0 c1 f0 f1 HRR HX1
    have hb5 : Below y4.heap.size y4 (y4.alloc (.cells #[.int .i64 (lostB b i).lo, .int .i64 (lostB b i).hi] 30)) := (Below.refl _ _).alloc (Nat.le_refl _) _
    have hS := show Blk (y4.alloc (.cells #[.int .i64 (lostB b i).lo, .int .i64 (lostB b i).hi] 30)) y4.heap.size 30 #[.int .i64 (lostB b i).lo, .int .i64 (lostB b i).hi] from Blk.made
    have hR5 := hR4.next hb5
    have hbz := hbq.trans (hb5.mono hbq.size)
    have hlt5 := hR4.lt
    clear hb4 hb5 hbq hR4
    generalize (y4.alloc (.cells #[.int .i64 (lostB b i).lo, .int .i64 (lostB b i).hi] 30)) = v5 at *
    generalize y4.heap.size = gs at *
    have c0 := hS.at_ 0
    have c1 := hS.at_ 1
    have hgs := hS.lt
    simp only [List.getElem?_toArray, List.getElem?_cons_zero, List.getElem?_cons_succ] at c0 c1
    have f0 := hR5.free 0
    have f1 := hR5.free 1
    have d0 := hR5.at_ 0
    have d1 := hR5.at_ 1
    have hz5 := hR5.lt
    simp only [List.getElem?_toArray, List.getElem?_cons_zero, List.getElem?_cons_succ] at d0 d1
    have HRR := hide hR5
    clear hR5 hS
    generalize hSI : (lostB b i) = si at *
    have HSI := hide hSI
    clear hSI
    go_wp2_with fail
    have b2 : Blk ((v5.setCell ⟨w.heap.size + 1, 0, none⟩ (.int .i64 si.lo)).setCell ⟨w.heap.size + 1, 1, none⟩ (.int .i64 si.hi)) (w.heap.size + 1) 30 #[.int .i64 si.lo, .int .i64 si.hi] := (HRR.out.store 0 _).store 1 _
    have hs : Keep (fun q => q = w.heap.size + 1) v5 ((v5.setCell ⟨w.heap.size + 1, 0, none⟩ (.int .i64 si.lo)).setCell ⟨w.heap.size + 1, 1, none⟩ (.int .i64 si.hi)) := (Keep.setCell _ _ _ (fun q => q = w.heap.size + 1) rfl).trans (Keep.setCell _ _ _ (fun q => q = w.heap.size + 1) rfl)
    have hbw := hbz.trans (hs.below (B := w.heap.size) (fun k h => by omega) hbz.size)
    generalize (v5.setCell ⟨w.heap.size + 1, 0, none⟩ (.int .i64 si.lo)).setCell ⟨w.heap.size + 1, 1, none⟩ (.int .i64 si.hi) = W8 at *
    have r0 := b2.at_ 0
    have r1 := b2.at_ 1
    simp only [List.getElem?_toArray, List.getElem?_cons_zero, List.getElem?_cons_succ] at r0 r1
    exact bodyPost_ret (v := .tuple #[spanVal si, .int .i64 0]) (by simp [results, Tryz.results22, go_sem, r0, r1]) rfl ⟨by rw [Int.toNat_natCast, HSI.out, HO.out, HK.out], hbw⟩
  · rw [if_neg hk] at HO
    have hd : (K != 0) = true := by simpa using hk
    clear hk HE
    go_wp2_with fail
    have b2 : Blk ((v1.setCell ⟨w.heap.size + 1, 0, none⟩ (.int .i64 0)).setCell ⟨w.heap.size + 1, 1, none⟩ (.int .i64 0)) (w.heap.size + 1) 30 #[.int .i64 0, .int .i64 0] := (HRR.out.store 0 _).store 1 _
    have hs : Keep (fun q => q = w.heap.size + 1) v1 ((v1.setCell ⟨w.heap.size + 1, 0, none⟩ (.int .i64 0)).setCell ⟨w.heap.size + 1, 1, none⟩ (.int .i64 0)) := (Keep.setCell _ _ _ (fun q => q = w.heap.size + 1) rfl).trans (Keep.setCell _ _ _ (fun q => q = w.heap.size + 1) rfl)
    have hbw := HB1.out.trans (hs.below (B := w.heap.size) (fun k h => by omega) HB1.out.size)
    generalize (v1.setCell ⟨w.heap.size + 1, 0, none⟩ (.int .i64 0)).setCell ⟨w.heap.size + 1, 1, none⟩ (.int .i64 0) = W8 at *
    have r0 := b2.at_ 0
    have r1 := b2.at_ 1
    simp only [List.getElem?_toArray, List.getElem?_cons_zero, List.getElem?_cons_succ] at r0 r1
    exact bodyPost_ret (v := .tuple #[spanVal ⟨0, 0⟩, .int .i64 K]) (by simp [results, Tryz.results22, go_sem, r0, r1]) rfl ⟨by rw [HO.out, HK.out], hbw⟩
end Go.Proofs.YtocdmkilnbpkdaaGreatDoor
