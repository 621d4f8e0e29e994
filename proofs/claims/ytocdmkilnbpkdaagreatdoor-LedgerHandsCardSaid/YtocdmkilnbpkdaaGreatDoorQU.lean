/- LedgerHands. -/
import Derived.Test.YtocdmkilnbpkdaaGreatDoorQT
import Derived.Test.YtocdmkilnbpkdaaGreatDoorQA
import Derived.OwnWalkIn
import Derived.OwnWalk
import Derived.Laws.AppendOwn
import Derived.Laws.StructEq
import Derived.TacticsInMore
import Derived.Deep.DeepCutAuto
set_option linter.unusedVariables false
set_option linter.unusedSimpArgs false
namespace Go.Proofs.YtocdmkilnbpkdaaGreatDoor
open Go.RowKit
attribute [local go_sem] Oper.semAt_some

attribute [local go_sem] span_equal10
set_option maxHeartbeats 4000000 in
set_option maxRecDepth 100000 in
theorem ledgerHands_any {m : Int} {b : Book} {a : BA} {w : World} (hm : w.cell? ⟨0, 0, none⟩ = some (.int .i64 m)) (hw0 : 0 < w.heap.size) (h : BookV w w.heap.size b a) {s : Int} :
 Calls Tryz.prog 3 #[bookVal b a, .int .i64 s] w fun e w' => e = .returned (.bool true) ∧ Below w.heap.size w w' := by
 have hb0 : Below w.heap.size w (w.alloc (.cells (bookCells b a) 25)) := (Below.refl _ _).alloc (Nat.le_refl _) _
 have HV := hide (h.below hb0); have HX := hide (BoxB.made h)
 have HG := hide ((hb0.cell (p := ⟨0, 0, none⟩) hw0).trans hm)
 have HB := hide hb0
 have hz0 := Nat.lt_of_lt_of_le hw0 hb0.size
 clear h hm hb0 hw0
 go_enter Tryz.func3, Tryz.ntmps3
 go_upto_region 1 with (fail)
 generalize w.alloc (.cells (bookCells b a) 25) = w0 at *
 have hgt : Tryz.prog.eqGuardType Tryz.prog.depth 30 = false := by kernel_rfl
 obtain ⟨gx, x0, x1⟩ := HX.out.cells
 go_upto_region 2 with (go_at_call 17; refine (check_any HX.out.v).mono ?_; rintro e y1 ⟨rfl, hb⟩)
 clear gx x0 x1
 replace HV := hide (HV.out.below (hb.mono HB.out.size))
 replace HG := hide ((hb.cell (p := ⟨0, 0, none⟩) hz0).trans HG.out)
 replace HB := hide (HB.out.trans (hb.mono HB.out.size))
 replace HX := hide (HX.out.next hb)
 replace hz0 := Nat.lt_of_lt_of_le hz0 hb.size
 clear hb
 obtain ⟨gx, x0, x1⟩ := HX.out.cells
 go_upto_region 3 with (go_at_call 18; refine (check12_any HX.out.v).mono ?_; rintro e y2 ⟨rfl, hb⟩)
 clear gx x0 x1
 replace HV := hide (HV.out.below (hb.mono HB.out.size))
 replace HG := hide ((hb.cell (p := ⟨0, 0, none⟩) hz0).trans HG.out)
 replace HB := hide (HB.out.trans (hb.mono HB.out.size))
 replace HX := hide (HX.out.next hb)
 replace hz0 := Nat.lt_of_lt_of_le hz0 hb.size
 clear hb
 generalize (checkM b).1 = e1
 generalize (checkM b).2.1 = e2
 generalize (checkM b).2.2 = e3
 obtain ⟨s1, s2, hO⟩ : ∃ s1 s2, okS b s (handsB b (fun _ => false) s.toNat) = ⟨s1, s2⟩ := ⟨_, _, rfl⟩
 obtain ⟨p1, p2, hP⟩ : ∃ p1 p2, okS b s (lostB b s.toNat) = ⟨p1, p2⟩ := ⟨_, _, rfl⟩
 obtain ⟨K, hK⟩ : ∃ K, enterK b s = K := ⟨_, rfl⟩
 have HO := hide hO
 have HP := hide hP
 have HK := hide hK
 clear hO hP hK
 go_upto_region 5 with fail
 obtain ⟨gx, x0, x1⟩ := HX.out.cells
 go_upto_region 6 with (go_at_call 19; refine (hands_any (s := s) HX.out.v).mono ?_; rintro e y3 ⟨rfl, hb⟩; rw [HO.out, HK.out])
 clear gx x0 x1
 replace HV := hide (HV.out.below (hb.mono HB.out.size))
 replace HG := hide ((hb.cell (p := ⟨0, 0, none⟩) hz0).trans HG.out)
 replace HB := hide (HB.out.trans (hb.mono HB.out.size))
 replace HX := hide (HX.out.next hb)
 replace hz0 := Nat.lt_of_lt_of_le hz0 hb.size
 clear hb
 have hqcs := HX.out.k.lt
 have hb : Below y3.heap.size y3 (y3.alloc (.cells #[.int .i64 s1, .int .i64 s2] 30)) := (Below.refl _ _).alloc (Nat.le_refl _) _
 have SS := hide (show Blk (y3.alloc (.cells #[.int .i64 s1, .int .i64 s2] 30)) y3.heap.size 30 #[.int .i64 s1, .int .i64 s2] from Blk.made)
 replace HV := hide (HV.out.below (hb.mono HB.out.size))
 replace HG := hide ((hb.cell (p := ⟨0, 0, none⟩) hz0).trans HG.out)
 replace HB := hide (HB.out.trans (hb.mono HB.out.size))
 replace HX := hide (HX.out.next hb)
 replace hz0 := Nat.lt_of_lt_of_le hz0 hb.size
 clear hb
 generalize y3.alloc (.cells #[.int .i64 s1, .int .i64 s2] 30) = y4 at *
 generalize y3.heap.size = ggcs at *
 obtain ⟨gx, x0, x1⟩ := HX.out.cells
 go_upto_region 7 with (go_at_call 20; refine (hands12_any (s := s) HX.out.v).mono ?_; rintro e y5 ⟨rfl, hb⟩; rw [HO.out, HK.out])
 clear gx x0 x1
 replace HV := hide (HV.out.below (hb.mono HB.out.size))
 replace HG := hide ((hb.cell (p := ⟨0, 0, none⟩) hz0).trans HG.out)
 replace HB := hide (HB.out.trans (hb.mono HB.out.size))
 replace HX := hide (HX.out.next hb)
 replace SS := hide (SS.out.next hb)
 replace hz0 := Nat.lt_of_lt_of_le hz0 hb.size
 clear hb
 have hqcq := HX.out.k.lt
 have hqcr := SS.out.lt
 have hb : Below y5.heap.size y5 (y5.alloc (.cells #[.int .i64 s1, .int .i64 s2] 30)) := (Below.refl _ _).alloc (Nat.le_refl _) _
 have SQ := hide (show Blk (y5.alloc (.cells #[.int .i64 s1, .int .i64 s2] 30)) y5.heap.size 30 #[.int .i64 s1, .int .i64 s2] from Blk.made)
 replace HV := hide (HV.out.below (hb.mono HB.out.size))
 replace HG := hide ((hb.cell (p := ⟨0, 0, none⟩) hz0).trans HG.out)
 replace HB := hide (HB.out.trans (hb.mono HB.out.size))
 replace HX := hide (HX.out.next hb)
 replace SS := hide (SS.out.next hb)
 replace hz0 := Nat.lt_of_lt_of_le hz0 hb.size
 clear hb
 generalize y5.alloc (.cells #[.int .i64 s1, .int .i64 s2] 30) = y6 at *
 generalize y5.heap.size = ggcq at *
 obtain ⟨gx, x0, x1⟩ := HX.out.cells
 have gcs := SS.out.lt
 have cs0 := SS.out.at_ 0
 have cs1 := SS.out.at_ 1
 simp only [List.getElem?_toArray, List.getElem?_cons_zero, List.getElem?_cons_succ] at cs0 cs1
 have gcq := SQ.out.lt
 have cq0 := SQ.out.at_ 0
 have cq1 := SQ.out.at_ 1
 simp only [List.getElem?_toArray, List.getElem?_cons_zero, List.getElem?_cons_succ] at cq0 cq1
 go_upto_region 9 with fail
 go_upto_region 10 with (go_at_call 21; refine (losts_any (s := s) HX.out.v).mono ?_; rintro e y7 ⟨rfl, hb⟩; rw [HP.out, HK.out]; have q9 := SS.out.next hb; have f0 := q9.free 0; have f1 := q9.free 1; have r0 := q9.at_ 0; have r1 := q9.at_ 1; have r9 := q9.lt; simp only [List.getElem?_toArray, List.getElem?_cons_zero, List.getElem?_cons_succ] at r0 r1)
 clear gx x0 x1 gcs cs0 cs1 gcq cq0 cq1
 replace HV := hide (HV.out.below (hb.mono HB.out.size))
 replace HG := hide ((hb.cell (p := ⟨0, 0, none⟩) hz0).trans HG.out)
 replace HB := hide (HB.out.trans (hb.mono HB.out.size))
 replace HX := hide (HX.out.next hb)
 replace SS := hide (SS.out.next hb)
 replace SQ := hide (SQ.out.next hb)
 replace hz0 := Nat.lt_of_lt_of_le hz0 hb.size
 clear hb
 clear q9 f0 f1 r0 r1 r9
 have hk : Keep (fun q => q = ggcs) y7 ((y7.setCell ⟨ggcs, 0, none⟩ (.int .i64 p1)).setCell ⟨ggcs, 1, none⟩ (.int .i64 p2)) := (Keep.setCell _ _ _ (fun q => q = ggcs) rfl).trans (Keep.setCell _ _ _ (fun q => q = ggcs) rfl)
 have hbw : Below w.heap.size y7 ((y7.setCell ⟨ggcs, 0, none⟩ (.int .i64 p1)).setCell ⟨ggcs, 1, none⟩ (.int .i64 p2)) := hk.below (B := w.heap.size) (fun k h => by omega) HB.out.size
 replace SS := hide (show Blk ((y7.setCell ⟨ggcs, 0, none⟩ (.int .i64 p1)).setCell ⟨ggcs, 1, none⟩ (.int .i64 p2)) ggcs 30 #[.int .i64 p1, .int .i64 p2] from (SS.out.store 0 _).store 1 _)
 replace HG := hide ((hk.cell (b := 0) (o := 0) hz0 (by omega)).trans HG.out)
 replace HV := hide (HV.out.below hbw)
 replace HB := hide (HB.out.trans hbw)
 replace hz0 := Nat.lt_of_lt_of_le hz0 hk.size
 replace HX := hide (BoxB.mk (HV.out.more HB.out.size) (HX.out.k.keep hk (by omega)))
 replace SQ := hide (SQ.out.keep hk (by omega))
 clear hk hbw
 generalize ((y7.setCell ⟨ggcs, 0, none⟩ (.int .i64 p1)).setCell ⟨ggcs, 1, none⟩ (.int .i64 p2)) = y8 at *
 obtain ⟨gx, x0, x1⟩ := HX.out.cells
 have gcs := SS.out.lt
 have cs0 := SS.out.at_ 0
 have cs1 := SS.out.at_ 1
 simp only [List.getElem?_toArray, List.getElem?_cons_zero, List.getElem?_cons_succ] at cs0 cs1
 have gcq := SQ.out.lt
 have cq0 := SQ.out.at_ 0
 have cq1 := SQ.out.at_ 1
 simp only [List.getElem?_toArray, List.getElem?_cons_zero, List.getElem?_cons_succ] at cq0 cq1
 go_upto_region 11 with (go_at_call 22; refine (lost12_any (s := s) HX.out.v).mono ?_; rintro e y9 ⟨rfl, hb⟩; rw [HP.out, HK.out]; have q9 := SQ.out.next hb; have f0 := q9.free 0; have f1 := q9.free 1; have r0 := q9.at_ 0; have r1 := q9.at_ 1; have r9 := q9.lt; simp only [List.getElem?_toArray, List.getElem?_cons_zero, List.getElem?_cons_succ] at r0 r1)
 clear gx x0 x1 gcs cs0 cs1 gcq cq0 cq1
 replace HV := hide (HV.out.below (hb.mono HB.out.size))
 replace HG := hide ((hb.cell (p := ⟨0, 0, none⟩) hz0).trans HG.out)
 replace HB := hide (HB.out.trans (hb.mono HB.out.size))
 replace HX := hide (HX.out.next hb)
 replace SS := hide (SS.out.next hb)
 replace SQ := hide (SQ.out.next hb)
 replace hz0 := Nat.lt_of_lt_of_le hz0 hb.size
 clear hb
 clear q9 f0 f1 r0 r1 r9
 have hk : Keep (fun q => q = ggcq) y9 ((y9.setCell ⟨ggcq, 0, none⟩ (.int .i64 p1)).setCell ⟨ggcq, 1, none⟩ (.int .i64 p2)) := (Keep.setCell _ _ _ (fun q => q = ggcq) rfl).trans (Keep.setCell _ _ _ (fun q => q = ggcq) rfl)
 have hbw : Below w.heap.size y9 ((y9.setCell ⟨ggcq, 0, none⟩ (.int .i64 p1)).setCell ⟨ggcq, 1, none⟩ (.int .i64 p2)) := hk.below (B := w.heap.size) (fun k h => by omega) HB.out.size
 replace SQ := hide (show Blk ((y9.setCell ⟨ggcq, 0, none⟩ (.int .i64 p1)).setCell ⟨ggcq, 1, none⟩ (.int .i64 p2)) ggcq 30 #[.int .i64 p1, .int .i64 p2] from (SQ.out.store 0 _).store 1 _)
 replace HG := hide ((hk.cell (b := 0) (o := 0) hz0 (by omega)).trans HG.out)
 replace HV := hide (HV.out.below hbw)
 replace HB := hide (HB.out.trans hbw)
 replace hz0 := Nat.lt_of_lt_of_le hz0 hk.size
 replace HX := hide (BoxB.mk (HV.out.more HB.out.size) (HX.out.k.keep hk (by omega)))
 replace SS := hide (SS.out.keep hk (by omega))
 clear hk hbw
 generalize ((y9.setCell ⟨ggcq, 0, none⟩ (.int .i64 p1)).setCell ⟨ggcq, 1, none⟩ (.int .i64 p2)) = y10 at *
 obtain ⟨gx, x0, x1⟩ := HX.out.cells
 have gcs := SS.out.lt
 have cs0 := SS.out.at_ 0
 have cs1 := SS.out.at_ 1
 simp only [List.getElem?_toArray, List.getElem?_cons_zero, List.getElem?_cons_succ] at cs0 cs1
 have gcq := SQ.out.lt
 have cq0 := SQ.out.at_ 0
 have cq1 := SQ.out.at_ 1
 simp only [List.getElem?_toArray, List.getElem?_cons_zero, List.getElem?_cons_succ] at cq0 cq1
 go_wp2_with (first | (go_at_call 23; refine (awake12_any HG.out hz0).mono ?_; rintro e y11 ⟨rfl, hb⟩))
 go_ret
 exact ⟨rfl, HB.out.trans (hb.mono HB.out.size)⟩
end Go.Proofs.YtocdmkilnbpkdaaGreatDoor
