/- LedgerWheres. -/
import Derived.Test.YtocdmkilnbpkdaaGreatDoorUA
import Derived.OwnWalkIn
import Derived.OwnWalk
import Derived.Laws.AppendOwn
import Derived.Laws.StructEq
import Derived.TacticsInMore
import Derived.Deep.DeepCutAuto
set_option linter.unusedVariables false
set_option linter.unusedSimpArgs false
namespace Go.Proofs.YtocdmkilnbpkdaaGreatDoor
open Go.RowKit
attribute [local go_sem] Oper.semAt_some

set_option maxHeartbeats 600000 in
set_option maxRecDepth 100000 in
theorem ledgerWheres_any {m : Int} {b : Book} {a : BA} {w : World} (hm : w.cell? ⟨0, 0, none⟩ = some (.int .i64 m)) (hw0 : 0 < w.heap.size) (h : BookV w w.heap.size b a) :
 Calls Tryz.prog 4 #[bookVal b a] w fun e w' => e = .returned (.bool true) ∧ Below w.heap.size w w' := by
 have hb0 : Below w.heap.size w (w.alloc (.cells (bookCells b a) 25)) := (Below.refl _ _).alloc (Nat.le_refl _) _
 have HX := hide (BoxB.made h)
 have HG := hide ((hb0.cell (p := ⟨0, 0, none⟩) hw0).trans hm)
 have HB := hide hb0
 have hz0 := Nat.lt_of_lt_of_le hw0 hb0.size
 clear h hm hb0 hw0
 go_enter Tryz.func4, Tryz.ntmps4
 go_upto_region 1 with (fail)
 generalize w.alloc (.cells (bookCells b a) 25) = w0 at *
 obtain ⟨L1, L2, K, hM⟩ : ∃ L1 L2 K, missV b = (L1, L2, K) := ⟨_, _, _, rfl⟩
 obtain ⟨i1, i2, i3, hW⟩ : ∃ i1 i2 i3, whereV b = (i1, i2, i3) := ⟨_, _, _, rfl⟩
 have HM := hide hM
 have HW := hide hW
 clear hM hW
 have HI1 := hide (show intsB (natInts L1) (natInts L1) = true from (intsB_iff _ _).2 rfl)
 have HI2 := hide (show intsB (natInts L2) (natInts L2) = true from (intsB_iff _ _).2 rfl)
 obtain ⟨gx, x0, x1⟩ := HX.out.cells
 go_upto_region 2 with (go_at_call 24; refine (missing_any HX.out.v).mono ?_; rintro e y1 ⟨AHA1, cHA1, AHA2, cHA2, rfl, hi, hi', hb⟩; rw [HM.out] at hi hi'; rw [HM.out]; simp only at hi hi' ⊢; have HA1 := hide hi; have HA2 := hide hi'; clear hi hi')
 clear gx x0 x1
 replace HG := hide ((hb.cell (p := ⟨0, 0, none⟩) hz0).trans HG.out)
 replace HB := hide (HB.out.trans (hb.mono HB.out.size))
 replace HX := hide (HX.out.next hb)
 replace hz0 := Nat.lt_of_lt_of_le hz0 hb.size
 clear hb
 obtain ⟨gx, x0, x1⟩ := HX.out.cells
 go_upto_region 3 with (go_at_call 25; refine (missing12_any HX.out.v).mono ?_; rintro e y2 ⟨AHB1, cHB1, AHB2, cHB2, rfl, hi, hi', hb⟩; rw [HM.out] at hi hi'; rw [HM.out]; simp only at hi hi' ⊢; have HB1 := hide hi; have HB2 := hide hi'; clear hi hi')
 clear gx x0 x1
 replace HG := hide ((hb.cell (p := ⟨0, 0, none⟩) hz0).trans HG.out)
 replace HB := hide (HB.out.trans (hb.mono HB.out.size))
 replace HX := hide (HX.out.next hb)
 replace HA1 := hide (HA1.out.next hb)
 replace HA2 := hide (HA2.out.next hb)
 replace hz0 := Nat.lt_of_lt_of_le hz0 hb.size
 clear hb
 obtain ⟨gx, x0, x1⟩ := HX.out.cells
 go_upto_region 5 with (first | (go_at_call 26; have q9 := HI1.out; refine (ints_any HA1.out HB1.out).mono ?_; rintro e z1 ⟨rfl, hdr⟩; rw [HI1.out]; clear HI1 q9 gx x0 x1; have hb := hdr.below (y2.heap.size); replace HG := hide ((hb.cell (p := ⟨0, 0, none⟩) hz0).trans HG.out); replace HB := hide (HB.out.trans (hb.mono HB.out.size)); replace HX := hide (HX.out.next hb); replace HA1 := hide (HA1.out.next hb); replace HA2 := hide (HA2.out.next hb); replace HB1 := hide (HB1.out.next hb); replace HB2 := hide (HB2.out.next hb); replace hz0 := Nat.lt_of_lt_of_le hz0 hb.size; clear hb; obtain ⟨gx, x0, x1⟩ := HX.out.cells) | (go_at_call 26; refine (ints_any HA2.out HB2.out).mono ?_; rintro e z2 ⟨rfl, hdr⟩; rw [HI2.out]; clear gx x0 x1; have hb := hdr.below (z1.heap.size); replace HG := hide ((hb.cell (p := ⟨0, 0, none⟩) hz0).trans HG.out); replace HB := hide (HB.out.trans (hb.mono HB.out.size)); replace HX := hide (HX.out.next hb); replace HA1 := hide (HA1.out.next hb); replace HA2 := hide (HA2.out.next hb); replace HB1 := hide (HB1.out.next hb); replace HB2 := hide (HB2.out.next hb); replace hz0 := Nat.lt_of_lt_of_le hz0 hb.size; clear hb; obtain ⟨gx, x0, x1⟩ := HX.out.cells))
 clear gx x0 x1 HA1 HA2 HB1 HB2 HI2
 obtain ⟨gx, x0, x1⟩ := HX.out.cells
 go_upto_region 6 with (go_at_call 27; refine (where_any HX.out.v).mono ?_; rintro e y3 ⟨rfl, hb⟩; rw [HW.out])
 clear gx x0 x1
 replace HG := hide ((hb.cell (p := ⟨0, 0, none⟩) hz0).trans HG.out)
 replace HB := hide (HB.out.trans (hb.mono HB.out.size))
 replace HX := hide (HX.out.next hb)
 replace hz0 := Nat.lt_of_lt_of_le hz0 hb.size
 clear hb
 obtain ⟨gx, x0, x1⟩ := HX.out.cells
 go_upto_region 7 with (go_at_call 28; refine (where12_any HX.out.v).mono ?_; rintro e y4 ⟨rfl, hb⟩; rw [HW.out])
 clear gx x0 x1
 replace HG := hide ((hb.cell (p := ⟨0, 0, none⟩) hz0).trans HG.out)
 replace HB := hide (HB.out.trans (hb.mono HB.out.size))
 replace HX := hide (HX.out.next hb)
 replace hz0 := Nat.lt_of_lt_of_le hz0 hb.size
 clear hb
 obtain ⟨gx, x0, x1⟩ := HX.out.cells
 go_wp2_with (first | (go_at_call 23; refine (awake12_any HG.out hz0).mono ?_; rintro e y5 ⟨rfl, hb⟩))
 go_ret
 exact ⟨rfl, HB.out.trans (hb.mono HB.out.size)⟩
end Go.Proofs.YtocdmkilnbpkdaaGreatDoor
