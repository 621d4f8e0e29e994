/- LedgerTexts. -/
import Derived.Test.YtocdmkilnbpkdaaGreatDoorUM
import Derived.Test.YtocdmkilnbpkdaaGreatDoorXA
import Derived.Test.YtocdmkilnbpkdaaGreatDoorXC
import Derived.OwnWalkIn
import Derived.OwnWalk
import Derived.Laws.AppendOwn
import Derived.Laws.StructEq
import Derived.TacticsInMore
import Derived.Deep.DeepCutAuto
set_option linter.unusedVariables false
set_option linter.unusedSimpArgs false
namespace Go.Proofs.YtocdmkilnbpkdaaGreatDoor
open Go.RowKit
attribute [local go_sem] Oper.semAt_some

theorem equalB_same (b : Book) : equalB b b = true := by
 simp [equalB, stepsTo, talliesTo, stepB, tallyB, eqS]
theorem write12X {s : ByteArray} {er : Int} {b : Book} {a : BA} {w : World} (h : BookV w w.heap.size b a) (hx : writeV b = (s, er)) :
 Calls Tryz.prog 34 #[bookVal b a] w fun e w' => e = .returned (.tuple #[.string s, .int .i64 er]) ∧ Below w.heap.size w w' := by
 have := write12_any h
 rw [hx] at this
 exact this
theorem refReadX {s : List UInt8} {er : Int} {b : Book} {w : World} (hx : readR s = (b, er)) :
 Calls Tryz.prog 36 #[.string ⟨s.toArray⟩] w fun e w' => ∃ a, e = .returned (.tuple #[bookVal b a, .int .i64 er]) ∧ BookV w' w'.heap.size b a ∧ Below w.heap.size w w' := by
 refine (refRead_any ⟨s.toArray⟩ w).mono ?_
 rintro e w' ⟨hb, a, he, hv⟩
 have hs : (⟨s.toArray⟩ : ByteArray).data.toList = s := by simp
 rw [hs, readR1_eq, hx] at he hv
 exact ⟨a, he, hv, hb⟩
set_option maxHeartbeats 2000000 in
set_option maxRecDepth 100000 in
theorem ledgerTexts_any {m : Int} {b : Book} {a : BA} {w : World} (hm : w.cell? ⟨0, 0, none⟩ = some (.int .i64 m)) (hw0 : 0 < w.heap.size) (h : BookV w w.heap.size b a) (tx : ByteArray) :
 Calls Tryz.prog 6 #[bookVal b a, .string tx] w fun e w' => e = .returned (.bool true) ∧ Below w.heap.size w w' := by
 obtain ⟨tl, rfl⟩ : ∃ l : List UInt8, tx = ⟨l.toArray⟩ := ⟨tx.data.toList, by simp⟩
 have hb0 : Below w.heap.size w (w.alloc (.cells (bookCells b a) 25)) := (Below.refl _ _).alloc (Nat.le_refl _) _
 have HX := hide (BoxB.made h)
 have HG := hide ((hb0.cell (p := ⟨0, 0, none⟩) hw0).trans hm)
 have HB := hide hb0
 have hz0 := Nat.lt_of_lt_of_le hw0 hb0.size
 clear h hm hb0 hw0
 go_enter Tryz.func6, Tryz.ntmps6
 go_upto_region 1 with (fail)
 generalize w.alloc (.cells (bookCells b a) 25) = w0 at *
 obtain ⟨s1, e1, hw⟩ : ∃ s1 e1, writeV b = (s1, e1) := ⟨_, _, rfl⟩
 obtain ⟨c, e2, hr⟩ : ∃ c e2, readR tl = (c, e2) := ⟨_, _, rfl⟩
 have HW := hide hw
 have HR := hide hr
 clear hw hr
 obtain ⟨gx, x0, x1⟩ := HX.out.cells
 go_upto_region 2 with (go_at_call 33; refine (writeX HX.out.v HW.out).mono ?_; rintro e y1 ⟨rfl, hb⟩)
 clear gx x0 x1
 replace HG := hide ((hb.cell (p := ⟨0, 0, none⟩) hz0).trans HG.out)
 replace HB := hide (HB.out.trans (hb.mono HB.out.size))
 replace HX := hide (HX.out.next hb)
 replace hz0 := Nat.lt_of_lt_of_le hz0 hb.size
 clear hb
 obtain ⟨gx, x0, x1⟩ := HX.out.cells
 go_upto_region 3 with (go_at_call 34; refine (write12X HX.out.v HW.out).mono ?_; rintro e y2 ⟨rfl, hb⟩)
 clear gx x0 x1
 replace HG := hide ((hb.cell (p := ⟨0, 0, none⟩) hz0).trans HG.out)
 replace HB := hide (HB.out.trans (hb.mono HB.out.size))
 replace HX := hide (HX.out.next hb)
 replace hz0 := Nat.lt_of_lt_of_le hz0 hb.size
 clear hb
 go_upto_region 6 with (go_at_call 35; refine (readX HG.out hz0 HR.out).mono ?_; rintro e y3 ⟨aq, rfl, hVq, hb⟩)
 replace HG := hide ((hb.cell (p := ⟨0, 0, none⟩) hz0).trans HG.out)
 replace HB := hide (HB.out.trans (hb.mono HB.out.size))
 replace HX := hide (HX.out.next hb)
 replace hz0 := Nat.lt_of_lt_of_le hz0 hb.size
 clear hb
 have hb : Below y3.heap.size y3 (y3.alloc (.cells (bookCells c aq) 25)) := (Below.refl _ _).alloc (Nat.le_refl _) _
 have HY := hide (BoxB.made hVq)
 clear hVq
 replace HG := hide ((hb.cell (p := ⟨0, 0, none⟩) hz0).trans HG.out)
 replace HB := hide (HB.out.trans (hb.mono HB.out.size))
 replace HX := hide (HX.out.next hb)
 replace hz0 := Nat.lt_of_lt_of_le hz0 hb.size
 clear hb
 generalize y3.alloc (.cells (bookCells c aq) 25) = y4 at *
 generalize y3.heap.size = gqq at *
 go_upto_region 7 with (go_at_call 36; refine (refReadX HR.out).mono ?_; rintro e y5 ⟨ar, rfl, hVr, hb⟩)
 replace HG := hide ((hb.cell (p := ⟨0, 0, none⟩) hz0).trans HG.out)
 replace HB := hide (HB.out.trans (hb.mono HB.out.size))
 replace HX := hide (HX.out.next hb)
 replace HY := hide (HY.out.next hb)
 replace hz0 := Nat.lt_of_lt_of_le hz0 hb.size
 clear hb
 have hb : Below y5.heap.size y5 (y5.alloc (.cells (bookCells c ar) 25)) := (Below.refl _ _).alloc (Nat.le_refl _) _
 have HZ := hide (BoxB.made hVr)
 clear hVr
 replace HG := hide ((hb.cell (p := ⟨0, 0, none⟩) hz0).trans HG.out)
 replace HB := hide (HB.out.trans (hb.mono HB.out.size))
 replace HX := hide (HX.out.next hb)
 replace HY := hide (HY.out.next hb)
 replace hz0 := Nat.lt_of_lt_of_le hz0 hb.size
 clear hb
 generalize y5.alloc (.cells (bookCells c ar) 25) = y6 at *
 generalize y5.heap.size = grr at *
 obtain ⟨gx, x0, x1⟩ := HX.out.cells
 obtain ⟨gq, q0, q1⟩ := HY.out.cells
 obtain ⟨gr, r0, r1⟩ := HZ.out.cells
 have HE := hide (equalB_same c)
 go_wp2_with (first | (go_at_call 37; refine (equal_any HY.out.v HZ.out.v).mono ?_; rintro e z1 ⟨rfl, hb⟩; rw [HE.out]; replace HG := hide ((hb.cell (p := ⟨0, 0, none⟩) hz0).trans HG.out); replace HB := hide (HB.out.trans (hb.mono HB.out.size)); replace HX := hide (HX.out.next hb); replace HY := hide (HY.out.next hb); replace HZ := hide (HZ.out.next hb); replace hz0 := Nat.lt_of_lt_of_le hz0 hb.size; clear hb) | (go_at_call 23; refine (awake12_any HG.out hz0).mono ?_; rintro e y7 ⟨rfl, hb⟩))
 go_ret
 exact ⟨rfl, HB.out.trans (hb.mono HB.out.size)⟩
end Go.Proofs.YtocdmkilnbpkdaaGreatDoor
