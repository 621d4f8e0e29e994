/- Write of the program. -/
import Derived.Test.YtocdmkilnbpkdaaGreatDoorWA
import Derived.OwnWalkIn
import Derived.TacticsInMore
import Derived.Deep.DeepCutAuto
set_option linter.unusedVariables false
set_option linter.unusedSimpArgs false
namespace Go.Proofs.YtocdmkilnbpkdaaGreatDoor
open Go.RowKit
attribute [local go_sem] Oper.semAt_some

def writeV (b : Book) : ByteArray × Int := if (checkM b).2.2 = 0 then (⟨(textL b).toArray⟩, 0) else (⟨#[]⟩, (checkM b).2.2)
set_option maxHeartbeats 1000000 in
set_option maxRecDepth 100000 in
theorem write_any {b : Book} {a : BA} {w : World} (h : BookV w w.heap.size b a) :
 Calls Tryz.prog 33 #[bookVal b a] w fun e w' => e = .returned (.tuple #[.string (writeV b).1, .int .i64 (writeV b).2]) ∧ Below w.heap.size w w' := by
 have HX := hide (BoxB.made h)
 have HB := hide (show Below w.heap.size w (w.alloc (.cells (bookCells b a) 25)) from (Below.refl _ _).alloc (Nat.le_refl _) _)
 clear h
 go_enter Tryz.func33, Tryz.ntmps33
 go_upto_region 1 with (fail)
 generalize (w.alloc (.cells (bookCells b a) 25)) = v0 at *
 obtain ⟨z, x0, x1⟩ := HX.out.cells
 go_wp2_with fail
 refine (check_any HX.out.v).mono ?_
 rintro e v1 ⟨rfl, hb⟩
 have HB1 := hide (HB.out.trans (hb.mono HB.out.size))
 have HX1 := hide (HX.out.next hb)
 have HWV := hide (show writeV b = if (checkM b).2.2 = 0 then (⟨(textL b).toArray⟩, 0) else (⟨#[]⟩, (checkM b).2.2) from rfl)
 have HVD := hide (valid_of (b := b))
 clear x0 x1 z hb HX HB
 generalize checkM b = r at *
 obtain ⟨r1, r2, r3⟩ := r
 by_cases hk : r3 = 0
 · subst hk
   have HV := hide (HVD.out rfl)
   rw [if_pos rfl] at HWV
   obtain ⟨z, x0, x1⟩ := HX1.out.cells
   go_wp2_with fail
   refine (text_any HX1.out.v HV.out).mono ?_
   rintro e v2 ⟨rfl, hb2⟩
   have HB2 := hide (HB1.out.trans (hb2.mono HB1.out.size))
   clear x0 x1 z hb2
   go_wp2_with fail
   go_ret2
   exact ⟨by rw [HWV.out]; rfl, HB2.out⟩
 · have hd : (r3 != 0) = true := by simpa using hk
   rw [if_neg hk] at HWV
   clear hk
   go_wp2_with fail
   go_ret2
   exact ⟨by rw [HWV.out]; rfl, HB1.out⟩
end Go.Proofs.YtocdmkilnbpkdaaGreatDoor
