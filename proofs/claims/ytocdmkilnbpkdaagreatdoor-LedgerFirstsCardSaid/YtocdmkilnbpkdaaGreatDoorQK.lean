/- known, asked, Hands, Losses and Lost of the reference. -/
import Derived.Test.YtocdmkilnbpkdaaGreatDoorQJ
import Derived.Test.YtocdmkilnbpkdaaGreatDoorQG
import Derived.OwnWalkIn
import Derived.Deep.MidRow
import Derived.OwnWalk
import Derived.Laws.AppendOwn
import Derived.Laws.StructEq
import Derived.TacticsInMore
import Derived.Deep.DeepCutAuto
set_option linter.unusedVariables false
set_option linter.unusedSimpArgs false
namespace Go.Proofs.YtocdmkilnbpkdaaGreatDoor
open Go.RowKit
attribute [local go_sem] Oper.semAt_some

def knownE (b : Book) (e : Int) : Int := if e = 0 then (if someB b (fun _ => false) then 0 else 8) else e
def askK (b : Book) (s : Int) : Int := if (checkM b).2.2 ≠ 0 then (checkM b).2.2 else if offP 0 ((b.steps.length : Int) - 1) s then 4 else 0
theorem known_ask (b : Book) (s : Int) : knownE b (askK b s) = enterK b s := by
 by_cases h : (checkM b).2.2 = 0
 · cases ho : offP 0 ((b.steps.length : Int) - 1) s <;> simp [knownE, askK, enterK, h, ho]
 · simp [knownE, askK, enterK, h]
theorem ask_valid {b : Book} {s : Int} (h : askK b s = 0) : (checkM b).2.2 = 0 := by
 unfold askK at h
 apply Classical.byContradiction
 intro hc
 rw [if_pos hc] at h
 exact hc h
set_option maxRecDepth 100000 in
theorem known12_any {b : Book} {a : BA} {w : World} (h : BookV w w.heap.size b a) {e : Int} (he : e = 0 → (checkM b).2.2 = 0) :
 Calls Tryz.prog 67 #[bookVal b a, .int .i64 e] w fun r w' => r = .returned (.int .i64 (knownE b e)) ∧ Below w.heap.size w w' := by
 have HX := hide (BoxB.made h)
 have HB := hide (show Below w.heap.size w (w.alloc (.cells (bookCells b a) 25)) from (Below.refl _ _).alloc (Nat.le_refl _) _)
 clear h
 go_enter Tryz.func67, Tryz.ntmps67
 go_upto_region 1 with (fail)
 generalize w.alloc (.cells (bookCells b a) 25) = v at *
 obtain ⟨z, x0, x1⟩ := HX.out.cells
 by_cases h0 : e = 0
 · have hg := valid12_good (he h0)
   subst h0
   have HG := hide hg
   clear he hg
   have HS := hide (show someB b (fun _ => false) = someB b (hasInt [] ·) from rfl)
   have HK := hide (show knownE b 0 = if someB b (hasInt [] ·) then 0 else 8 from rfl)
   cases hs : someB b (hasInt [] ·) with
   | true =>
    rw [hs] at HK
    have HS1 := hide hs
    clear hs
    go_wp2_with (go_at_call 52; refine (some12_any HX.out.v HG.out.1 HG.out.2 (IntsS.nil_ (w := v))).mono ?_; rintro e v1 ⟨rfl, hb⟩; rw [HS1.out])
    go_ret
    exact ⟨by rw [HK.out]; rfl, HB.out.trans (hb.mono HB.out.size)⟩
   | false =>
    rw [hs] at HK
    have HS1 := hide hs
    clear hs
    go_wp2_with (go_at_call 52; refine (some12_any HX.out.v HG.out.1 HG.out.2 (IntsS.nil_ (w := v))).mono ?_; rintro e v1 ⟨rfl, hb⟩; rw [HS1.out])
    go_ret
    exact ⟨by rw [HK.out]; rfl, HB.out.trans (hb.mono HB.out.size)⟩
 · have hd : (e == 0) = false := by simp [h0]
   have HK := hide (show knownE b e = e from if_neg h0)
   clear he h0
   go_wp2_with fail
   go_ret
   exact ⟨by rw [HK.out]; rfl, HB.out⟩
set_option maxRecDepth 100000 in
theorem asked12_any {b : Book} {a : BA} {w : World} (h : BookV w w.heap.size b a) (s : Int) :
 Calls Tryz.prog 68 #[bookVal b a, .int .i64 s] w fun r w' => r = .returned (.int .i64 (askK b s)) ∧ Below w.heap.size w w' := by
 have HX := hide (BoxB.made h)
 have HB := hide (show Below w.heap.size w (w.alloc (.cells (bookCells b a) 25)) from (Below.refl _ _).alloc (Nat.le_refl _) _)
 have hm1 := h.m1
 unfold maxLen at hm1
 clear h
 go_enter Tryz.func68, Tryz.ntmps68
 go_upto_region 1 with (fail)
 generalize w.alloc (.cells (bookCells b a) 25) = v at *
 obtain ⟨z, x0, x1⟩ := HX.out.cells
 have HC := hide (check12_any HX.out.v)
 have HAK := hide (show askK b s = if (checkM b).2.2 ≠ 0 then (checkM b).2.2 else if offP 0 ((b.steps.length : Int) - 1) s then 4 else 0 from rfl)
 go_upto_region 2 with (go_at_call 18; refine HC.out.mono ?_; rintro e v1 ⟨rfl, hb⟩)
 have HX1 := hide (HX.out.next hb)
 have HB1 := hide (HB.out.trans (hb.mono HB.out.size))
 clear z x0 x1 hb HX HC
 obtain ⟨z, x0, x1⟩ := HX1.out.cells
 generalize (checkM b).2.2 = ce at *
 generalize (checkM b).1 = c1 at *
 generalize (checkM b).2.1 = c2 at *
 have hw1 : IntKind.i64.wrap ((b.steps.length : Int) - 1) = (b.steps.length : Int) - 1 := IntWalk.i64_in _ (by omega)
 by_cases h0 : ce = 0
 · subst h0
   have HOF := hide (inB_off s 0 ((b.steps.length : Int) - 1))
   cases hin : inB s 0 ((b.steps.length : Int) - 1) with
   | true =>
    have HO := hide (show offP 0 ((b.steps.length : Int) - 1) s = false by have := HOF.out; rw [hin] at this; simpa using this.symm)
    have HIN := hide hin
    clear hin
    go_wp2_with (go_at_call 56; refine (in_any _ _ _ _).mono ?_; rintro e w9 ⟨rfl, rfl⟩; rw [HIN.out])
    go_ret
    exact ⟨by rw [HAK.out, HO.out]; rfl, HB1.out⟩
   | false =>
    have HO := hide (show offP 0 ((b.steps.length : Int) - 1) s = true by have := HOF.out; rw [hin] at this; simpa using this.symm)
    have HIN := hide hin
    clear hin
    go_wp2_with (go_at_call 56; refine (in_any _ _ _ _).mono ?_; rintro e w9 ⟨rfl, rfl⟩; rw [HIN.out])
    go_ret
    exact ⟨by rw [HAK.out, HO.out]; rfl, HB1.out⟩
 · have hd : (ce == 0) = false := by simp [h0]
   rw [if_pos h0] at HAK
   clear h0
   go_wp2_with fail
   go_ret
   exact ⟨by rw [HAK.out]; rfl, HB1.out⟩

end Go.Proofs.YtocdmkilnbpkdaaGreatDoor
