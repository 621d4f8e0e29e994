/- The contract of claim.sayings. -/
import Derived.Test.YtllmahcanipcpaaKP
import Derived.Laws.EntriesVeiled
set_option linter.unusedVariables false
set_option linter.unusedSimpArgs false
namespace Go.Proofs.Ytllmahcanipcpaa
open Go.RowKit
set_option maxHeartbeats 400000 in
set_option maxRecDepth 100000 in
theorem sayings_any (w : World) : Calls Try.prog 89 #[] w fun e w' => e = .returned (.agg #[.func (.func 102) #[] #[], .func (.func 103) #[] #[], .func (.func 104) #[] #[], .func (.func 105) #[] #[]]) ∧ Below w.heap.size w w' := by
  have bk : Blk (w.alloc (.cells #[.nilFunc, .nilFunc, .nilFunc, .nilFunc] 124)) w.heap.size 124 #[.nilFunc, .nilFunc, .nilFunc, .nilFunc] := Blk.made
  have HB := hide (show Below w.heap.size w (w.alloc (.cells #[.nilFunc, .nilFunc, .nilFunc, .nilFunc] 124)) from (Below.refl _ _).alloc (Nat.le_refl _) _)
  go_enter Try.func89, Try.ntmps89
  go_upto_region 1 with (fail)
  generalize (w.alloc (.cells #[.nilFunc, .nilFunc, .nilFunc, .nilFunc] 124)) = v0 at *
  have k0 := bk.at_ 0
  have k1 := bk.at_ 1
  have k2 := bk.at_ 2
  have k3 := bk.at_ 3
  have f0 := bk.free 0
  have f1 := bk.free 1
  have f2 := bk.free 2
  have f3 := bk.free 3
  have z := bk.lt
  go_wp2_with fail
  have b4 : Blk ((((v0.setCell ⟨w.heap.size, 0, none⟩ (.func (.func 102) #[] #[])).setCell ⟨w.heap.size, 1, none⟩ (.func (.func 103) #[] #[])).setCell ⟨w.heap.size, 2, none⟩ (.func (.func 104) #[] #[])).setCell ⟨w.heap.size, 3, none⟩ (.func (.func 105) #[] #[])) w.heap.size 124 #[.func (.func 102) #[] #[], .func (.func 103) #[] #[], .func (.func 104) #[] #[], .func (.func 105) #[] #[]] := (((bk.store 0 _).store 1 _).store 2 _).store 3 _
  have hb4 : Below w.heap.size w ((((v0.setCell ⟨w.heap.size, 0, none⟩ (.func (.func 102) #[] #[])).setCell ⟨w.heap.size, 1, none⟩ (.func (.func 103) #[] #[])).setCell ⟨w.heap.size, 2, none⟩ (.func (.func 104) #[] #[])).setCell ⟨w.heap.size, 3, none⟩ (.func (.func 105) #[] #[])) := (((HB.out.trans ((Keep.setCell _ _ _ (fun k => w.heap.size ≤ k) (Nat.le_refl _)).below (fun _ h => h) (by omega))).trans ((Keep.setCell _ _ _ (fun k => w.heap.size ≤ k) (Nat.le_refl _)).below (fun _ h => h) (by simp; omega))).trans ((Keep.setCell _ _ _ (fun k => w.heap.size ≤ k) (Nat.le_refl _)).below (fun _ h => h) (by simp; omega))).trans ((Keep.setCell _ _ _ (fun k => w.heap.size ≤ k) (Nat.le_refl _)).below (fun _ h => h) (by simp; omega))
  generalize ((((v0.setCell ⟨w.heap.size, 0, none⟩ (.func (.func 102) #[] #[])).setCell ⟨w.heap.size, 1, none⟩ (.func (.func 103) #[] #[])).setCell ⟨w.heap.size, 2, none⟩ (.func (.func 104) #[] #[])).setCell ⟨w.heap.size, 3, none⟩ (.func (.func 105) #[] #[])) = v4 at *
  clear k0 k1 k2 k3 f0 f1 f2 f3 bk z
  have k0 := b4.at_ 0
  have k1 := b4.at_ 1
  have k2 := b4.at_ 2
  have k3 := b4.at_ 3
  simp only [List.getElem?_toArray, List.getElem?_cons_succ, List.getElem?_cons_zero] at k0 k1 k2 k3
  refine bodyPost_ret (v := .agg #[.func (.func 102) #[] #[], .func (.func 103) #[] #[], .func (.func 104) #[] #[], .func (.func 105) #[] #[]]) (by simp [results, Try.results89, go_sem, k0, k1, k2, k3]) rfl ⟨rfl, hb4⟩
end Go.Proofs.Ytllmahcanipcpaa
