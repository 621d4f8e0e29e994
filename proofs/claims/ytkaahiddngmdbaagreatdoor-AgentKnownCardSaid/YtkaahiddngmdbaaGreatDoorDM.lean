/- chain.Went of any board that Check lets pass. -/
import Derived.Test.YtkaahiddngmdbaaGreatDoorDL
import Derived.Laws.EntriesVeiled
set_option linter.unusedVariables false
set_option linter.unusedSimpArgs false
namespace Go.Proofs.YtkaahiddngmdbaaGreatDoor
open Go.RowKit
attribute [local go_sem ↓] Go.wp_at_zero Go.wp_at_succ

set_option maxHeartbeats 400000 in
set_option maxRecDepth 100000 in
/-- Went's question: what went on board in the hour. -/
theorem went1_any {w : World} {ph : Nat} {x : List Int} {h : Nat} (hh : h < 4) (e2 : w.cell? ⟨ph, 0, none⟩ = some (.int .i64 (h : Int))) :
 Calls Tryz.prog 387 #[plVal x, .pointer (some ⟨ph, 0, none⟩)] w fun e w' => e = .returned (.int .i64 (nth x h)) ∧ Below w.heap.size w w' := by
 have hB0 : Below w.heap.size w (w.alloc (.cells #[.int .i64 (nth x 0), .int .i64 (nth x 1), .int .i64 (nth x 2), .int .i64 (nth x 3)] 236)) := (Below.refl _ _).alloc (Nat.le_refl _) _
 have bk : Blk (w.alloc (.cells #[.int .i64 (nth x 0), .int .i64 (nth x 1), .int .i64 (nth x 2), .int .i64 (nth x 3)] 236)) w.heap.size 236 #[.int .i64 (nth x 0), .int .i64 (nth x 1), .int .i64 (nth x 2), .int .i64 (nth x 3)] := Blk.made
 have f2 := (hB0.cell (p := ⟨ph, 0, none⟩) (cell_lt e2)).trans e2
 have HB0 := hide hB0
 have i0 : (0 : Int) ≤ (h : Int) := Int.natCast_nonneg _
 have i2 : (h : Int) < 4 := by omega
 simp only [plVal, iv]
 clear hB0 e2
 go_enter Tryz.func387, Tryz.ntmps387
 go_upto_region 1 with (fail)
 generalize (w.alloc (.cells #[.int .i64 (nth x 0), .int .i64 (nth x 1), .int .i64 (nth x 2), .int .i64 (nth x 3)] 236)) = w0 at *
 have z3 := bk.lt
 have g0 : w0.cell? ⟨w.heap.size, h, none⟩ = some (.int .i64 (nth x h)) := by
  rw [bk.at_ h]
  rcases h with _ | _ | _ | _ | h
  · rfl
  · rfl
  · rfl
  · rfl
  · omega
 clear bk
 go_wp2_with fail
 go_ret
 exact ⟨rfl, HB0.out⟩
def WentPost (w : World) (b : Board) (hold : Nat) (e : Ending) (w' : World) : Prop :=
 Below w.heap.size w w' ∧ e = .returned (if someB b then .tuple #[.agg #[.int .i64 (hullM (fun l => nth l hold) (truthsL b)).lo, .int .i64 (hullM (fun l => nth l hold) (truthsL b)).hi], .int .i64 0] else .tuple #[.agg #[.int .i64 0, .int .i64 0], .int .i64 8])
theorem went_yes {w w' : World} {b : Board} {hold : Nat} (hs : someB b = true) (hb : Below w.heap.size w w') : WentPost w b hold (.returned (.tuple #[.agg #[.int .i64 (hullM (fun l => nth l hold) (truthsL b)).lo, .int .i64 (hullM (fun l => nth l hold) (truthsL b)).hi], .int .i64 0])) w' := ⟨hb, by rw [hs]; rfl⟩
theorem went_no {w w' : World} {b : Board} {hold : Nat} (hs : someB b = false) (hb : Below w.heap.size w w') : WentPost w b hold (.returned (.tuple #[.agg #[.int .i64 0, .int .i64 0], .int .i64 8])) w' := ⟨hb, by rw [hs]; rfl⟩
set_option maxHeartbeats 2000000 in
set_option maxRecDepth 100000 in
theorem went_any {w : World} {b : Board} {a : BrdA} {hold : Nat} (h : BrdV w w.heap.size b a) (hv : ValidB b) (hchk : ChkOk b a w) (hx : hold < b.hours.length) :
 Calls Tryz.prog 341 #[brdVal b a, .int .i64 (hold : Int)] w (WentPost w b hold) := by
 have HV := hide hv
 have HX := hide hx
 have HXI := hide (show (0 : Int) ≤ (hold : Int) ∧ (hold : Int) < (b.hours.length : Int) from ⟨Int.natCast_nonneg _, by omega⟩)
 have HM := hide (show (b.hours.length : Int) ≤ 100 by have := hv.hours; omega)
 have HN0 : Hid (∀ w', someB b = false → Below w.heap.size w w' → WentPost w b hold (.returned (.tuple #[.agg #[.int .i64 0, .int .i64 0], .int .i64 8])) w') := hide (fun w' => went_no)
 have HN1 : Hid (∀ w', someB b = true → Below w.heap.size w w' → WentPost w b hold (.returned (.tuple #[.agg #[.int .i64 (hullM (fun l => nth l hold) (truthsL b)).lo, .int .i64 (hullM (fun l => nth l hold) (truthsL b)).hi], .int .i64 0])) w') := hide (fun w' => went_yes)
 have b1 : Below w.heap.size w (((w.alloc (.cells (brdCells b a) 36)).alloc (.cells #[.int .i64 (hold : Int)] 3)).alloc (.cells #[.int .i64 0, .int .i64 0] 28)) := (((Below.refl _ _).alloc (Nat.le_refl _) _).alloc (by simp) _).alloc (by simp; omega) _
 have k1 : Blk (((w.alloc (.cells (brdCells b a) 36)).alloc (.cells #[.int .i64 (hold : Int)] 3)).alloc (.cells #[.int .i64 0, .int .i64 0] 28)) w.heap.size 36 (brdCells b a) := (Blk.made.alloc _).alloc _
 have k2 : Blk (((w.alloc (.cells (brdCells b a) 36)).alloc (.cells #[.int .i64 (hold : Int)] 3)).alloc (.cells #[.int .i64 0, .int .i64 0] 28)) (w.heap.size + 1) 3 #[.int .i64 (hold : Int)] := (Blk.made' (by simp)).alloc _
 have k3 : Blk (((w.alloc (.cells (brdCells b a) 36)).alloc (.cells #[.int .i64 (hold : Int)] 3)).alloc (.cells #[.int .i64 0, .int .i64 0] 28)) (w.heap.size + 1 + 1) 28 #[.int .i64 0, .int .i64 0] := Blk.made' (by simp)
 have HH := hide (h.next b1)
 have HCK := hide (hchk.later b1)
 clear h hv hchk hx
 go_enter Tryz.func341, Tryz.ntmps341
 go_upto_region 1 with (fail)
 generalize (((w.alloc (.cells (brdCells b a) 36)).alloc (.cells #[.int .i64 (hold : Int)] 3)).alloc (.cells #[.int .i64 0, .int .i64 0] 28)) = w1 at *
 have z1 := k1.lt
 have z2 := k2.lt
 have z3 := k3.lt
 have s0 := k1.at_ 0
 have s1 := k1.at_ 1
 have s2 := k1.at_ 2
 have t0 := k2.at_ 0
 simp only [List.getElem?_toArray, List.getElem?_cons_zero, List.getElem?_cons_succ] at s0 s1 s2 t0
 have bA : Below w1.heap.size w1 (w1.alloc (.cells #[.int .i64 (hold : Int), .int .i64 (b.hours.length : Int)] 3)) := (Below.refl _ _).alloc (Nat.le_refl _) _
 have HEN := hide (enter_any (HH.out.next bA) HV.out (HCK.out.later bA) ((IntsS.lit2 (w := w1) rfl (hold : Int) (b.hours.length : Int)).more (by simp)) HXI.out HM.out)
 have HB1 := hide b1
 have HK2 := hide k2
 have HK3 := hide k3
 have hz1 := b1.size
 clear b1 k1 k2 k3
 go_wp2_with fail
 refine HEN.out.mono ?_
 rintro e w2 ⟨hb2, hpost⟩
 have hb2' := bA.trans (hb2.mono bA.size)
 have hz2 := hb2'.size
 have HB2 := hide (HB1.out.trans (hb2'.mono hz1))
 have HK2' := hide (HK2.out.next hb2')
 have HK3' := hide (HK3.out.next hb2')
 have hzA : (w1.alloc (.cells #[.int .i64 (hold : Int), .int .i64 (b.hours.length : Int)] 3)).heap.size = w1.heap.size + 1 := by simp
 rcases hpost with ⟨hs, g, bm, rfl, hl⟩ | ⟨hs, rfl⟩
 · rw [hzA] at hl
   have HSB := hide hs
   have HL := hide hl
   clear hb2 hb2' bA s0 s1 s2 t0 hs hl
   have z3' := HK3'.out.lt
   have z2' := HK2'.out.lt
   go_upto_region 4 with (fail)
   have hbm := HL.out.k.lt
   have hbm2 := HL.out.hm
   have n2 : ¬ w.heap.size + 1 = bm := by omega
   have n3 : ¬ w.heap.size + 1 + 1 = bm := by omega
   have h0 := HK2'.out.at_ 0
   simp only [List.getElem?_toArray, List.getElem?_cons_zero, List.getElem?_cons_succ] at h0
   have HQ := hide (hull_any (of := fun l => nth l hold) HL.out HV.out (enters_of Tryz.func387 (by kernel_rfl) rfl) (lb := #[.pointer (some ⟨w.heap.size + 1, 0, none⟩)])
    (fun x W hx hl' hk => went1_any (Nat.lt_of_lt_of_le HX.out HV.out.hours) ((hk.cell z2' n2).trans h0)))
   have HB3 := HB2
   have HQ3 := HK3'
   clear h0
   go_wp2_with fail
   refine HQ.out.mono ?_
   rintro e w4 ⟨rfl, hk4, hc4⟩
   have q4 := HQ3.out.keep hk4 n3
   have HB4 := hide (HB3.out.trans (hk4.below (B := w.heap.size) (fun k hk => by omega) HB3.out.size))
   clear hk4 hc4
   have r0 := q4.at_ 0
   have r1 := q4.at_ 1
   have f0 := q4.free 0
   have f1 := q4.free 1
   have zq := q4.lt
   simp only [List.getElem?_toArray, List.getElem?_cons_zero, List.getElem?_cons_succ] at r0 r1
   have HN2 := hide (HN1.out)
   clear HN1
   generalize (hullM (fun l => nth l hold) (truthsL b)).lo = lo at *
   generalize (hullM (fun l => nth l hold) (truthsL b)).hi = hi at *
   go_wp2_with fail
   have hk5 : Keep (fun k => k = w.heap.size + 1 + 1) w4 ((w4.setCell ⟨w.heap.size + 1 + 1, 0, none⟩ (.int .i64 lo)).setCell ⟨w.heap.size + 1 + 1, 1, none⟩ (.int .i64 hi)) := (Keep.setCell w4 ⟨w.heap.size + 1 + 1, 0, none⟩ (.int .i64 lo) (fun k => k = w.heap.size + 1 + 1) rfl).trans (Keep.setCell _ ⟨w.heap.size + 1 + 1, 1, none⟩ (.int .i64 hi) (fun k => k = w.heap.size + 1 + 1) rfl)
   have b5 : Blk ((w4.setCell ⟨w.heap.size + 1 + 1, 0, none⟩ (.int .i64 lo)).setCell ⟨w.heap.size + 1 + 1, 1, none⟩ (.int .i64 hi)) (w.heap.size + 1 + 1) 28 #[.int .i64 lo, .int .i64 hi] := (q4.store 0 _).store 1 _
   generalize ((w4.setCell ⟨w.heap.size + 1 + 1, 0, none⟩ (.int .i64 lo)).setCell ⟨w.heap.size + 1 + 1, 1, none⟩ (.int .i64 hi)) = w5 at *
   have hB5 := HB4.out.trans (hk5.below (B := w.heap.size) (fun k hk => by omega) HB4.out.size)
   clear r0 r1 f0 f1 hk5 q4
   have x0 := b5.at_ 0
   have x1 := b5.at_ 1
   simp only [List.getElem?_toArray, List.getElem?_cons_zero, List.getElem?_cons_succ] at x0 x1
   exact bodyPost_ret (v := .tuple #[.agg #[.int .i64 lo, .int .i64 hi], .int .i64 0]) (by simp [results, Tryz.results341, go_sem, x0, x1]) rfl (HN2.out _ HSB.out hB5)
 · have HSB := hide hs
   clear hb2 hb2' bA s0 s1 s2 t0 hs
   go_upto_region 3 with (fail)
   have q4 := HK3'.out
   have HB4 := HB2
   have r0 := q4.at_ 0
   have r1 := q4.at_ 1
   have f0 := q4.free 0
   have f1 := q4.free 1
   have zq := q4.lt
   simp only [List.getElem?_toArray, List.getElem?_cons_zero, List.getElem?_cons_succ] at r0 r1
   go_wp2_with fail
   have hk5 : Keep (fun k => k = w.heap.size + 1 + 1) w2 ((w2.setCell ⟨w.heap.size + 1 + 1, 0, none⟩ (.int .i64 0)).setCell ⟨w.heap.size + 1 + 1, 1, none⟩ (.int .i64 0)) := (Keep.setCell w2 ⟨w.heap.size + 1 + 1, 0, none⟩ (.int .i64 0) (fun k => k = w.heap.size + 1 + 1) rfl).trans (Keep.setCell _ ⟨w.heap.size + 1 + 1, 1, none⟩ (.int .i64 0) (fun k => k = w.heap.size + 1 + 1) rfl)
   have b5 : Blk ((w2.setCell ⟨w.heap.size + 1 + 1, 0, none⟩ (.int .i64 0)).setCell ⟨w.heap.size + 1 + 1, 1, none⟩ (.int .i64 0)) (w.heap.size + 1 + 1) 28 #[.int .i64 0, .int .i64 0] := (q4.store 0 _).store 1 _
   generalize ((w2.setCell ⟨w.heap.size + 1 + 1, 0, none⟩ (.int .i64 0)).setCell ⟨w.heap.size + 1 + 1, 1, none⟩ (.int .i64 0)) = w5 at *
   have hB5 := HB4.out.trans (hk5.below (B := w.heap.size) (fun k hk => by omega) HB4.out.size)
   clear r0 r1 f0 f1 hk5 q4
   have x0 := b5.at_ 0
   have x1 := b5.at_ 1
   simp only [List.getElem?_toArray, List.getElem?_cons_zero, List.getElem?_cons_succ] at x0 x1
   exact bodyPost_ret (v := .tuple #[.agg #[.int .i64 0, .int .i64 0], .int .i64 8]) (by simp [results, Tryz.results341, go_sem, x0, x1]) rfl (HN0.out _ HSB.out hB5)
end Go.Proofs.YtkaahiddngmdbaaGreatDoor
