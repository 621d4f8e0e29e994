/- chain.Hold of a board that Check lets pass, and of which there is a truth. -/
import Derived.Test.YtkaahiddngmdbaaGreatDoorDJ
set_option linter.unusedVariables false
set_option linter.unusedSimpArgs false
namespace Go.Proofs.YtkaahiddngmdbaaGreatDoor
open Go.RowKit
attribute [local go_sem ↓] Go.wp_at_zero Go.wp_at_succ

set_option maxHeartbeats 1000000 in
set_option maxRecDepth 100000 in
theorem look_any {w : World} {b : Board} {a : BrdA} (h : BrdV w w.heap.size b a) :
 Calls Tryz.prog 222 #[brdVal b a] w fun e w' => ∃ g bm, e = .returned (.pointer (some ⟨g, 0, none⟩)) ∧ LookH w' w.heap.size g bm b a ∧ Below w.heap.size w w' := by
 have HV := hide h
 clear h
 go_enter Tryz.func222, Tryz.ntmps222
 have k1 : Blk (w.alloc (.cells (brdCells b a) 36)) w.heap.size 36 (brdCells b a) := Blk.made
 have b1 : Below w.heap.size w (w.alloc (.cells (brdCells b a) 36)) := (Below.refl _ _).alloc (Nat.le_refl _) _
 go_upto_region 1 with (fail)
 generalize (w.alloc (.cells (brdCells b a) 36)) = w1 at *
 have z1 := k1.lt
 have s0 := k1.at_ 0
 have s1 := k1.at_ 1
 have s2 := k1.at_ 2
 simp only [List.getElem?_toArray, List.getElem?_cons_zero, List.getElem?_cons_succ] at s0 s1 s2
 have hz := b1.size
 have hmm := @run_makeMap Tryz.prog
 go_wp2_with fail
 go_ret
 have bb : Below w1.heap.size w1 ((w1.alloc (.map #[] 0)).alloc (.cells (lookCells b a w1.heap.size) 365)) := ((Below.refl _ _).alloc (Nat.le_refl _) _).alloc (by simp) _
 have hB := b1.trans (bb.mono hz)
 refine ⟨w1.heap.size + 1, w1.heap.size, by simp, ⟨HV.out.below hB, Blk.made' (by simp), (cache_made _ _).heap (Below.heap_alloc _ _ _ (by simp)) fun k hk => Below.heap_alloc _ _ _ hk.lt, hB.size, by omega, by omega⟩, hB⟩
theorem LookH.less {w : World} {L L' g bm : Nat} {b : Board} {a : BrdA} (h : LookH w L' g bm b a) (hv : BrdV w L b a) (hL : L ≤ L') : LookH w L g bm b a :=
 ⟨hv, h.q, h.k, Nat.le_trans hL h.hL, Nat.le_trans hL h.hg, Nat.le_trans hL h.hm⟩
/-- Check says that nothing is wrong, wherever the board lies as it does in w. -/
def ChkOk (b : Board) (a : BrdA) (w : World) : Prop := ∀ W, Below w.heap.size w W → Calls Tryz.prog 60 #[brdVal b a] W fun e w' => e = .returned (.tuple #[.int .i64 0, .int .i64 0, .int .i64 0]) ∧ Below W.heap.size W w'
def EnterPost (w : World) (b : Board) (a : BrdA) (e : Ending) (w' : World) : Prop :=
 Below w.heap.size w w' ∧ ((someB b = true ∧ ∃ g bm, e = .returned (.tuple #[.pointer (some ⟨g, 0, none⟩), .int .i64 0]) ∧ LookH w' w.heap.size g bm b a) ∨ (someB b = false ∧ e = .returned (.tuple #[.pointer none, .int .i64 8])))
theorem enter_yes {w w' : World} {b : Board} {a : BrdA} {g bm : Nat} (hs : someB b = true) (hb : Below w.heap.size w w') (hl : LookH w' w.heap.size g bm b a) : EnterPost w b a (.returned (.tuple #[.pointer (some ⟨g, 0, none⟩), .int .i64 0])) w' := ⟨hb, .inl ⟨hs, g, bm, rfl, hl⟩⟩
theorem enter_no {w w' : World} {b : Board} {a : BrdA} (hs : someB b = false) (hb : Below w.heap.size w w') : EnterPost w b a (.returned (.tuple #[.pointer none, .int .i64 8])) w' := ⟨hb, .inr ⟨hs, rfl⟩⟩
set_option maxHeartbeats 2000000 in
set_option maxRecDepth 100000 in
theorem enter_any {w : World} {b : Board} {a : BrdA} {A : Option Addr} {x m : Int} (h : BrdV w w.heap.size b a) (hv : ValidB b) (hchk : ChkOk b a w) (hn : IntsS w w.heap.size A 2 2 [x, m]) (hx : 0 ≤ x ∧ x < m) (hm : m ≤ 100) :
 Calls Tryz.prog 122 #[brdVal b a, .int .i64 0, .slice A 2 2] w (EnterPost w b a) := by
 obtain ⟨kn, on, rfl, hkn, hc0⟩ := hn.at_ (show 0 < 2 by omega)
 obtain ⟨kn2, on2, e2, _, hc1⟩ := hn.at_ (show 1 < 2 by omega)
 cases e2
 replace hc0 : w.cell? ⟨kn, on, none⟩ = some (.int .i64 x) := hc0
 replace hc1 : w.cell? ⟨kn, on + 1, none⟩ = some (.int .i64 m) := hc1
 have HV := hide hv
 have HH := hide h
 have b1 : Below w.heap.size w (w.alloc (.cells (brdCells b a) 36)) := (Below.refl _ _).alloc (Nat.le_refl _) _
 have hck := hchk _ b1
 have HN0 : Hid (∀ w', someB b = false → Below w.heap.size w w' → EnterPost w b a (.returned (.tuple #[.pointer none, .int .i64 8])) w') := hide (fun w' => enter_no)
 have HN1 : Hid (∀ w' g bm, someB b = true → Below w.heap.size w w' → LookH w' w.heap.size g bm b a → EnterPost w b a (.returned (.tuple #[.pointer (some ⟨g, 0, none⟩), .int .i64 0])) w') := hide (fun w' g bm => enter_yes)
 clear h hv hchk hn
 have k1 : Blk (w.alloc (.cells (brdCells b a) 36)) w.heap.size 36 (brdCells b a) := Blk.made
 go_enter Tryz.func122, Tryz.ntmps122
 go_upto_region 1 with (fail)
 have f0 := (b1.cell (p := ⟨kn, on, none⟩) hkn).trans hc0
 have f1 := (b1.cell (p := ⟨kn, on + 1, none⟩) hkn).trans hc1
 generalize (w.alloc (.cells (brdCells b a) 36)) = w1 at *
 have z1 := k1.lt
 have s0 := k1.at_ 0
 have s1 := k1.at_ 1
 have s2 := k1.at_ 2
 simp only [List.getElem?_toArray, List.getElem?_cons_zero, List.getElem?_cons_succ] at s0 s1 s2
 have hz := b1.size
 clear hc0 hc1
 go_wp2_with (go_at_call 60; refine hck.mono ?_; rintro e w2 ⟨rfl, hb2⟩)
 have hz2 := hb2.size
 have zk1 : kn < w1.heap.size := by omega
 have zk2 : kn < w2.heap.size := by omega
 have hB2 := hide (b1.trans (hb2.mono hz))
 have g0 := (hb2.cell (p := ⟨kn, on, none⟩) zk1).trans f0
 have g1 := (hb2.cell (p := ⟨kn, on + 1, none⟩) zk1).trans f1
 have k2 := k1.next hb2
 clear s0 s1 s2 f0 f1 hb2 k1 b1 hck
 have HK2 := hide k2
 have y1 := k2.lt
 clear k2
 go_loopw [11] (fun V11 wr => (V11 = .int .i64 0 ∨ V11 = .int .i64 2) ∧ Below w2.heap.size w2 wr) (fun V11 _ => 2 - (intOf V11).toNat)
 case atStart => exact ⟨.inl rfl, Below.refl _ _⟩
 case round =>
  obtain ⟨hi, hB⟩ := hrel
  have hzr := hB.size
  have g0' := (hB.cell (p := ⟨kn, on, none⟩) zk2).trans g0
  have g1' := (hB.cell (p := ⟨kn, on + 1, none⟩) zk2).trans g1
  have HB := hide hB
  have HKR := hide (HK2.out.next hB)
  clear g0 g1 hB
  rcases hi with rfl | rfl
  · have hw0 : IntKind.i64.wrap (0 + 1) = 1 := by decide
    have hw00 : IntKind.i64.wrap 1 = 1 := by decide
    have h01 : (0 : Int) + 1 = 1 := rfl
    have h02 : (1 : Int) < ((2 : Nat) : Int) := by decide
    have h03 : (1 : Int) < 2 := by decide
    have h04 : (0 : Int) ≤ 1 := by decide
    have hw1 : IntKind.i64.wrap (m - 1) = m - 1 := IntWalk.i64_in _ (by omega)
    have hof : offP 0 (m - 1) x = false := offP_false.2 (by omega)
    have zk : kn < wr.heap.size := by omega
    go_wp2_with fail
    go_region_held3 (fun w' => w'.cell? ⟨kn, on, none⟩ = some (.int .i64 x) ∧ w'.cell? ⟨kn, on + 1, none⟩ = some (.int .i64 m)) (first | exact ⟨(hb9.cell (p := ⟨_, _, _⟩) zk).trans g0', (hb9.cell (p := ⟨_, _, _⟩) zk).trans g1'⟩ | go_keep)
     (first | (go_at_call 114; go_must (refine (coff_1d rfl _ _ _).mono ?_); rintro e w9 ⟨rfl, hb9⟩))
    rename_i hHeld
    clear hHeld
    go_wp2_with fail
    go_roundw
    case rel => exact ⟨.inr (by go_num), HB.out.trans (hb9.mono hzr)⟩
    case measure => simp [intOf]
  · have hL := HH.out.below (hB2.out.trans (HB.out.mono (by have := hB2.out.size; omega)))
    have hzw := hB2.out.size
    have kr := HKR.out
    have s0 := kr.at_ 0
    have s1 := kr.at_ 1
    have s2 := kr.at_ 2
    simp only [List.getElem?_toArray, List.getElem?_cons_zero, List.getElem?_cons_succ] at s0 s1 s2
    clear kr g0' g1'
    have HLK := hide (look_any (hL.more (show w.heap.size ≤ wr.heap.size by omega)))
    have HLL := hide hL
    clear hL
    go_wp2_with (go_at_call 222; refine HLK.out.mono ?_; rintro e w3 ⟨g, bm, rfl, hl, hb3⟩)
    clear s0 s1 s2
    have hz3 := hb3.size
    have HHB := hide (hB2.out.trans ((HB.out.mono (by omega)).trans (hb3.mono (by omega)) : Below w.heap.size w2 w3))
    have HL3 := hide (hl.less (HLL.out.below (hb3.mono (by omega))) (show w.heap.size ≤ wr.heap.size by omega))
    have HS := hide (some_any hl HV.out)
    clear hl hb3
    refine HS.out.mono ?_
    rintro e w4 ⟨rfl, hk4, hc4⟩
    have HB4 := hide (HHB.out.trans (hk4.below (B := w.heap.size) (fun k hk => by have := HL3.out.hm; omega) HHB.out.size))
    have HL4 := hide (HL3.out.keep hk4 (fun k hk => by have := HL3.out.hm; have := HL3.out.ne; omega) hc4)
    clear hk4 hc4
    cases hs : someB b with
    | true =>
     have HSB := hide hs
     clear hs
     go_wp2_with fail
     go_ret2
     exact HN1.out _ _ _ HSB.out HB4.out HL4.out
    | false =>
     have HSB := hide hs
     clear hs
     go_wp2_with fail
     go_ret2
     exact HN0.out _ HSB.out HB4.out
end Go.Proofs.YtkaahiddngmdbaaGreatDoor
