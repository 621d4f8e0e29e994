/- A looked-at book in memory; the iterator over the steps behind a step. -/
import Derived.Test.YtocdmkilnbpkdaaGreatDoorZE
import Derived.Test.YtocdmkilnbpkdaaGreatDoorHA
import Derived.Laws.EntriesVeiled
import Derived.OwnWalkIn
import Derived.TacticsInMore
import Derived.Deep.DeepCutAuto
set_option linter.unusedVariables false
set_option linter.unusedSimpArgs false
namespace Go.Proofs.YtocdmkilnbpkdaaGreatDoor
open Go.RowKit
attribute [local go_sem] Oper.semAt_some

abbrev lookCells (b : Book) (a : BA) (h : Nat → Span) : Array Value :=
 #[.slice a.A1 b.steps.length a.c1, .slice a.A2 b.tallies.length a.c2, .int .i64 (h 0).lo, .int .i64 (h 0).hi, .int .i64 (h 1).lo, .int .i64 (h 1).hi, .int .i64 (h 2).lo, .int .i64 (h 2).hi,
  .int .i64 (h 3).lo, .int .i64 (h 3).hi, .int .i64 (h 4).lo, .int .i64 (h 4).hi, .int .i64 (h 5).lo, .int .i64 (h 5).hi]
/-- A book that is looked at: its rows below block L, the hands of its steps in block g. -/
structure LookB (w : World) (L g : Nat) (b : Book) (a : BA) (h : Nat → Span) : Prop where
 v : BookV w L b a
 hL : L ≤ g
 k : Blk w g 88 (lookCells b a h)
section
variable {w w' : World} {L g : Nat} {b : Book} {a : BA} {h : Nat → Span} {S : Nat → Prop}
theorem BookV.keep (hv : BookV w L b a) (hk : Keep S w w') (hl : L ≤ w.heap.size) (hS : ∀ k, S k → L ≤ k) : BookV w' L b a := by
 have hc : ∀ q o, q < L → w'.cell? ⟨q, o, none⟩ = w.cell? ⟨q, o, none⟩ := fun q o hq => hk.cell (by omega) (fun hs => by have := hS q hs; omega)
 exact ⟨hv.steps.keep hc, hv.tallies.keep hc, hv.small, hv.m1, hv.m2⟩
theorem LookB.keep (hl : LookB w L g b a h) (hk : Keep S w w') (hS : ∀ k, S k → L ≤ k) (hg : ¬ S g) : LookB w' L g b a h :=
 ⟨hl.v.keep hk (by have := hl.hL; have := hl.k.lt; omega) hS, hl.hL, hl.k.keep hk hg⟩
theorem LookB.next (hl : LookB w L g b a h) (hb : Below w.heap.size w w') : LookB w' L g b a h := hl.keep (Keep.of_below' hb (fun _ => False)) (fun _ h => h.elim) (fun h => h)
theorem LookB.at_lo (hl : LookB w L g b a h) {i : Nat} (hi : i < 6) : w.cell? ⟨g, 2 + i * 2, none⟩ = some (.int .i64 (h i).lo) := by
 rw [hl.k.at_]
 match i, hi with
 | 0, _ => rfl
 | 1, _ => rfl
 | 2, _ => rfl
 | 3, _ => rfl
 | 4, _ => rfl
 | 5, _ => rfl
theorem LookB.at_hi (hl : LookB w L g b a h) {i : Nat} (hi : i < 6) : w.cell? ⟨g, 2 + i * 2 + 1, none⟩ = some (.int .i64 (h i).hi) := by
 rw [hl.k.at_]
 match i, hi with
 | 0, _ => rfl
 | 1, _ => rfl
 | 2, _ => rfl
 | 3, _ => rfl
 | 4, _ => rfl
 | 5, _ => rfl
/-- The hands of a step are stored. -/
theorem LookB.put (hl : LookB w L g b a h) {i : Nat} (hi : i < 6) (s : Span) : LookB ((w.setCell ⟨g, 2 + i * 2, none⟩ (.int .i64 s.lo)).setCell ⟨g, 2 + i * 2 + 1, none⟩ (.int .i64 s.hi)) L g b a (upd h i s) := by
 have hk : Keep (fun q => q = g) w ((w.setCell ⟨g, 2 + i * 2, none⟩ (.int .i64 s.lo)).setCell ⟨g, 2 + i * 2 + 1, none⟩ (.int .i64 s.hi)) := (Keep.setCell _ _ _ (fun q => q = g) rfl).trans (Keep.setCell _ _ _ (fun q => q = g) rfl)
 refine ⟨hl.v.keep hk (by have := hl.hL; have := hl.k.lt; omega) (fun q e => by have := hl.hL; omega), hl.hL, ?_⟩
 have := (hl.k.store (2 + i * 2) (.int .i64 s.lo)).store (2 + i * 2 + 1) (.int .i64 s.hi)
 match i, hi with
 | 0, _ => exact this
 | 1, _ => exact this
 | 2, _ => exact this
 | 3, _ => exact this
 | 4, _ => exact this
 | 5, _ => exact this
theorem keep_put (w : World) (g i : Nat) (s : Span) : Keep (fun q => q = g) w ((w.setCell ⟨g, 2 + i * 2, none⟩ (.int .i64 s.lo)).setCell ⟨g, 2 + i * 2 + 1, none⟩ (.int .i64 s.hi)) := (Keep.setCell _ _ _ (fun q => q = g) rfl).trans (Keep.setCell _ _ _ (fun q => q = g) rfl)
end
abbrev nv (k : Nat) : Value := .int .i64 (k : Int)
/-- The steps behind a step, of the first j. -/
def behTo (b : Book) (i j : Nat) : List Nat := (List.range j).filter fun k => (nth b.steps k).from_ == (i : Int)
theorem behTo_succ (b : Book) (i j : Nat) : behTo b i (j + 1) = behTo b i j ++ (if (nth b.steps j).from_ == (i : Int) then [j] else []) := by
 simp [behTo, List.range_succ, List.filter_append, List.filter_cons]
theorem behTo_pre (b : Book) (i : Nat) {j : Nat} (h : j ≤ b.steps.length) : behTo b i j <+: behindB b i := by
 refine List.IsPrefix.filter _ ?_
 exact ⟨(List.range (b.steps.length - j)).map (j + ·), by rw [← List.range_add, Nat.add_sub_cancel' h]⟩
set_option maxHeartbeats 2000000 in
set_option maxRecDepth 100000 in
theorem behind_iter {C : Nat → Prop} {w : World} {L g p1 p2 i : Nat} {b : Book} {a : BA} (hp1 : p1 < w.heap.size) (hp2 : p2 < w.heap.size) (hg : g < w.heap.size) (hLw : L ≤ w.heap.size)
 (e1 : w.cell? ⟨p1, 0, none⟩ = some (.pointer (some ⟨g, 0, none⟩))) (e2 : w.cell? ⟨p2, 0, none⟩ = some (.int .i64 (i : Int))) (c0 : w.cell? ⟨g, 0, none⟩ = some (.slice a.A1 b.steps.length a.c1)) (h : BookV w L b a) (hC : ∀ k, C k → L ≤ k ∧ k ≠ p2) :
 IterStill Tryz.prog 128 #[.pointer (some ⟨p1, 0, none⟩), .pointer (some ⟨p2, 0, none⟩)] nv C (fun _ => True) (behindB b i) w := by
 intro l C' J Jx W hBW hl hlW hC' hJ hY _ h0
 have hsz := hBW.size
 have hp1W : p1 < W.heap.size := by omega
 have hgW : g < W.heap.size := by omega
 have e1' : W.cell? ⟨p1, 0, none⟩ = some (.pointer (some ⟨g, 0, none⟩)) := (hBW.cell (p := ⟨p1, 0, none⟩) hp1).trans e1
 have e2' : W.cell? ⟨p2, 0, none⟩ = some (.int .i64 (i : Int)) := (hBW.cell (p := ⟨p2, 0, none⟩) hp2).trans e2
 have c0' : W.cell? ⟨g, 0, none⟩ = some (.slice a.A1 b.steps.length a.c1) := (hBW.cell (p := ⟨g, 0, none⟩) hg).trans c0
 have h2 : BookV W L b a := h.keep (Keep.of_below' hBW (fun _ => False)) hLw (fun _ h => h.elim)
 have hC2 : ∀ k, C' k → L ≤ k ∧ k ≠ p2 := fun k hk => by
  rcases hC' k hk with h1 | h1
  · exact hC k h1
  · omega
 have hmm := h2.m1
 unfold maxLen at hmm
 have H0 := hide h0
 have HJ := hide hJ
 have HY := hide hY
 have HC := hide hC2
 have hLW : L ≤ W.heap.size := by omega
 have HV := hide h2
 have E2 := hide e2'
 have hp2W : p2 < W.heap.size := by omega
 clear hC hC' hBW hl e1 e2 c0 h h0 hJ hY hC2 e2' h2
 go_enter Tryz.func128, Tryz.ntmps128
 go_wp2_with fail
 obtain ⟨W0, HW0⟩ : ∃ W0, Hid (W0 = W) := ⟨W, hide rfl⟩
 go_loopw [4, 5, 12] (fun _ _ vi wr => ∃ j : Nat, j ≤ b.steps.length ∧ vi = .int .i64 j ∧ Hid (J (behTo b i j) wr) ∧ Hid (Keep C' W wr)) (fun _ _ vi _ => b.steps.length - (intOf vi).toNat)
 case atStart => exact ⟨0, Nat.zero_le _, rfl, H0, hide (Keep.refl _ _)⟩
 case round =>
  obtain ⟨j, hj, rfl, HJr, HKr⟩ := hrel
  by_cases hlt : j < b.steps.length
  · have hv := HV.out.keep HKr.out hLW (fun k hk => (HC.out k hk).1)
    obtain ⟨bs, os, hA, hbs, s0, s1, s2⟩ := hv.steps.steps hlt
    have y2 : wr.cell? ⟨p2, 0, none⟩ = some (.int .i64 (i : Int)) := (HKr.out.cell hp2W (fun hk => (HC.out _ hk).2 rfl)).trans E2.out
    have hpz : p2 < wr.heap.size := by have := HKr.out.size; omega
    have hbz : bs < wr.heap.size := by have := HKr.out.size; omega
    have HBS := hide (behTo_succ b i j)
    have HPR := hide (behTo_pre b i (j := j + 1) hlt)
    have hka : Keep (fun _ => False) wr (wr.alloc (.cells #[.string (nth b.steps j).name, .int .i64 (nth b.steps j).from_, .int .i64 (nth b.steps j).loss] 68)) := Keep.of_below' ((Below.refl _ _).alloc (Nat.le_refl _) _) _
    have HJ1 := hide (HJ.out _ _ _ HJr.out hka trivial)
    have HK1 := hide (HKr.out.trans (hka.mono (S' := C') (fun k _ h => h.elim)))
    rw [hA]
    clear hv hA hka
    generalize (nth b.steps j).from_ = fr at *
    generalize (nth b.steps j).name = nm at *
    generalize (nth b.steps j).loss = ls at *
    cases hq : (fr == (i : Int)) with
    | false =>
     rw [hq, if_neg (by simp), List.append_nil] at HBS
     go_wp2_with fail
     go_roundw
     case rel => exact ⟨j + 1, by omega, by go_num, hide (by rw [HBS.out]; exact HJ1.out), HK1⟩
     case measure => simp [intOf]; omega
    | true =>
     rw [hq, if_pos rfl] at HBS
     have hpr := HPR.out
     rw [HBS.out] at hpr
     obtain ⟨fn, tmps, asg, body, hy, hR⟩ := HY.out _ _ _ hpr HJ1.out trivial
     have HR := hide hR
     clear hR hpr
     refine (wpIn_wide (n := 0)).1 ?_
     gi_wp2
     refine ⟨rfl, HR.out.mono ?_⟩
     rintro e W' ⟨hkC, _, (⟨rfl, hIW⟩ | ⟨rfl, hIxW⟩)⟩
     · gi_wp2
       go_roundw
       · exact ⟨j + 1, hlt, by simp, hide (by rw [HBS.out]; exact hIW), hide (HK1.out.trans hkC)⟩
       · simp [intOf]; omega
     · gi_wp2
       refine bodyPost_ret (results_none rfl _ _ _) rfl ?_
       exact ⟨⟨_, rfl⟩, trivial, HK1.out.trans hkC, .inr ⟨_, by simp, by rw [← HBS.out]; exact HPR.out, hIxW⟩⟩
  · have hjn : j = b.steps.length := by omega
    subst hjn
    go_wp2
    go_end0
    exact ⟨⟨_, rfl⟩, trivial, HKr.out, .inl HJr.out⟩
set_option maxRecDepth 100000 in
theorem behind_any {w : World} {g i : Nat} :
 Calls Tryz.prog 106 #[.pointer (some ⟨g, 0, none⟩), .int .i64 (i : Int)] w fun e w' => ∃ p1 p2, e = .returned (.func (.func 128) #[] #[.pointer (some ⟨p1, 0, none⟩), .pointer (some ⟨p2, 0, none⟩)]) ∧
  (w.heap.size ≤ p1 ∧ p1 < w'.heap.size) ∧ (w.heap.size ≤ p2 ∧ p2 < w'.heap.size) ∧ w'.cell? ⟨p1, 0, none⟩ = some (.pointer (some ⟨g, 0, none⟩)) ∧ w'.cell? ⟨p2, 0, none⟩ = some (.int .i64 (i : Int)) ∧ Below w.heap.size w w' := by
 go_enter Tryz.func106, Tryz.ntmps106
 go_wp2_with fail
 go_ret
 refine ⟨w.heap.size, w.heap.size + 1, rfl, ⟨Nat.le_refl _, by simp; omega⟩, ⟨by omega, by simp⟩, ?_, ?_, ((Below.refl _ _).alloc (Nat.le_refl _) _).alloc (by simp) _⟩
 · rw [World.cell?_alloc_past _ _ _ (by simp), World.cell?_alloc_at _ _ _ _ rfl]; rfl
 · rw [World.cell?_alloc_at _ _ _ _ (by simp)]; rfl
end Go.Proofs.YtocdmkilnbpkdaaGreatDoor
