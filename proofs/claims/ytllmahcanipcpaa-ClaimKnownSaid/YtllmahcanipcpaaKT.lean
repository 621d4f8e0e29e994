/- The library's Values, AppendSeq, Collect, Sorted at lists of integers. -/
import Derived.Test.YtllmahcanipcpaaKS
import Derived.Test.YtllmahcanipcpaaVB
import Derived.Deep.DrawnRows
import Derived.Deep.DeepCutAuto
import Derived.OwnWalkIn
import Derived.RangeFuncBox
import Derived.TacticsInMore
set_option linter.unusedVariables false
set_option linter.unusedSimpArgs false
namespace Go.Proofs.Ytllmahcanipcpaa
open Go.RowKit
attribute [local go_sem ↓] Go.wp_at_zero Go.wp_at_succ
attribute [local go_sem] Oper.semAt_some

set_option maxRecDepth 100000 in
theorem values_any {w : World} {A : Option Addr} {n c : Nat} :
    Calls Try.prog 37 #[.slice A n c] w fun e w' => ∃ p, e = .returned (.func (.func 71) #[] #[.pointer (some ⟨p, 0, none⟩)]) ∧
      w.heap.size ≤ p ∧ p < w'.heap.size ∧ w'.cell? ⟨p, 0, none⟩ = some (.slice A n c) ∧ Below w.heap.size w w' := by
  go_enter Try.func37, Try.ntmps37
  go_wp2_with fail
  go_ret
  refine ⟨w.heap.size, rfl, by omega, by simp, ?_, (Below.refl _ _).alloc (Nat.le_refl _) _⟩
  rw [World.cell?_alloc_at _ _ _ _ (by simp)]; rfl

theorem IntsS.keep {w w' : World} {B : Nat} {S : Nat → Prop} {A : Option Addr} {n c : Nat} {xs : List Int} (h : IntsS w B A n c xs) (hk : Keep S w w') (hB : B ≤ w.heap.size) (hS : ∀ k, S k → B ≤ k) : IntsS w' B A n c xs :=
  ⟨h.len, h.cap, h.max, h.row.keep fun b o hb => hk.cell (by omega) (fun hs => by have := hS b hs; omega)⟩

set_option maxHeartbeats 1000000 in
set_option maxRecDepth 100000 in
theorem values_iter {C : Nat → Prop} {M : World → Prop} {w : World} {B p : Nat} {A : Option Addr} {n c : Nat} {xs : List Int}
    (hp : p < w.heap.size) (e1 : w.cell? ⟨p, 0, none⟩ = some (.slice A n c)) (h : IntsS w B A n c xs) (hB : B ≤ w.heap.size) (hC : ∀ k, C k → B ≤ k ∧ k ≠ p) :
    IterStill Try.prog 71 #[.pointer (some ⟨p, 0, none⟩)] iv C M xs w := by
  intro l C' J Jx W hBW hl hlW hC' _ hY hM h0
  have hsz := hBW.size
  have hpW : p < W.heap.size := by omega
  have e2 : W.cell? ⟨p, 0, none⟩ = some (.slice A n c) := (hBW.cell (p := ⟨p, 0, none⟩) hp).trans e1
  have h2 : IntsS W B A n c xs := h.keep (Keep.of_below' hBW (fun _ => False)) hB (fun _ h => h.elim)
  have hC2 : ∀ k, C' k → B ≤ k ∧ k ≠ p := fun k hk => by
    rcases hC' k hk with h1 | h1
    · exact hC k h1
    · omega
  have HM := hide hM
  have H0 := hide h0
  have HL := hide h2.len
  have hbd := h2.bd
  clear hC hC' hBW hl e1 h hM h0
  go_enter Try.func71, Try.ntmps71
  go_wp2_with fail
  obtain ⟨W0, HW0⟩ : ∃ W0, Hid (W0 = W) := ⟨W, hide rfl⟩
  go_loopw [4, 7] (fun _ vi wr => ∃ j : Nat, j ≤ n ∧ vi = .int .i64 j ∧ Hid (M wr) ∧ Hid (J (xs.take j) wr) ∧ Hid (Keep C' W wr)) (fun _ i _ => n - (intOf i).toNat)
  case atStart => exact ⟨0, Nat.zero_le _, rfl, HM, hide (by simpa using H0.out), hide (Keep.refl _ _)⟩
  case round =>
    obtain ⟨j, hj, rfl, HMr, HJr, HKr⟩ := hrel
    by_cases hlt : j < n
    · obtain ⟨b, off, rfl, hb, hc⟩ := (h2.keep HKr.out (by omega) (fun k hk => (hC2 k hk).1)).at_ hlt
      obtain ⟨fn, tmps, asg, body, hy, hR⟩ := hY (xs.take j) (nth xs j) wr (by rw [← take_nth (by have := HL.out; omega)]; exact List.take_prefix _ _) HJr.out HMr.out
      have HR := hide hR
      clear hR hY
      refine (wpIn_wide (n := 0)).1 ?_
      gi_wp2
      refine ⟨rfl, HR.out.mono ?_⟩
      rintro e W' ⟨hkC, hm', (⟨rfl, hIW⟩ | ⟨rfl, hIxW⟩)⟩
      · gi_wp2
        go_roundw
        · exact ⟨j + 1, hlt, by simp, hide hm', hide (by rw [take_nth (by have := HL.out; omega)]; exact hIW), hide (HKr.out.trans hkC)⟩
        · simp [intOf]; omega
      · gi_wp2
        refine bodyPost_ret (results_none rfl _ _ _) rfl ?_
        refine ⟨⟨_, rfl⟩, hm', HKr.out.trans hkC, .inr ⟨xs.take (j + 1), ?_, List.take_prefix _ _, ?_⟩⟩
        · intro e0
          have h1 := congrArg List.length e0
          have h2 := HL.out
          rw [List.length_take, List.length_nil] at h1
          omega
        · rw [take_nth (by have := HL.out; omega)]; exact hIxW
    · have hjn : j = n := by omega
      subst hjn
      go_wp2
      go_end0
      refine ⟨⟨_, rfl⟩, HMr.out, HKr.out, .inl ?_⟩
      have e0 := HJr.out
      rwa [List.take_of_length_le (by rw [HL.out]; exact Nat.le_refl _)] at e0
theorem leaves_mark {P : Program} {fn : Func} {tmps : Array Value} {R : Ending → World → Prop} {D : Nat} {w : World} (hd : w.heap[D]? = some (.deferred (some [])))
    (h : ∀ o, ∃ v, (results fn tmps).run P (w.putObj D o) = .ok v (w.putObj D o) ∧ R (.returned v) (w.putObj D o)) : LeavesInM Fence.wide 0 P fn tmps R [{ target := .collected D, args := #[] }] .returning w := by
  refine ⟨by simp, .inl ⟨D, _, rfl, run_takeDeferred hd, ?_⟩⟩
  exact h _
theorem IterStill.next {α : Type} {P : Program} {gf : Nat} {lb : Array Value} {enc : α → Value} {C : Nat → Prop} {M : World → Prop} {T : List α} {w w1 : World} (h : IterStill P gf lb enc C M T w) (hb : Below w.heap.size w w1) : IterStill P gf lb enc C M T w1 := by
  intro l C' J Jx W hBW hl hlW hC' hJ hY hM h0
  have := hb.size
  exact h l C' J Jx W (hb.trans (hBW.mono this)) (by omega) hlW hC' hJ hY hM h0

set_option maxHeartbeats 1000000 in
set_option maxRecDepth 100000 in
theorem appendSeq_any {w : World} {gf : Nat} {lb : Array Value} {xs : List Int} (eg : ∀ args w, (callFunc gf args).run Try.prog w = .ok (.enter gf args) w)
    (hit : ∀ C : Nat → Prop, (∀ k, C k → w.heap.size ≤ k) → IterStill Try.prog gf lb iv C (fun _ => True) xs w) (hfit : xs.length * 8 ≤ 140737488355328) :
    Calls Try.prog 86 #[.slice none 0 0, .func (.func gf) #[] lb] w fun e w' => ∃ v, e = .returned v ∧ w'.ownsRow w.heap.size 3 1 v xs.length (xs.map (Value.int .i64)) ∧ Below w.heap.size w w' := by
  refine (callsIn_wide (n := 0)).1 (callsIn_of_wp_marks Try.func86 rfl trivial ?_ rfl)
  refine (wpIn_wide (n := 0)).2 ?_
  simp only [Try.ntmps86, List.size_toArray, List.length_cons, List.length_nil, Nat.reduceAdd, Nat.reduceSub, Array.replicate_succ, Array.replicate_zero, List.push_toArray, List.append_toArray, List.nil_append, List.cons_append]
  go_wp2_with fail
  have hB1 : Below w.heap.size w (w.alloc (.cells #[.slice none 0 0] 23)) := (Below.refl _ _).alloc (Nat.le_refl _) _
  have hK1 : Blk (w.alloc (.cells #[.slice none 0 0] 23)) w.heap.size 23 #[.slice none 0 0] := Blk.made
  have hz1 : (w.alloc (.cells #[.slice none 0 0] 23)).heap.size = w.heap.size + 1 := by simp
  generalize (w.alloc (.cells #[.slice none 0 0] 23)) = w1 at *
  refine wp_range_still rfl eg rfl ((hit (fun k => k = w.heap.size ∨ w1.heap.size + 2 ≤ k) (fun k hk => by omega)).next hB1) (fun k hk => by omega) (fun _ _ _ _ => trivial)
    (fun pre W => ∃ v, Blk W w.heap.size 23 #[v] ∧ W.ownsRow (w1.heap.size + 2) 3 1 v pre.length (pre.map (Value.int .i64)) ∧ Below w.heap.size w W) (fun _ _ _ => False) ?hI (fun _ _ _ _ h _ => h) trivial ?h0 ?body ?done ?stop
  case hI =>
    rintro pre V V' ⟨v, h1, h2, h3⟩ hk _
    exact ⟨v, h1.keep hk (by omega), own_kept h2 hk (fun b hb => by omega), h3.trans (hk.below (B := w.heap.size) (fun k hk => by omega) h3.size)⟩
  case h0 => exact ⟨_, hK1, ⟨rfl, .inl ⟨rfl, rfl⟩⟩, hB1⟩
  case body =>
    rintro l pre x W1 hl hx ⟨v, h1, h2, h3⟩ _ hlt
    have hpl : pre.length + 1 ≤ xs.length := by have := hx.length_le; simpa using this
    have hg0 := h1.free 0
    have HX := hide hx
    have HB := hide h3
    have HZ := hide hz1
    clear hx hit hK1 hB1 h3 hz1
    gi_wp2
    refine ⟨Keep.refl _ _, trivial, fun W3 hk3 => ?_⟩
    have h1' : Blk W3 w.heap.size 23 #[v] := h1.keep hk3 (by have := HZ.out; omega)
    have h2' := own_kept h2 hk3 (fun b hb => by omega)
    have e1 := h1'.at_ 0
    have g0 := h1'.free 0
    have hz3 := hk3.size
    clear h1 h2
    have hvb : ∀ b, v.ownBlock = some b → w1.heap.size + 2 ≤ b := fun b hb => (World.ownsRow.lt h2' b hb).1
    obtain ⟨i0, hi, hz0, hz1, hz2⟩ := info_parts Try.infoInt
    have HZS := hide (show w1.heap.size + 2 ≤ W3.heap.size by omega)
    refine wpIn_block ?_
    gi_wp2_with (gi_at_builtin; refine wpListIn_append_own _ rfl _ _ 23 rfl (w1.heap.size + 2) 3 i0 (.int .i64 0) 1 8 Try.underlying23 hi hz0 hz1 hz2 rfl (by decide) _ _ _ rfl (h2'.alloc _) ⟨W3.heap.size, 0, none⟩ 1 1 [.int .i64 x] rfl rfl (cell_one_new _ _ _) (by simp [Value.oneCell']) (by unfold maxLen at *; omega) (by omega) (by have := HZS.out; simp; omega) ?_; intro v' w4 hown' hgrow _; obtain ⟨g', cap', rfl⟩ := ownsRow_succ hown'; have hb4 := (h1'.alloc (.cells #[iv x] 3)).keep (Keep.of_grown hgrow) (fun e => by have := hvb _ e.symm; have := HZ.out; omega); have c4 := hb4.at_ 0; have f4 := hb4.free 0)
    have hlt4 := World.ownsRow.lt hown' g' rfl
    have hk4 : Keep (fun k => k = w.heap.size ∨ w1.heap.size + 2 ≤ k) W3 w4 := (Keep.alloc W3 _ _).trans ((Keep.of_grown hgrow).mono (fun k _ h => .inr (hvb k h.symm)))
    refine ⟨hk4.trans (Keep.setCell _ _ _ _ (.inl rfl)), trivial, _, hb4.store 0 _, ?_, ?_⟩
    · have h5 := own_kept hown' (Keep.setCell w4 ⟨w.heap.size, 0, none⟩ (.slice (some ⟨g', 0, none⟩) (pre.length + 1) cap') (fun k => k = w.heap.size) rfl) (fun b hb => by have := HZ.out; omega)
      simpa using h5
    · exact HB.out.trans (((hk3.mono (S' := fun k => w.heap.size ≤ k) (fun k _ h => by have := HZ.out; omega)).trans ((hk4.trans (Keep.setCell _ _ _ _ (.inl rfl))).mono (fun k _ h => by have := HZ.out; omega))).below (fun k h => h) HB.out.size)
  case done =>
    rintro D W' hD ⟨v, h1, h2, h3⟩ _ hk hd
    have HB := hide h3
    have HO := hide h2
    have e1 := h1.at_ 0
    have HD := hide hd
    have HZ := hide hz1
    clear h1 h2 h3 hk hd hit hK1 hB1
    go_wp2_with fail
    refine leaves_mark HD.out (fun o => ⟨_, results_tmp rfl _ _ _, v, rfl, own_base (ownsRow_putObj HO.out o HD.out rfl) (by have := HZ.out; omega), HB.out.trans ((Keep.putObj D o (fun k => w1.heap.size ≤ k) hD).below (fun k hk => by have := HZ.out; omega) HB.out.size)⟩)
  case stop =>
    intro D cd q W' hD hq0 hqp hix hm hk hd
    exact hix.elim
end Go.Proofs.Ytllmahcanipcpaa
