/- Read of the program. -/
import Derived.Test.YtocdmkilnbpkdaaGreatDoorWJ
import Derived.Test.YtocdmkilnbpkdaaGreatDoorWC
import Derived.OwnWalkIn
import Derived.Laws.EntriesVeiled
import Derived.Recover
import Derived.LoopIn
import Derived.RangeFuncLeaves
import Derived.RangeFuncRecord
import Derived.Laws.StructEq
import Derived.TacticsInMore
import Derived.Deep.DeepCutAuto
set_option linter.unusedVariables false
set_option linter.unusedSimpArgs false
namespace Go.Proofs.YtocdmkilnbpkdaaGreatDoor
open Go.RowKit
attribute [local go_sem] Oper.semAt_some

/-- A function's contract out of the walk of its own activations. -/
theorem calls_of_wpF {P : Program} {f : FuncId} {fn : Func} {c : Code} {args : Array Value} {w : World} {R : Ending → World → Prop} (hf : P.funcs[f]? = some fn) (hb : fn.body = some c)
 (h : wpF P f c (bodyPostM Fence.wide 0 P fn R) { tmps := args ++ Array.replicate (fn.ntmps - args.size) undef, defers := [] } w) : Calls P f args w R := by
 refine (callsIn_wide (n := 0)).1 ⟨trivial, fun cs hr => ?_⟩
 obtain ⟨b, hbd⟩ : ∃ b : Frame, b = { (default : Frame) with fn := f, kind := .normal, roundOf := none } := ⟨_, rfl⟩
 have hro : b.roundOf = none := by rw [hbd]
 have hbf : b.fn = f := by rw [hbd]
 have hbk : b.kind = .normal := by rw [hbd]
 have hstart : Frame.enter P f args .normal = b.atR { tmps := args ++ Array.replicate (fn.ntmps - args.size) undef, defers := [] } [.code c] := by rw [hbd]; simp [Frame.enter, Frame.atR, hf, hb]
 obtain ⟨e, a', w', hq, s⟩ := h b [] cs hro hbf
 rw [← hstart] at s
 have out : ∀ (u : FrameMode) (todo : List Item), StepsIn (Machine.fenced P Fence.wide) P (lone (Frame.enter P f args .normal) cs w) (lone { b.atR a' todo with mode := u } cs w') → LeavesInM Fence.wide 0 P fn a'.tmps R a'.defers u w' →
  ∃ e w' fr, R e w' ∧ ComesIn (Machine.fenced P Fence.wide) P (lone (Frame.enter P f args .normal) cs w) (lone fr cs w') e ∧ fr.fn = f ∧ fr.leaving P w' e := fun u todo s hl => by
  obtain ⟨e', w'', fr', hR, hs, hfn, hl'⟩ := leaves_stepsInM a'.defers u w' { b.atR a' todo with mode := u } cs rfl rfl rfl (by show P.funcs[b.fn]? = _; rw [hbf]; exact hf) hbk trivial hr hl
  exact ⟨e', w'', fr', hR, ComesIn.of_steps s hs, hfn.trans hbf, hl'⟩
 cases e with
 | normal => exact out .returning [] (StepsIn.trans s (.one (fenced_wide P _) (stepR_end hro))) hq
 | ret =>
  obtain ⟨todo, s2⟩ := s.1 hro
  exact out .returning todo s2 hq
 | panic ch =>
  obtain ⟨todo, s2⟩ := s
  exact out (.panicking ch) todo s2 hq
 | exit id => exact hq.elim
 | goto l => exact hq.elim
 | outgrown => exact ⟨.outgrown, w', b, hq, s.resolve_left (by rw [hbk]; simp), hbf, trivial⟩
section
variable {fn : Func} {tmps : Array Value} {R : Ending → World → Prop} {D p q : Nat} {w : World} {x0 x1 y : Value}
abbrev markD (D : Nat) : Deferred := { target := .collected D, args := #[] }
abbrev catchD (p q : Nat) : Deferred := { target := .fn (.func 80) #[.pointer (some ⟨p, 0, none⟩), .pointer (some ⟨q, 0, none⟩)], args := #[] }
theorem leaves_caught (hd : w.heap[D]? = some (.deferred (some []))) (hp : Blk w p 25 #[x0, x1]) (hq : Blk w q 26 #[y]) (hpq : p ≠ q) (hDp : p ≠ D) (hDq : q ≠ D)
 (h : ∀ w', Blk w' p 25 #[.slice none 0 0, .slice none 0 0] → Blk w' q 26 #[.int .i64 6] → Keep (fun k => k = p ∨ k = q ∨ k = D) w w' → ∃ v, (results fn tmps).run Tryz.prog w' = .ok v w' ∧ R (.returned v) w') :
 LeavesInM Fence.wide 0 Tryz.prog fn tmps R [markD D, catchD p q] (.panicking BAD) w := by
 have hk : Keep (fun k => k = D) w (w.putObj D (.deferred none)) := Keep.putObj _ _ _ rfl
 refine ⟨by simp, .inl ⟨D, _, rfl, run_takeDeferred hd, ?_⟩⟩
 refine ⟨by simp, .inr ⟨fun h => by simp [Fence.wide] at h, _, _, 80, #[.pointer (some ⟨p, 0, none⟩), .pointer (some ⟨q, 0, none⟩)], rfl, by simp [go_sem], fun _ _ => trivial, ?_⟩⟩
 refine CallsDIn.mono (catch_bad (hp.keep hk hDp) (hq.keep hk hDq) hpq) ?_
 rintro e u' w' ⟨rfl, rfl, b1, b2, hk2⟩
 exact h w' b1 b2 ((hk.mono (fun k _ h => .inr (.inr h))).trans (hk2.mono (fun k _ h => h.elim .inl (fun h => .inr (.inl h)))))
theorem leaves_fine (hd : w.heap[D]? = some (.deferred (some [])))
 (h : ∀ w', Keep (fun k => k = D) w w' → ∃ v, (results fn tmps).run Tryz.prog w' = .ok v w' ∧ R (.returned v) w') :
 LeavesInM Fence.wide 0 Tryz.prog fn tmps R [markD D, catchD p q] .returning w := by
 have hk : Keep (fun k => k = D) w (w.putObj D (.deferred none)) := Keep.putObj _ _ _ rfl
 refine ⟨by simp, .inl ⟨D, _, rfl, run_takeDeferred hd, ?_⟩⟩
 refine ⟨by simp, .inr ⟨fun h => by simp [Fence.wide] at h, _, _, 80, #[.pointer (some ⟨p, 0, none⟩), .pointer (some ⟨q, 0, none⟩)], rfl, by simp [go_sem], fun _ _ => trivial, ?_⟩⟩
 refine CallsDIn.mono catch_none ?_
 rintro e u' w' ⟨rfl, rfl, rfl⟩
 exact h _ hk
end
/-- What Read answers. -/
def readR (s : List UInt8) : Book × Int := if 500 < s.length then (⟨[], []⟩, 3) else match readV s with | some b => (b, 0) | none => (⟨[], []⟩, 6)
def ReadE (s : List UInt8) (w : World) (e : Ending) (w' : World) : Prop :=
 Below w.heap.size w w' ∧ ∃ a, e = .returned (.tuple #[bookVal (readR s).1 a, .int .i64 (readR s).2]) ∧ BookV w' w'.heap.size (readR s).1 a
theorem book_nil (w : World) : BookV w w.heap.size ⟨[], []⟩ ⟨none, none, 0, 0⟩ := ⟨Row.nil_, Row.nil_, fun j hj => by simp at hj, by simp, by simp⟩
theorem RdI.keep {W W' : World} {rb mb : Nat} {b : Book} {a : BA} {S : Nat → Prop} (h : RdI W rb mb b a) (hk : Keep S W W') (h1 : ¬ S rb) (h2 : ¬ S mb) (h3 : ∀ g o p, a.A1 = some ⟨g, o, p⟩ → ¬ S g) (h4 : ∀ g o p, a.A2 = some ⟨g, o, p⟩ → ¬ S g) : RdI W' rb mb b a :=
 ⟨⟨h.v.steps.stab hk.size (fun g o hg e _ => hk.block g hg (h3 g o none e)), h.v.tallies.stab hk.size (fun g o hg e _ => hk.block g hg (h4 g o none e)), h.v.small, h.v.m1, h.v.m2⟩,
  h.k.keep hk h1, h.m.block (hk.block _ h.m.lt h2), h.ne1, h.ne2, h.n1, h.n2, h.d⟩
theorem lines_len : ∀ (s : List UInt8), ∀ x ∈ linesL s, x.length ≤ s.length
 | [], x, h => by simp [linesL] at h
 | c :: l, x, h => by
  rw [linesL] at h
  split at h
  · rcases List.mem_cons.1 h with rfl | h
    · simp
    · have := lines_len l x h; simp; omega
  · split at h
    · simp at h; subst h; simp
    · rename_i y ys e
      have hy := lines_len l y (by rw [e]; simp)
      rcases List.mem_cons.1 h with rfl | h
      · simp; omega
      · have := lines_len l x (by rw [e]; exact List.mem_cons_of_mem _ h); simp; omega
theorem parse_snoc {L : List (List ByteArray)} {ws : List ByteArray} {b : Book} (h : parseP ⟨[], []⟩ L = some b) : parseP ⟨[], []⟩ (L ++ [ws]) = lineP b ws := by
 rw [parseP_app L [ws] _ _ h, parseP]
 cases lineP b ws <;> rfl
theorem parse_none (L' : List (List ByteArray)) : ∀ (L : List (List ByteArray)) (b : Book), parseP b L = none → parseP b (L ++ L') = none
 | [], b, h => by simp [parseP] at h
 | ws :: L, b, h => by
  rw [List.cons_append]
  simp only [parseP] at h ⊢
  cases hl : lineP b ws with
  | none => rfl
  | some c => rw [hl] at h; exact parse_none L' L c h
theorem lineP_len {b : Book} {ws : List ByteArray} (h : ws.length ≠ 4) : lineP b ws = none := by
 match ws, h with
 | [], _ => rfl
 | [_], _ => rfl
 | [_, _], _ => rfl
 | [_, _, _], _ => rfl
 | [_, _, _, _], h => exact absurd rfl h
 | _ :: _ :: _ :: _ :: _ :: _, _ => rfl
theorem four {ws : List ByteArray} (h : ws.length = 4) : ∃ w0 w1 w2 w3, ws = [w0, w1, w2, w3] := by
 match ws, h with
 | [w0, w1, w2, w3], _ => exact ⟨w0, w1, w2, w3, rfl⟩
theorem split_len (c : UInt8) : ∀ (n : Nat) (s : List UInt8), s.length ≤ n → (splitL c s).length = Lib.count s [c] + 1 := by
 intro n
 induction n with
 | zero =>
  intro s hs
  have : s = [] := List.length_eq_zero_iff.1 (by omega)
  subst this
  rfl
 | succ n ih =>
  intro s hs
  rcases Lib.index_spec s [c] with ⟨h1, h2⟩ | ⟨i, h1, h2, h3, h4⟩
  · rw [← split_one c _ s (Nat.le_refl _), Lib.split, Lib.count_miss h1, Lib.splitK]; rfl
  · rw [occ_one] at h3
    have hi : s[i]? = some c := by simpa using h3
    have hl := (List.getElem?_eq_some_iff.1 hi).1
    have he := (List.getElem?_eq_some_iff.1 hi).2
    have hcut : s = s.take i ++ c :: s.drop (i + 1) := by
     conv => lhs; rw [← List.take_append_drop i s, List.drop_eq_getElem_cons hl, he]
    have hno : c ∉ s.take i := fun hm => by
     obtain ⟨j, hj, h5⟩ := mem_take hm
     have := h4 j hj
     rw [occ_one] at this
     simp [h5] at this
    rw [Lib.count_hit (by simp) h1]
    conv => lhs; rw [hcut, splitL_cut hno]
    rw [List.length_cons, ih _ (by rw [List.length_drop]; omega)]
    simp only [List.length_singleton]
    omega
/-- The words that Split makes of a line. -/
theorem words_split (l : List UInt8) : Lib.splitB ⟨#[32]⟩ 0 (Lib.countB ⟨l.toArray⟩ ⟨#[32]⟩) ⟨l.toArray⟩ = (splitL 32 l).map (fun x => ⟨x.toArray⟩) ∧ Lib.countB ⟨l.toArray⟩ ⟨#[32]⟩ + 1 = (splitL 32 l).length := by
 constructor
 · have h := Lib.splitB_data ⟨#[32]⟩ 0 (Lib.countB ⟨l.toArray⟩ ⟨#[32]⟩) ⟨l.toArray⟩
   have h2 : Lib.splitK [32] 0 (Lib.count l [32]) l = splitL 32 l := split_one 32 _ l (Nat.le_refl _)
   have h3 := h.trans h2
   rw [← h3, List.map_map]
   conv => lhs; rw [← List.map_id (Lib.splitB _ _ _ _)]
   exact List.map_congr_left fun x _ => rfl
 · exact (split_len 32 _ l (Nat.le_refl _)).symm
theorem trim_len (x p : List UInt8) : (Lib.trimSuffix x p).length ≤ x.length := by
 unfold Lib.trimSuffix
 split
 · rw [List.length_take]; omega
 · exact Nat.le_refl _
theorem splitL_len (c : UInt8) : ∀ (l : List UInt8), ∀ w ∈ splitL c l, w.length ≤ l.length
 | [], w, h => by simp [splitL] at h; subst h; simp
 | x :: l, w, h => by
  rw [splitL] at h
  split at h
  · rcases List.mem_cons.1 h with rfl | h
    · simp
    · have := splitL_len c l w h; simp; omega
  · split at h
    · simp at h; subst h; simp
    · rename_i y ys e
      have hy := splitL_len c l y (by rw [e]; simp)
      rcases List.mem_cons.1 h with rfl | h
      · simp; omega
      · have := splitL_len c l w (by rw [e]; exact List.mem_cons_of_mem _ h); simp; omega
theorem words_len {x : List UInt8} (h : x.length ≤ 500) : ∀ w ∈ wordsB x, w.size ≤ 500 := fun w hw => by
 obtain ⟨l, hl, rfl⟩ := List.mem_map.1 hw
 have h1 := splitL_len 32 _ l hl
 have h2 := trim_len x [10]
 show l.toArray.size ≤ 500
 rw [List.size_toArray]; omega
theorem lines_count : ∀ s : List UInt8, (linesL s).length ≤ s.length
 | [] => by simp [linesL]
 | c :: l => by
  rw [linesL]
  have := lines_count l
  split
  · simp; omega
  · split
    · simp
    · rename_i y ys e; rw [e] at this; simp at this ⊢; omega
theorem stepP_len {b c : Book} {w1 w2 w3 : ByteArray} {pre : List (List UInt8)} {x : List UInt8} (h : stepP b w1 w2 w3 = some c) (hl : b.steps.length ≤ pre.length ∧ b.tallies.length ≤ pre.length) : c.steps.length ≤ (pre ++ [x]).length ∧ c.tallies.length ≤ (pre ++ [x]).length := by
 unfold stepP at h
 rw [List.length_append, List.length_singleton]
 split at h
 · simp at h
 · split at h
   · obtain rfl := Option.some.inj h; simp; omega
   · split at h
     · simp at h
     · obtain rfl := Option.some.inj h; simp; omega
theorem tallyP_len {b c : Book} {w1 w2 w3 : ByteArray} {pre : List (List UInt8)} {x : List UInt8} (h : tallyP b w1 w2 w3 = some c) (hl : b.steps.length ≤ pre.length ∧ b.tallies.length ≤ pre.length) : c.steps.length ≤ (pre ++ [x]).length ∧ c.tallies.length ≤ (pre ++ [x]).length := by
 unfold tallyP at h
 rw [List.length_append, List.length_singleton]
 split at h
 · simp at h
 · split at h
   · simp at h
   · split at h
     · simp at h
     · obtain rfl := Option.some.inj h; simp; omega
/-- What is so ahead of a line, when those of pre have been read (L: where the loop's own blocks lie). -/
def ReadI (L rb mb pr : Nat) (m : Int) (pre : List (List UInt8)) (W : World) : Prop :=
 ∃ b a, parseP ⟨[], []⟩ (pre.map wordsB) = some b ∧ RdI W rb mb b a ∧ Blk W pr 110 #[.pointer (some ⟨rb, 0, none⟩)] ∧ (b.steps.length ≤ pre.length ∧ b.tallies.length ≤ pre.length) ∧
  (∀ g o p, a.A1 = some ⟨g, o, p⟩ → L + 2 ≤ g) ∧ (∀ g o p, a.A2 = some ⟨g, o, p⟩ → L + 2 ≤ g) ∧ W.cell? ⟨0, 0, none⟩ = some (.int .i64 m)
theorem readR_none {s : List UInt8} (h5 : ¬ 500 < s.length) (h : readV s = none) : readR s = (⟨[], []⟩, 6) := by rw [readR, if_neg h5, h]
theorem caught_end {s : List UInt8} {w w' : World} {tmps : Array Value} (b1 : Blk w' w.heap.size 25 #[.slice none 0 0, .slice none 0 0]) (b2 : Blk w' (w.heap.size + 1) 26 #[.int .i64 6]) (h : readR s = (⟨[], []⟩, 6)) (hb : Below w.heap.size w w')
 (t2 : tmps.getD 2 undef = .pointer (some ⟨w.heap.size, 0, none⟩) := by rfl) (t3 : tmps.getD 3 undef = .pointer (some ⟨w.heap.size + 1, 0, none⟩) := by rfl) :
 ∃ v, (results Tryz.f35 tmps).run Tryz.prog w' = .ok v w' ∧ ReadE s w (.returned v) w' := by
 have c0 := b1.at_ 0
 have c1 := b1.at_ 1
 have d0 := b2.at_ 0
 simp only [List.getElem?_toArray, List.getElem?_cons_zero, List.getElem?_cons_succ] at c0 c1 d0
 have t2' : tmps[2]?.getD undef = .pointer (some ⟨w.heap.size, 0, none⟩) := by rw [← Array.getD_eq_getD_getElem?]; exact t2
 have t3' : tmps[3]?.getD undef = .pointer (some ⟨w.heap.size + 1, 0, none⟩) := by rw [← Array.getD_eq_getD_getElem?]; exact t3
 refine ⟨_, by simp [results, Tryz.results35, go_sem, t2', t3', c0, c1, d0]; rfl, hb, ⟨none, none, 0, 0⟩, by rw [h]; rfl, by rw [h]; exact book_nil _⟩
set_option maxHeartbeats 4000000 in
set_option maxRecDepth 100000 in
theorem read_any {s : List UInt8} {m : Int} {w : World} (hm : w.cell? ⟨0, 0, none⟩ = some (.int .i64 m)) (hw0 : 0 < w.heap.size) :
 Calls Tryz.prog 35 #[.string ⟨s.toArray⟩] w fun e w' => ReadE s w e w' := by
 refine calls_of_wpF Tryz.func35 rfl ?_
 simp only [Tryz.ntmps35, List.size_toArray, List.length_cons, List.length_nil, Nat.reduceAdd, Nat.reduceSub, Array.replicate_succ, Array.replicate_zero, List.push_toArray, List.append_toArray, List.nil_append, List.cons_append]
 have HP := hide (show Blk ((w.alloc (.cells #[.slice none 0 0, .slice none 0 0] 25)).alloc (.cells #[.int .i64 0] 26)) w.heap.size 25 #[.slice none 0 0, .slice none 0 0] from Blk.next Blk.made ((Below.refl _ _).alloc (Nat.le_refl _) _))
 have HQ := hide (show Blk ((w.alloc (.cells #[.slice none 0 0, .slice none 0 0] 25)).alloc (.cells #[.int .i64 0] 26)) (w.heap.size + 1) 26 #[.int .i64 0] from by
  rw [show w.heap.size + 1 = (w.alloc (.cells #[.slice none 0 0, .slice none 0 0] 25)).heap.size by simp]; exact Blk.made)
 have HB := hide (show Below w.heap.size w ((w.alloc (.cells #[.slice none 0 0, .slice none 0 0] 25)).alloc (.cells #[.int .i64 0] 26)) from ((Below.refl _ _).alloc (Nat.le_refl _) _).alloc (by simp) _)
 refine wpF_seq (wpF_of ?_)
 go_wp2_with fail
 have hzp : w.heap.size + 1 < ((w.alloc (.cells #[.slice none 0 0, .slice none 0 0] 25)).alloc (.cells #[.int .i64 0] 26)).heap.size := by simp
 generalize ((w.alloc (.cells #[.slice none 0 0, .slice none 0 0] 25)).alloc (.cells #[.int .i64 0] 26)) = v0 at *
 refine wpF_scope ?_
 by_cases h5 : 500 < s.length
 · have h5' : (500 : Int) < (s.length : Int) := by omega
   have HRR := hide (show readR s = (⟨[], []⟩, 3) from if_pos h5)
   have p0 := HP.out.at_ 0
   have p1 := HP.out.at_ 1
   have q0 := HQ.out.at_ 0
   have fp0 := HP.out.free 0
   have fp1 := HP.out.free 1
   have fq0 := HQ.out.free 0
   simp only [List.getElem?_toArray, List.getElem?_cons_zero, List.getElem?_cons_succ] at p0 p1 q0
   refine wpF_seq (wpF_of ?_)
   go_wp2_with fail
   have hb3 : Below w.heap.size v0 (((v0.setCell ⟨w.heap.size, 0, none⟩ (.slice none 0 0)).setCell ⟨w.heap.size, 1, none⟩ (.slice none 0 0)).setCell ⟨w.heap.size + 1, 0, none⟩ (.int .i64 3)) := (((Below.refl _ _).setCell (p := ⟨w.heap.size, 0, none⟩) (Nat.le_refl _) _).setCell (p := ⟨w.heap.size, 1, none⟩) (Nat.le_refl _) _).setCell (p := ⟨w.heap.size + 1, 0, none⟩) (by show w.heap.size ≤ w.heap.size + 1; omega) _
   have hkq : ∀ (v : World) (o : Nat) (x : Value), Keep (fun k => k = w.heap.size) v (v.setCell ⟨w.heap.size, o, none⟩ x) := fun v o x => Keep.setCell _ _ _ _ rfl
   have hkp : ∀ (v : World) (x : Value), Keep (fun k => k = w.heap.size + 1) v (v.setCell ⟨w.heap.size + 1, 0, none⟩ x) := fun v x => Keep.setCell _ _ _ _ rfl
   have b1 := ((HP.out.store 0 (.slice none 0 0)).store 1 (.slice none 0 0)).keep (hkp _ (.int .i64 3)) (by omega)
   have b2 := ((HQ.out.keep (hkq _ 0 (.slice none 0 0)) (by omega)).keep (hkq _ 1 (.slice none 0 0)) (by omega)).store 0 (.int .i64 3)
   generalize (((v0.setCell ⟨w.heap.size, 0, none⟩ (.slice none 0 0)).setCell ⟨w.heap.size, 1, none⟩ (.slice none 0 0)).setCell ⟨w.heap.size + 1, 0, none⟩ (.int .i64 3)) = X at *
   have c0 := b1.at_ 0
   have c1 := b1.at_ 1
   have d0 := b2.at_ 0
   have c0' : X.cell? ⟨w.heap.size, 0, none⟩ = some (.slice none 0 0) := c0
   have c1' : X.cell? ⟨w.heap.size, 1, none⟩ = some (.slice none 0 0) := c1
   have d0' : X.cell? ⟨w.heap.size + 1, 0, none⟩ = some (.int .i64 3) := d0
   refine ⟨_, by simp [results, Tryz.results35, go_sem, c0', c1', d0']; rfl, HB.out.trans hb3, ⟨none, none, 0, 0⟩, by rw [HRR.out]; rfl, by rw [HRR.out]; exact book_nil _⟩
 · have h5' : ¬ (500 : Int) < (s.length : Int) := by omega
   have hmm := @run_makeMap Tryz.prog
   refine wpF_seq (wpF_of ?_)
   go_wp2_with fail
   refine wpF_seq (wpF_of ?_)
   go_wp2_with fail
   refine wpF_seq (wpF_of ?_)
   go_wp2_with fail
   have e1 : v0.heap.size + 1 = (v0.alloc (.map #[] 0)).heap.size := by simp
   have e2 : v0.heap.size + 1 + 1 = ((v0.alloc (.map #[] 0)).alloc (.cells #[.slice none 0 0, .slice none 0 0, .map (some v0.heap.size)] 113)).heap.size := by simp
   have hba : Below v0.heap.size v0 (((v0.alloc (.map #[] 0)).alloc (.cells #[.slice none 0 0, .slice none 0 0, .map (some v0.heap.size)] 113)).alloc (.cells #[.pointer (some ⟨v0.heap.size + 1, 0, none⟩)] 110)) := (((Below.refl _ _).alloc (Nat.le_refl _) _).alloc (by simp) _).alloc (by simp; omega) _
   have hR3 : Blk (((v0.alloc (.map #[] 0)).alloc (.cells #[.slice none 0 0, .slice none 0 0, .map (some v0.heap.size)] 113)).alloc (.cells #[.pointer (some ⟨v0.heap.size + 1, 0, none⟩)] 110)) (v0.heap.size + 1) 113 #[.slice none 0 0, .slice none 0 0, .map (some v0.heap.size)] := by
    refine Blk.next ?_ ((Below.refl _ _).alloc (Nat.le_refl _) _)
    rw [e1]; exact Blk.made
   have hP3 : Blk (((v0.alloc (.map #[] 0)).alloc (.cells #[.slice none 0 0, .slice none 0 0, .map (some v0.heap.size)] 113)).alloc (.cells #[.pointer (some ⟨v0.heap.size + 1, 0, none⟩)] 110)) (v0.heap.size + 1 + 1) 110 #[.pointer (some ⟨v0.heap.size + 1, 0, none⟩)] := by
    rw [e2]; exact Blk.made
   have hM3 : StrMap (((v0.alloc (.map #[] 0)).alloc (.cells #[.slice none 0 0, .slice none 0 0, .map (some v0.heap.size)] 113)).alloc (.cells #[.pointer (some ⟨v0.heap.size + 1, 0, none⟩)] 110)) v0.heap.size (ixOf []) := by
    have hx : Below (v0.alloc (.map #[] 0)).heap.size (v0.alloc (.map #[] 0)) (((v0.alloc (.map #[] 0)).alloc (.cells #[.slice none 0 0, .slice none 0 0, .map (some v0.heap.size)] 113)).alloc (.cells #[.pointer (some ⟨v0.heap.size + 1, 0, none⟩)] 110)) := ((Below.refl _ _).alloc (Nat.le_refl _) _).alloc (by simp) _
    exact ((strMap_made v0).block (hx.block _ (strMap_made v0).lt)).ext (fun k => rfl)
   generalize (((v0.alloc (.map #[] 0)).alloc (.cells #[.slice none 0 0, .slice none 0 0, .map (some v0.heap.size)] 113)).alloc (.cells #[.pointer (some ⟨v0.heap.size + 1, 0, none⟩)] 110)) = v1 at *
   have hz1 := hP3.lt
   have HB1 := hide (HB.out.trans (hba.mono HB.out.size))
   have HP1 := hide (HP.out.next hba)
   have HQ1 := hide (HQ.out.next hba)
   clear e1 e2 HP HQ HB hba
   generalize v0.heap.size = mb at *
   generalize hrb : mb + 1 = rb at *
   generalize hpr : rb + 1 = pr at *
   have HR1 := hide (show RdI v1 rb mb ⟨[], []⟩ ⟨none, none, 0, 0⟩ from ⟨book_nil _, hR3, hM3, (fun g o p e => by cases e), (fun g o p e => by cases e), .inl ⟨rfl, rfl⟩, .inl ⟨rfl, rfl⟩, by omega⟩)
   have HW1 := hide hP3
   have hmr : mb < rb := by omega
   have hrp : rb < pr := by omega
   clear hR3 hM3 hP3 hrb hpr v0 hmm
   refine wpF_seq (wpF_of ((wpIn_wide (n := 0)).1 (wpIn_label ?_)))
   refine wpF_seq (wpF_seq (wpF_of ?_))
   go_wp2_with fail
   refine (lines_any _ _).mono ?_
   rintro e w1 ⟨rfl, rfl⟩
   have hbs : Below v1.heap.size v1 (v1.alloc (.cells #[.string ⟨s.toArray⟩] 9)) := (Below.refl _ _).alloc (Nat.le_refl _) _
   have HB2 := hide (HB1.out.trans (hbs.mono HB1.out.size))
   have HP2 := hide (HP1.out.next hbs)
   have HQ2 := hide (HQ1.out.next hbs)
   have HR2 := hide (HR1.out.next hbs)
   have HW2 := hide (HW1.out.next hbs)
   have HS2 := hide (show Blk (v1.alloc (.cells #[.string ⟨s.toArray⟩] 9)) v1.heap.size 9 #[.string ⟨s.toArray⟩] from Blk.made)
   have hz2 : v1.heap.size < (v1.alloc (.cells #[.string ⟨s.toArray⟩] 9)).heap.size := by simp
   go_wp2_with fail
   clear HB1 HP1 HQ1 HR1 HW1 hbs
   generalize (v1.alloc (.cells #[.string ⟨s.toArray⟩] 9)) = v2 at *
   generalize v1.heap.size = sb at *
   refine wpF_block (wpF_range (T := linesL s) (enc := lineVal) (gf := 115) (lb := #[.pointer (some ⟨sb, 0, none⟩)]) (Sb := fun k => k = sb) (C := fun k => k = rb ∨ k = mb) (chn := BAD) ⟨_, Tryz.func35⟩ rfl (fun args w => by simp [go_sem]) rfl (lines_iter HS2.out (by omega)) (fun k hk => ⟨by omega, by omega⟩) (fun k hk => by omega)
    (fun pre W => ReadI v2.heap.size rb mb pr m pre W) (fun pre => parseP ⟨[], []⟩ (pre.map wordsB) = none) ?stay ?start ?body ?done ?pan)
   case stay =>
    rintro pre V V' ⟨b, a, h1, h2, h3, h4, h6, h7, h8⟩ hk
    refine ⟨b, a, h1, h2.keep hk (by omega) (by omega) (fun g o p e => by have := h6 g o p e; omega) (fun g o p e => by have := h7 g o p e; omega), h3.keep hk (by omega), h4, h6, h7, (hk.cell (by have := h3.lt; omega) (by omega)).trans h8⟩
   case start => exact ⟨⟨[], []⟩, ⟨none, none, 0, 0⟩, rfl, HR2.out, HW2.out, ⟨by simp, by simp⟩, (fun g o p e => by cases e), (fun g o p e => by cases e), (HB2.out.cell (p := ⟨0, 0, none⟩) hw0).trans hm⟩
   case body =>
    rintro l pre x W1 hlz hpx ⟨b, a, hpb, hr, hpr, hlen, ha1, ha2, hg⟩ hl
    have hx5 : x.length ≤ 500 := by have := lines_len s x (hpx.subset (by simp)); omega
    have HPB := hide hpb
    have HRX := hide hr
    have HPX := hide hpr
    have HGX := hide hg
    have HA1 := hide ha1
    have HA2 := hide ha2
    have HHL := hide hlen
    have HXP := hide hpx
    clear hpb hr hpr hg ha1 ha2 hlen hpx HS2 HW2 HR2 HP2 HQ2 HB2 hm
    gi_wp2
    refine ⟨Keep.refl _ _, fun W3 hk3 => ?_⟩
    have HR3 := hide (HRX.out.keep hk3 (by omega) (by omega) (fun g o p e => by have := HA1.out g o p e; omega) (fun g o p e => by have := HA2.out g o p e; omega))
    have HP3 := hide (HPX.out.keep hk3 (by omega))
    have HG3 := hide ((hk3.cell (b := 0) (o := 0) (by have := HPX.out.lt; omega) (by omega)).trans HGX.out)
    have hz3 := hk3.size
    clear hk3 HRX HPX HGX
    have HWS := hide (words_split (Lib.trimSuffix x [10]))
    gi_wp2_with fail
    refine ⟨trivial, rfl, CallsIn.inRound _ (callsIn_wide.2 ((Tryz.strings_TrimSuffix ⟨x.toArray⟩ ⟨#[10]⟩ _ (by show x.toArray.size ≤ _; simp; omega)).mono ?_))⟩
    rintro e w4 ⟨rfl, rfl⟩
    gi_wp2_with fail
    refine ⟨trivial, rfl, CallsIn.inRound _ (callsIn_wide.2 ((Tryz.strings_Split ⟨(Lib.trimSuffix x [10]).toArray⟩ ⟨#[32]⟩ m _ (by have := trim_len x [10]; show (Lib.trimSuffix x [10]).toArray.size < _; rw [List.size_toArray]; omega) HG3.out (by decide)).mono ?_))⟩
    rintro e w5 ⟨rfl, rfl⟩
    rw [HWS.out.1, HWS.out.2, show (splitL 32 (Lib.trimSuffix x [10])).length = (wordsB x).length by simp [wordsB]]
    rw [show (splitL 32 (Lib.trimSuffix x [10])).map (fun x => (⟨x.toArray⟩ : ByteArray)) = wordsB x from rfl]
    have HWL := hide (words_len hx5)
    have HPS := hide (show ∀ o, lineP b (wordsB x) = o → parseP ⟨[], []⟩ ((pre ++ [x]).map wordsB) = o from fun o ho => by rw [List.map_append, List.map_cons, List.map_nil, parse_snoc HPB.out]; exact ho)
    have hba : Below w4.heap.size w4 (w4.alloc (.cells ((wordsB x).map Value.string).toArray 9)) := (Below.refl _ _).alloc (Nat.le_refl _) _
    have HB5 := hide hba
    have HBW := hide (show Blk (w4.alloc (.cells ((wordsB x).map Value.string).toArray 9)) w4.heap.size 9 ((wordsB x).map Value.string).toArray from Blk.made)
    clear hba HWS
    by_cases h4 : (wordsB x).length = 4
    · obtain ⟨k0, k1, k2, k3, hk⟩ := four h4
      rw [h4]
      have HWK := hide hk
      rw [hk] at HWL HPS HBW HB5 ⊢
      simp only [List.map_cons, List.map_nil] at HBW HB5 ⊢
      clear h4 hk
      have HSX := hide (show k1.size ≤ 500 ∧ k2.size ≤ 500 ∧ k3.size ≤ 500 from ⟨HWL.out k1 (by simp), HWL.out k2 (by simp), HWL.out k3 (by simp)⟩)
      clear HWL
      generalize (w4.alloc (.cells #[.string k0, .string k1, .string k2, .string k3] 9)) = w5 at *
      have HR5 := hide (HR3.out.next HB5.out)
      have HP5 := hide (HP3.out.next HB5.out)
      have HG5 := hide ((HB5.out.cell (p := ⟨0, 0, none⟩) (by show 0 < _; have := HP3.out.lt; omega)).trans HG3.out)
      have hz5 := HBW.out.lt
      have p0 := HP5.out.at_ 0
      simp only [List.getElem?_toArray, List.getElem?_cons_zero] at p0
      gi_wp2_with fail
      refine ⟨trivial, rfl, CallsIn.inRound _ (callsIn_wide.2 ((need_true _).mono ?_))⟩
      rintro e w6 ⟨rfl, rfl⟩
      gi_wp2_with fail
      refine ⟨trivial, rfl, CallsIn.inRound _ (callsIn_wide.2 ((rows_any rb _).mono ?_))⟩
      rintro e w7 ⟨gk, zr, zn, rfl, hka, hb7⟩
      have HR7 := hide (HR5.out.next hb7)
      have HP7 := hide (HP5.out.next hb7)
      have HG7 := hide ((hb7.cell (p := ⟨0, 0, none⟩) (by show 0 < _; have := HP5.out.lt; omega)).trans HG5.out)
      have HW7 := hide (HBW.out.next hb7)
      have HK7 := hide hka
      have HB7 := hide (HB5.out.trans (hb7.mono HB5.out.size))
      have hz7 := HW7.out.lt
      have hqr : w4.heap.size ≠ rb ∧ w4.heap.size ≠ mb := by have := HR3.out.k.lt; have := HR3.out.m.lt; omega
      have hd7 := hka.d
      have hzr : zr ≠ rb ∧ zr ≠ mb := by have := HR5.out.k.lt; have := HR5.out.m.lt; omega
      have HKQ := hide (Keep.of_below' HB7.out (fun k => k = rb ∨ k = mb))
      clear HB7
      generalize w4.heap.size = q at *
      clear hka hb7 p0 HR5 HP5 HG5 HBW HB5 HR3 HP3 HG3
      gi_wp2_with fail
      gi_loopw [8, 30, 31, 32, 33, 34, 35, 36, 37, 38, 39, 40, 41, 42, 43, 44] (fun _ i _ _ _ _ _ _ _ _ _ _ _ _ _ _ wr => ∃ j : Nat, j ≤ 2 ∧ i = .int .i64 (j : Nat) ∧ Hid (Below w7.heap.size w7 wr) ∧ Hid (1 ≤ j → k0 ≠ wStep) ∧ Hid (2 ≤ j → k0 ≠ wTally)) (fun _ i _ _ _ _ _ _ _ _ _ _ _ _ _ _ _ => 2 - (intOf i).toNat)
      case atStart => exact ⟨0, Nat.zero_le _, rfl, hide (Below.refl _ _), hide (fun h => by omega), hide (fun h => by omega)⟩
      case round =>
       obtain ⟨j, hj, rfl, HBR, HN1, HN2⟩ := hrel
       have HRR := hide (HR7.out.next HBR.out)
       have HWR := hide (HW7.out.next HBR.out)
       have HKR := hide (HK7.out.k.next HBR.out)
       have c0 := HWR.out.at_ 0
       have g0 := HKR.out.at_ 0
       have g1 := HKR.out.at_ 1
       have g2 := HKR.out.at_ 2
       have g3 := HKR.out.at_ 3
       simp only [List.getElem?_toArray, List.getElem?_cons_zero, List.getElem?_cons_succ] at c0 g0 g1 g2 g3
       have hzk := HKR.out.lt
       have hzq := HWR.out.lt
       rcases (show j = 0 ∨ j = 1 ∨ j = 2 by omega) with rfl | rfl | rfl
       · have hba : Below wr.heap.size wr (wr.alloc (.cells #[.string ⟨#[115, 116, 101, 112]⟩, .func (.func 120) #[] #[.pointer (some ⟨zn, 0, none⟩), .pointer (some ⟨zr, 0, none⟩)]] 124)) := (Below.refl _ _).alloc (Nat.le_refl _) _
         have HZX := hide (show Blk (wr.alloc (.cells #[.string ⟨#[115, 116, 101, 112]⟩, .func (.func 120) #[] #[.pointer (some ⟨zn, 0, none⟩), .pointer (some ⟨zr, 0, none⟩)]] 124)) wr.heap.size 124 #[.string ⟨#[115, 116, 101, 112]⟩, .func (.func 120) #[] #[.pointer (some ⟨zn, 0, none⟩), .pointer (some ⟨zr, 0, none⟩)]] from Blk.made)
         have HB8 := hide (HBR.out.trans (hba.mono HBR.out.size))
         have c8 := (hba.cell (p := ⟨q, 0, none⟩) hzq).trans c0
         gi_wp2_with fail
         generalize (wr.alloc (.cells #[.string ⟨#[115, 116, 101, 112]⟩, .func (.func 120) #[] #[.pointer (some ⟨zn, 0, none⟩), .pointer (some ⟨zr, 0, none⟩)]] 124)) = V8 at *
         generalize wr.heap.size = zx at *
         have x0 := HZX.out.at_ 0
         have x1 := HZX.out.at_ 1
         simp only [List.getElem?_toArray, List.getElem?_cons_zero, List.getElem?_cons_succ] at x0 x1
         have hzx := HZX.out.lt
         have hzq8 : q < V8.heap.size := by have := HB8.out.size; omega
         clear hba c0 g0 g1 g2 g3 hzk hzq HKR HWR HRR HBR
         by_cases hkw : k0 = wStep
         · have HKW := hide hkw
           have hdl : ([115, 116, 101, 112] == k0.toList) = true := by rw [hkw, Lib.toList_data]; rfl
           clear hkw
           refine wpIn_round_rel4 (dst := fun oi => [34, 35, 36, 37, 38, 39].getD oi 0) (mono := fun oi => decide (oi < 6)) (pre := fun oi => decide (oi < 6)) (R := LKeep (fun _ => False) (fun _ => True))
            (Pv := fun oi v W => match oi with
             | 0 => v = .pointer (some ⟨zx, 0, none⟩)
             | 1 => v = .string ⟨#[115, 116, 101, 112]⟩
             | 2 => v = .slice (some ⟨q, 0, none⟩) 4 4
             | 3 => v = .pointer (some ⟨q, 0, none⟩)
             | 4 => v = .string k0
             | 5 => v = .bool ([115, 116, 101, 112] == k0.toList)
             | _ => True) (by kernel_rfl) (by kernel_rfl) (by rintro ⟨_, _, h⟩; exact h) (by kernel_rfl) (LKeep.refl _ _) (fun _ _ _ h h' => h.trans h') ?hstk0 ?hstepk0 ?hendk0
           case hstk0 =>
            intro oi v W W' h hk
            match oi, h with
            | 0, h => exact h
            | 1, h => exact h
            | 2, h => exact h
            | 3, h => exact h
            | 4, h => exact h
            | 5, h => exact h
            | oi + 6, h => exact trivial
           case hstepk0 =>
            intro oi hoi hom listed vs ao W hU hk0 hpv haft Ko hK
            have hkk := (LKeep.drew (fun _ => False) (M := fun _ => True) V8 (fun h => h)).trans hk0
            have hk := hkk.1
            have hkm := hkk.2
            clear hkk
            match oi, hoi, hom with
            | 0, hoi, hom =>
             have z8 : ao.tmps[8]?.getD undef = .pointer (some ⟨zx, 0, none⟩) := hU.same 8 (by decide)
             refine wpOp_value (v := .pointer (some ⟨zx, 0, none⟩)) (W' := W) rfl rfl ?_ (hK _ _ (LKeep.refl _ _ _) rfl)
             go_simp
            | 1, hoi, hom =>
             have l0 := haft _ rfl ⟨0, .data⟩ (by simp) rfl
             have s0 : ao.tmps[34]?.getD undef = .pointer (some ⟨zx, 0, none⟩) := (hU.slot 0 (by decide) l0).trans (hpv 0 l0)
             have y0 := (hk.cell (b := zx) (o := 0) (hzx) (fun h => h)).trans (x0)
             refine wpOp_value (v := .string ⟨#[115, 116, 101, 112]⟩) (W' := W) rfl rfl ?_ (hK _ _ (LKeep.refl _ _ _) rfl)
             go_simp
            | 2, hoi, hom =>
             have z6 : ao.tmps[6]?.getD undef = .slice (some ⟨q, 0, none⟩) 4 4 := hU.same 6 (by decide)
             refine wpOp_value (v := .slice (some ⟨q, 0, none⟩) 4 4) (W' := W) rfl rfl ?_ (hK _ _ (LKeep.refl _ _ _) rfl)
             go_simp
            | 3, hoi, hom =>
             have l2 := haft _ rfl ⟨2, .data⟩ (by simp) rfl
             have s2 : ao.tmps[36]?.getD undef = .slice (some ⟨q, 0, none⟩) 4 4 := (hU.slot 2 (by decide) l2).trans (hpv 2 l2)
             refine wpOp_value (v := .pointer (some ⟨q, 0, none⟩)) (W' := W) rfl rfl ?_ (hK _ _ (LKeep.refl _ _ _) rfl)
             go_simp
            | 4, hoi, hom =>
             have l3 := haft _ rfl ⟨3, .data⟩ (by simp) rfl
             have s3 : ao.tmps[37]?.getD undef = .pointer (some ⟨q, 0, none⟩) := (hU.slot 3 (by decide) l3).trans (hpv 3 l3)
             have y0 := (hk.cell (b := q) (o := 0) (hzq8) (fun h => h)).trans (c8)
             refine wpOp_value (v := .string k0) (W' := W) rfl rfl ?_ (hK _ _ (LKeep.refl _ _ _) rfl)
             go_simp
            | 5, hoi, hom =>
             have l1 := haft _ rfl ⟨1, .data⟩ (by simp) rfl
             have s1 : ao.tmps[35]?.getD undef = .string ⟨#[115, 116, 101, 112]⟩ := (hU.slot 1 (by decide) l1).trans (hpv 1 l1)
             have l4 := haft _ rfl ⟨4, .data⟩ (by simp) rfl
             have s4 : ao.tmps[38]?.getD undef = .string k0 := (hU.slot 4 (by decide) l4).trans (hpv 4 l4)
             refine wpOp_value (v := .bool ([115, 116, 101, 112] == k0.toList)) (W' := W) rfl rfl ?_ (hK _ _ (LKeep.refl _ _ _) rfl)
             go_simp
            | oi + 6, hoi, hom => exact absurd (of_decide_eq_true hom) (by omega)
           case hendk0 =>
            intro listed vs ao W hG hk0 hpv hpre
            have hkk := (LKeep.drew (fun _ => False) (M := fun _ => True) V8 (fun h => h)).trans hk0
            have hk := hkk.1
            have hkm := hkk.2
            clear hkk
            have hact := hG.act
            have hT := hG.lst hpre 0 #[true, true, true, true, true, true] rfl (by kernel_rfl) (hpre 0 (by decide) (by decide))
            rw [hG.ix hT (l := [0, 1, 2, 3, 4, 5]) (by kernel_rfl)] at hact
            rw [hG.lo hT (k := 0) (by kernel_rfl)]
            have hv0 : vs 0 = .pointer (some ⟨zx, 0, none⟩) := hpv 0 (hpre 0 (by decide) (by decide))
            have hv1 : vs 1 = .string ⟨#[115, 116, 101, 112]⟩ := hpv 1 (hpre 1 (by decide) (by decide))
            have hv2 : vs 2 = .slice (some ⟨q, 0, none⟩) 4 4 := hpv 2 (hpre 2 (by decide) (by decide))
            have hv3 : vs 3 = .pointer (some ⟨q, 0, none⟩) := hpv 3 (hpre 3 (by decide) (by decide))
            have hv4 : vs 4 = .string k0 := hpv 4 (hpre 4 (by decide) (by decide))
            have hv5 : vs 5 = .bool ([115, 116, 101, 112] == k0.toList) := hpv 5 (hpre 5 (by decide) (by decide))
            clear hpv hpre hG hk0
            obtain rfl : ao = _ := hact
            subst hT
            simp only [setAll, List.setIfInBounds_toArray, List.set_cons_succ, List.set_cons_zero, List.getD_cons_succ, List.getD_cons_zero]
            simp only [hv0, hv1, hv2, hv3, hv4, hv5]
            clear hv0 hv1 hv2 hv3 hv4 hv5
            refine wpAny_done (by kernel_rfl) ?_ _
            rw [hdl]
            have hb9 : Below w7.heap.size w7 W := HB8.out.trans (hk.below (B := w7.heap.size) (fun k h => h.elim) HB8.out.size)
            have HB9 := hide hb9
            have hz0 := HZX.out.keep hk (fun h => h)
            have x1 := hz0.at_ 1
            simp only [List.getElem?_toArray, List.getElem?_cons_zero, List.getElem?_cons_succ] at x1
            have HR9 := hide (HR7.out.next hb9)
            have HW9 := hide (show WordsAt W q 4 zr zn rb mb k0 k1 k2 k3 from ⟨HW7.out.next hb9, HK7.out.k1.next hb9, HK7.out.k2.next hb9, hzr, hqr, HSX.out⟩)
            have HP9 := hide (HP7.out.next hb9)
            have HG9 := hide ((hb9.cell (p := ⟨0, 0, none⟩) (by show 0 < _; omega)).trans HG7.out)
            have HLE := hide (show lineP b [k0, k1, k2, k3] = stepP b k1 k2 k3 by rw [lineP_eq, if_pos HKW.out])
            have HKC := hide (HKQ.out.trans (Keep.of_below' hb9 (fun k => k = rb ∨ k = mb)))
            have HBL := hide (show b.steps.length ≤ 1000 ∧ b.tallies.length ≤ 1000 by have h1 := HHL.out; have h2 := HXP.out.length_le; have h3 := lines_count s; rw [List.length_append, List.length_singleton] at h2; omega)
            clear hk hkm hb9 x0 hz0
            gi_wp2_with fail
            refine ⟨trivial, rfl, CallsIn.inRound _ (callsIn_wide.2 ((readStep_any (cq := 4) HR9.out HW9.out HBL.out.1 (Nat.le_refl _)).mono ?_))⟩
            rintro e w9 ⟨hkL, (⟨b', a', hs, rfl, hr9, hna⟩ | ⟨hs, rfl⟩)⟩
            · have HP10 := hide (HP9.out.keep hkL (by omega))
              have HG10 := hide ((hkL.cell (b := 0) (o := 0) (by have := HP9.out.lt; omega) (by omega)).trans HG9.out)
              have HKL := hide hkL
              have HS := hide hs
              have HR10 := hide hr9
              have HNA := hide hna
              clear hkL hs hr9 hna x1
              gi_wp2_with fail
              refine ⟨HKC.out.trans HKL.out, b', a', HPS.out _ (by rw [HLE.out, HS.out]), HR10.out, HP10.out, stepP_len HS.out HHL.out, ?_, ?_, HG10.out⟩
              · intro g o p e; rcases HNA.out.1 g o p e with h | h; exact HA1.out g o p h; have := HB9.out.size; omega
              · intro g o p e; rcases HNA.out.2 g o p e with h | h; exact HA2.out g o p h; have := HB9.out.size; omega
            · exact ⟨rfl, rfl, HKC.out.trans hkL, HPS.out _ (by rw [HLE.out, hs])⟩
         · have HKW := hide hkw
           have hdl : ([115, 116, 101, 112] == k0.toList) = false := by rw [beq_eq_false_iff_ne]; exact fun h => hkw (by rw [Lib.toList_data] at h; exact ByteArray.ext (Array.ext' h.symm))
           clear hkw
           refine wpIn_round_rel4 (dst := fun oi => [34, 35, 36, 37, 38, 39].getD oi 0) (mono := fun oi => decide (oi < 6)) (pre := fun oi => decide (oi < 6)) (R := LKeep (fun _ => False) (fun _ => True))
            (Pv := fun oi v W => match oi with
             | 0 => v = .pointer (some ⟨zx, 0, none⟩)
             | 1 => v = .string ⟨#[115, 116, 101, 112]⟩
             | 2 => v = .slice (some ⟨q, 0, none⟩) 4 4
             | 3 => v = .pointer (some ⟨q, 0, none⟩)
             | 4 => v = .string k0
             | 5 => v = .bool ([115, 116, 101, 112] == k0.toList)
             | _ => True) (by kernel_rfl) (by kernel_rfl) (by rintro ⟨_, _, h⟩; exact h) (by kernel_rfl) (LKeep.refl _ _) (fun _ _ _ h h' => h.trans h') ?hstm0 ?hstepm0 ?hendm0
           case hstm0 =>
            intro oi v W W' h hk
            match oi, h with
            | 0, h => exact h
            | 1, h => exact h
            | 2, h => exact h
            | 3, h => exact h
            | 4, h => exact h
            | 5, h => exact h
            | oi + 6, h => exact trivial
           case hstepm0 =>
            intro oi hoi hom listed vs ao W hU hk0 hpv haft Ko hK
            have hkk := (LKeep.drew (fun _ => False) (M := fun _ => True) V8 (fun h => h)).trans hk0
            have hk := hkk.1
            have hkm := hkk.2
            clear hkk
            match oi, hoi, hom with
            | 0, hoi, hom =>
             have z8 : ao.tmps[8]?.getD undef = .pointer (some ⟨zx, 0, none⟩) := hU.same 8 (by decide)
             refine wpOp_value (v := .pointer (some ⟨zx, 0, none⟩)) (W' := W) rfl rfl ?_ (hK _ _ (LKeep.refl _ _ _) rfl)
             go_simp
            | 1, hoi, hom =>
             have l0 := haft _ rfl ⟨0, .data⟩ (by simp) rfl
             have s0 : ao.tmps[34]?.getD undef = .pointer (some ⟨zx, 0, none⟩) := (hU.slot 0 (by decide) l0).trans (hpv 0 l0)
             have y0 := (hk.cell (b := zx) (o := 0) (hzx) (fun h => h)).trans (x0)
             refine wpOp_value (v := .string ⟨#[115, 116, 101, 112]⟩) (W' := W) rfl rfl ?_ (hK _ _ (LKeep.refl _ _ _) rfl)
             go_simp
            | 2, hoi, hom =>
             have z6 : ao.tmps[6]?.getD undef = .slice (some ⟨q, 0, none⟩) 4 4 := hU.same 6 (by decide)
             refine wpOp_value (v := .slice (some ⟨q, 0, none⟩) 4 4) (W' := W) rfl rfl ?_ (hK _ _ (LKeep.refl _ _ _) rfl)
             go_simp
            | 3, hoi, hom =>
             have l2 := haft _ rfl ⟨2, .data⟩ (by simp) rfl
             have s2 : ao.tmps[36]?.getD undef = .slice (some ⟨q, 0, none⟩) 4 4 := (hU.slot 2 (by decide) l2).trans (hpv 2 l2)
             refine wpOp_value (v := .pointer (some ⟨q, 0, none⟩)) (W' := W) rfl rfl ?_ (hK _ _ (LKeep.refl _ _ _) rfl)
             go_simp
            | 4, hoi, hom =>
             have l3 := haft _ rfl ⟨3, .data⟩ (by simp) rfl
             have s3 : ao.tmps[37]?.getD undef = .pointer (some ⟨q, 0, none⟩) := (hU.slot 3 (by decide) l3).trans (hpv 3 l3)
             have y0 := (hk.cell (b := q) (o := 0) (hzq8) (fun h => h)).trans (c8)
             refine wpOp_value (v := .string k0) (W' := W) rfl rfl ?_ (hK _ _ (LKeep.refl _ _ _) rfl)
             go_simp
            | 5, hoi, hom =>
             have l1 := haft _ rfl ⟨1, .data⟩ (by simp) rfl
             have s1 : ao.tmps[35]?.getD undef = .string ⟨#[115, 116, 101, 112]⟩ := (hU.slot 1 (by decide) l1).trans (hpv 1 l1)
             have l4 := haft _ rfl ⟨4, .data⟩ (by simp) rfl
             have s4 : ao.tmps[38]?.getD undef = .string k0 := (hU.slot 4 (by decide) l4).trans (hpv 4 l4)
             refine wpOp_value (v := .bool ([115, 116, 101, 112] == k0.toList)) (W' := W) rfl rfl ?_ (hK _ _ (LKeep.refl _ _ _) rfl)
             go_simp
            | oi + 6, hoi, hom => exact absurd (of_decide_eq_true hom) (by omega)
           case hendm0 =>
            intro listed vs ao W hG hk0 hpv hpre
            have hkk := (LKeep.drew (fun _ => False) (M := fun _ => True) V8 (fun h => h)).trans hk0
            have hk := hkk.1
            have hkm := hkk.2
            clear hkk
            have hact := hG.act
            have hT := hG.lst hpre 0 #[true, true, true, true, true, true] rfl (by kernel_rfl) (hpre 0 (by decide) (by decide))
            rw [hG.ix hT (l := [0, 1, 2, 3, 4, 5]) (by kernel_rfl)] at hact
            rw [hG.lo hT (k := 0) (by kernel_rfl)]
            have hv0 : vs 0 = .pointer (some ⟨zx, 0, none⟩) := hpv 0 (hpre 0 (by decide) (by decide))
            have hv1 : vs 1 = .string ⟨#[115, 116, 101, 112]⟩ := hpv 1 (hpre 1 (by decide) (by decide))
            have hv2 : vs 2 = .slice (some ⟨q, 0, none⟩) 4 4 := hpv 2 (hpre 2 (by decide) (by decide))
            have hv3 : vs 3 = .pointer (some ⟨q, 0, none⟩) := hpv 3 (hpre 3 (by decide) (by decide))
            have hv4 : vs 4 = .string k0 := hpv 4 (hpre 4 (by decide) (by decide))
            have hv5 : vs 5 = .bool ([115, 116, 101, 112] == k0.toList) := hpv 5 (hpre 5 (by decide) (by decide))
            clear hpv hpre hG hk0
            obtain rfl : ao = _ := hact
            subst hT
            simp only [setAll, List.setIfInBounds_toArray, List.set_cons_succ, List.set_cons_zero, List.getD_cons_succ, List.getD_cons_zero]
            simp only [hv0, hv1, hv2, hv3, hv4, hv5]
            clear hv0 hv1 hv2 hv3 hv4 hv5
            refine wpAny_done (by kernel_rfl) ?_ _
            rw [hdl]
            have HB9 := hide (HB8.out.trans (hk.below (B := w7.heap.size) (fun k h => h.elim) HB8.out.size))
            clear hk hkm x0 x1
            gi_wp2_with fail
            exact ⟨⟨1, by omega, rfl, HB9, hide (fun _ => HKW.out), hide (fun h => by omega)⟩, by simp [intOf]⟩
       · have hba : Below wr.heap.size wr (wr.alloc (.cells #[.string ⟨#[116, 97, 108, 108, 121]⟩, .func (.func 123) #[] #[.pointer (some ⟨zr, 0, none⟩), .pointer (some ⟨zn, 0, none⟩)]] 124)) := (Below.refl _ _).alloc (Nat.le_refl _) _
         have HZX := hide (show Blk (wr.alloc (.cells #[.string ⟨#[116, 97, 108, 108, 121]⟩, .func (.func 123) #[] #[.pointer (some ⟨zr, 0, none⟩), .pointer (some ⟨zn, 0, none⟩)]] 124)) wr.heap.size 124 #[.string ⟨#[116, 97, 108, 108, 121]⟩, .func (.func 123) #[] #[.pointer (some ⟨zr, 0, none⟩), .pointer (some ⟨zn, 0, none⟩)]] from Blk.made)
         have HB8 := hide (HBR.out.trans (hba.mono HBR.out.size))
         have c8 := (hba.cell (p := ⟨q, 0, none⟩) hzq).trans c0
         gi_wp2_with fail
         generalize (wr.alloc (.cells #[.string ⟨#[116, 97, 108, 108, 121]⟩, .func (.func 123) #[] #[.pointer (some ⟨zr, 0, none⟩), .pointer (some ⟨zn, 0, none⟩)]] 124)) = V8 at *
         generalize wr.heap.size = zx at *
         have x0 := HZX.out.at_ 0
         have x1 := HZX.out.at_ 1
         simp only [List.getElem?_toArray, List.getElem?_cons_zero, List.getElem?_cons_succ] at x0 x1
         have hzx := HZX.out.lt
         have hzq8 : q < V8.heap.size := by have := HB8.out.size; omega
         clear hba c0 g0 g1 g2 g3 hzk hzq HKR HWR HRR HBR
         by_cases hkw : k0 = wTally
         · have HKW := hide hkw
           have hdl : ([116, 97, 108, 108, 121] == k0.toList) = true := by rw [hkw, Lib.toList_data]; rfl
           clear hkw
           refine wpIn_round_rel4 (dst := fun oi => [34, 35, 36, 37, 38, 39].getD oi 0) (mono := fun oi => decide (oi < 6)) (pre := fun oi => decide (oi < 6)) (R := LKeep (fun _ => False) (fun _ => True))
            (Pv := fun oi v W => match oi with
             | 0 => v = .pointer (some ⟨zx, 0, none⟩)
             | 1 => v = .string ⟨#[116, 97, 108, 108, 121]⟩
             | 2 => v = .slice (some ⟨q, 0, none⟩) 4 4
             | 3 => v = .pointer (some ⟨q, 0, none⟩)
             | 4 => v = .string k0
             | 5 => v = .bool ([116, 97, 108, 108, 121] == k0.toList)
             | _ => True) (by kernel_rfl) (by kernel_rfl) (by rintro ⟨_, _, h⟩; exact h) (by kernel_rfl) (LKeep.refl _ _) (fun _ _ _ h h' => h.trans h') ?hstk1 ?hstepk1 ?hendk1
           case hstk1 =>
            intro oi v W W' h hk
            match oi, h with
            | 0, h => exact h
            | 1, h => exact h
            | 2, h => exact h
            | 3, h => exact h
            | 4, h => exact h
            | 5, h => exact h
            | oi + 6, h => exact trivial
           case hstepk1 =>
            intro oi hoi hom listed vs ao W hU hk0 hpv haft Ko hK
            have hkk := (LKeep.drew (fun _ => False) (M := fun _ => True) V8 (fun h => h)).trans hk0
            have hk := hkk.1
            have hkm := hkk.2
            clear hkk
            match oi, hoi, hom with
            | 0, hoi, hom =>
             have z8 : ao.tmps[8]?.getD undef = .pointer (some ⟨zx, 0, none⟩) := hU.same 8 (by decide)
             refine wpOp_value (v := .pointer (some ⟨zx, 0, none⟩)) (W' := W) rfl rfl ?_ (hK _ _ (LKeep.refl _ _ _) rfl)
             go_simp
            | 1, hoi, hom =>
             have l0 := haft _ rfl ⟨0, .data⟩ (by simp) rfl
             have s0 : ao.tmps[34]?.getD undef = .pointer (some ⟨zx, 0, none⟩) := (hU.slot 0 (by decide) l0).trans (hpv 0 l0)
             have y0 := (hk.cell (b := zx) (o := 0) (hzx) (fun h => h)).trans (x0)
             refine wpOp_value (v := .string ⟨#[116, 97, 108, 108, 121]⟩) (W' := W) rfl rfl ?_ (hK _ _ (LKeep.refl _ _ _) rfl)
             go_simp
            | 2, hoi, hom =>
             have z6 : ao.tmps[6]?.getD undef = .slice (some ⟨q, 0, none⟩) 4 4 := hU.same 6 (by decide)
             refine wpOp_value (v := .slice (some ⟨q, 0, none⟩) 4 4) (W' := W) rfl rfl ?_ (hK _ _ (LKeep.refl _ _ _) rfl)
             go_simp
            | 3, hoi, hom =>
             have l2 := haft _ rfl ⟨2, .data⟩ (by simp) rfl
             have s2 : ao.tmps[36]?.getD undef = .slice (some ⟨q, 0, none⟩) 4 4 := (hU.slot 2 (by decide) l2).trans (hpv 2 l2)
             refine wpOp_value (v := .pointer (some ⟨q, 0, none⟩)) (W' := W) rfl rfl ?_ (hK _ _ (LKeep.refl _ _ _) rfl)
             go_simp
            | 4, hoi, hom =>
             have l3 := haft _ rfl ⟨3, .data⟩ (by simp) rfl
             have s3 : ao.tmps[37]?.getD undef = .pointer (some ⟨q, 0, none⟩) := (hU.slot 3 (by decide) l3).trans (hpv 3 l3)
             have y0 := (hk.cell (b := q) (o := 0) (hzq8) (fun h => h)).trans (c8)
             refine wpOp_value (v := .string k0) (W' := W) rfl rfl ?_ (hK _ _ (LKeep.refl _ _ _) rfl)
             go_simp
            | 5, hoi, hom =>
             have l1 := haft _ rfl ⟨1, .data⟩ (by simp) rfl
             have s1 : ao.tmps[35]?.getD undef = .string ⟨#[116, 97, 108, 108, 121]⟩ := (hU.slot 1 (by decide) l1).trans (hpv 1 l1)
             have l4 := haft _ rfl ⟨4, .data⟩ (by simp) rfl
             have s4 : ao.tmps[38]?.getD undef = .string k0 := (hU.slot 4 (by decide) l4).trans (hpv 4 l4)
             refine wpOp_value (v := .bool ([116, 97, 108, 108, 121] == k0.toList)) (W' := W) rfl rfl ?_ (hK _ _ (LKeep.refl _ _ _) rfl)
             go_simp
            | oi + 6, hoi, hom => exact absurd (of_decide_eq_true hom) (by omega)
           case hendk1 =>
            intro listed vs ao W hG hk0 hpv hpre
            have hkk := (LKeep.drew (fun _ => False) (M := fun _ => True) V8 (fun h => h)).trans hk0
            have hk := hkk.1
            have hkm := hkk.2
            clear hkk
            have hact := hG.act
            have hT := hG.lst hpre 0 #[true, true, true, true, true, true] rfl (by kernel_rfl) (hpre 0 (by decide) (by decide))
            rw [hG.ix hT (l := [0, 1, 2, 3, 4, 5]) (by kernel_rfl)] at hact
            rw [hG.lo hT (k := 0) (by kernel_rfl)]
            have hv0 : vs 0 = .pointer (some ⟨zx, 0, none⟩) := hpv 0 (hpre 0 (by decide) (by decide))
            have hv1 : vs 1 = .string ⟨#[116, 97, 108, 108, 121]⟩ := hpv 1 (hpre 1 (by decide) (by decide))
            have hv2 : vs 2 = .slice (some ⟨q, 0, none⟩) 4 4 := hpv 2 (hpre 2 (by decide) (by decide))
            have hv3 : vs 3 = .pointer (some ⟨q, 0, none⟩) := hpv 3 (hpre 3 (by decide) (by decide))
            have hv4 : vs 4 = .string k0 := hpv 4 (hpre 4 (by decide) (by decide))
            have hv5 : vs 5 = .bool ([116, 97, 108, 108, 121] == k0.toList) := hpv 5 (hpre 5 (by decide) (by decide))
            clear hpv hpre hG hk0
            obtain rfl : ao = _ := hact
            subst hT
            simp only [setAll, List.setIfInBounds_toArray, List.set_cons_succ, List.set_cons_zero, List.getD_cons_succ, List.getD_cons_zero]
            simp only [hv0, hv1, hv2, hv3, hv4, hv5]
            clear hv0 hv1 hv2 hv3 hv4 hv5
            refine wpAny_done (by kernel_rfl) ?_ _
            rw [hdl]
            have hb9 : Below w7.heap.size w7 W := HB8.out.trans (hk.below (B := w7.heap.size) (fun k h => h.elim) HB8.out.size)
            have HB9 := hide hb9
            have hz0 := HZX.out.keep hk (fun h => h)
            have x1 := hz0.at_ 1
            simp only [List.getElem?_toArray, List.getElem?_cons_zero, List.getElem?_cons_succ] at x1
            have HR9 := hide (HR7.out.next hb9)
            have HW9 := hide (show WordsAt W q 4 zr zn rb mb k0 k1 k2 k3 from ⟨HW7.out.next hb9, HK7.out.k1.next hb9, HK7.out.k2.next hb9, hzr, hqr, HSX.out⟩)
            have HP9 := hide (HP7.out.next hb9)
            have HG9 := hide ((hb9.cell (p := ⟨0, 0, none⟩) (by show 0 < _; omega)).trans HG7.out)
            have HLE := hide (show lineP b [k0, k1, k2, k3] = tallyP b k1 k2 k3 by rw [lineP_eq, if_neg (HN1.out (by omega)), if_pos HKW.out])
            have HKC := hide (HKQ.out.trans (Keep.of_below' hb9 (fun k => k = rb ∨ k = mb)))
            have HBL := hide (show b.steps.length ≤ 1000 ∧ b.tallies.length ≤ 1000 by have h1 := HHL.out; have h2 := HXP.out.length_le; have h3 := lines_count s; rw [List.length_append, List.length_singleton] at h2; omega)
            clear hk hkm hb9 x0 hz0
            gi_wp2_with fail
            refine ⟨trivial, rfl, CallsIn.inRound _ (callsIn_wide.2 ((readTally_any (cq := 4) HR9.out HW9.out HBL.out.2 (Nat.le_refl _)).mono ?_))⟩
            rintro e w9 ⟨hkL, (⟨b', a', hs, rfl, hr9, hna⟩ | ⟨hs, rfl⟩)⟩
            · have HP10 := hide (HP9.out.keep hkL (by omega))
              have HG10 := hide ((hkL.cell (b := 0) (o := 0) (by have := HP9.out.lt; omega) (by omega)).trans HG9.out)
              have HKL := hide hkL
              have HS := hide hs
              have HR10 := hide hr9
              have HNA := hide hna
              clear hkL hs hr9 hna x1
              gi_wp2_with fail
              refine ⟨HKC.out.trans HKL.out, b', a', HPS.out _ (by rw [HLE.out, HS.out]), HR10.out, HP10.out, tallyP_len HS.out HHL.out, ?_, ?_, HG10.out⟩
              · intro g o p e; rcases HNA.out.1 g o p e with h | h; exact HA1.out g o p h; have := HB9.out.size; omega
              · intro g o p e; rcases HNA.out.2 g o p e with h | h; exact HA2.out g o p h; have := HB9.out.size; omega
            · exact ⟨rfl, rfl, HKC.out.trans hkL, HPS.out _ (by rw [HLE.out, hs])⟩
         · have HKW := hide hkw
           have hdl : ([116, 97, 108, 108, 121] == k0.toList) = false := by rw [beq_eq_false_iff_ne]; exact fun h => hkw (by rw [Lib.toList_data] at h; exact ByteArray.ext (Array.ext' h.symm))
           clear hkw
           refine wpIn_round_rel4 (dst := fun oi => [34, 35, 36, 37, 38, 39].getD oi 0) (mono := fun oi => decide (oi < 6)) (pre := fun oi => decide (oi < 6)) (R := LKeep (fun _ => False) (fun _ => True))
            (Pv := fun oi v W => match oi with
             | 0 => v = .pointer (some ⟨zx, 0, none⟩)
             | 1 => v = .string ⟨#[116, 97, 108, 108, 121]⟩
             | 2 => v = .slice (some ⟨q, 0, none⟩) 4 4
             | 3 => v = .pointer (some ⟨q, 0, none⟩)
             | 4 => v = .string k0
             | 5 => v = .bool ([116, 97, 108, 108, 121] == k0.toList)
             | _ => True) (by kernel_rfl) (by kernel_rfl) (by rintro ⟨_, _, h⟩; exact h) (by kernel_rfl) (LKeep.refl _ _) (fun _ _ _ h h' => h.trans h') ?hstm1 ?hstepm1 ?hendm1
           case hstm1 =>
            intro oi v W W' h hk
            match oi, h with
            | 0, h => exact h
            | 1, h => exact h
            | 2, h => exact h
            | 3, h => exact h
            | 4, h => exact h
            | 5, h => exact h
            | oi + 6, h => exact trivial
           case hstepm1 =>
            intro oi hoi hom listed vs ao W hU hk0 hpv haft Ko hK
            have hkk := (LKeep.drew (fun _ => False) (M := fun _ => True) V8 (fun h => h)).trans hk0
            have hk := hkk.1
            have hkm := hkk.2
            clear hkk
            match oi, hoi, hom with
            | 0, hoi, hom =>
             have z8 : ao.tmps[8]?.getD undef = .pointer (some ⟨zx, 0, none⟩) := hU.same 8 (by decide)
             refine wpOp_value (v := .pointer (some ⟨zx, 0, none⟩)) (W' := W) rfl rfl ?_ (hK _ _ (LKeep.refl _ _ _) rfl)
             go_simp
            | 1, hoi, hom =>
             have l0 := haft _ rfl ⟨0, .data⟩ (by simp) rfl
             have s0 : ao.tmps[34]?.getD undef = .pointer (some ⟨zx, 0, none⟩) := (hU.slot 0 (by decide) l0).trans (hpv 0 l0)
             have y0 := (hk.cell (b := zx) (o := 0) (hzx) (fun h => h)).trans (x0)
             refine wpOp_value (v := .string ⟨#[116, 97, 108, 108, 121]⟩) (W' := W) rfl rfl ?_ (hK _ _ (LKeep.refl _ _ _) rfl)
             go_simp
            | 2, hoi, hom =>
             have z6 : ao.tmps[6]?.getD undef = .slice (some ⟨q, 0, none⟩) 4 4 := hU.same 6 (by decide)
             refine wpOp_value (v := .slice (some ⟨q, 0, none⟩) 4 4) (W' := W) rfl rfl ?_ (hK _ _ (LKeep.refl _ _ _) rfl)
             go_simp
            | 3, hoi, hom =>
             have l2 := haft _ rfl ⟨2, .data⟩ (by simp) rfl
             have s2 : ao.tmps[36]?.getD undef = .slice (some ⟨q, 0, none⟩) 4 4 := (hU.slot 2 (by decide) l2).trans (hpv 2 l2)
             refine wpOp_value (v := .pointer (some ⟨q, 0, none⟩)) (W' := W) rfl rfl ?_ (hK _ _ (LKeep.refl _ _ _) rfl)
             go_simp
            | 4, hoi, hom =>
             have l3 := haft _ rfl ⟨3, .data⟩ (by simp) rfl
             have s3 : ao.tmps[37]?.getD undef = .pointer (some ⟨q, 0, none⟩) := (hU.slot 3 (by decide) l3).trans (hpv 3 l3)
             have y0 := (hk.cell (b := q) (o := 0) (hzq8) (fun h => h)).trans (c8)
             refine wpOp_value (v := .string k0) (W' := W) rfl rfl ?_ (hK _ _ (LKeep.refl _ _ _) rfl)
             go_simp
            | 5, hoi, hom =>
             have l1 := haft _ rfl ⟨1, .data⟩ (by simp) rfl
             have s1 : ao.tmps[35]?.getD undef = .string ⟨#[116, 97, 108, 108, 121]⟩ := (hU.slot 1 (by decide) l1).trans (hpv 1 l1)
             have l4 := haft _ rfl ⟨4, .data⟩ (by simp) rfl
             have s4 : ao.tmps[38]?.getD undef = .string k0 := (hU.slot 4 (by decide) l4).trans (hpv 4 l4)
             refine wpOp_value (v := .bool ([116, 97, 108, 108, 121] == k0.toList)) (W' := W) rfl rfl ?_ (hK _ _ (LKeep.refl _ _ _) rfl)
             go_simp
            | oi + 6, hoi, hom => exact absurd (of_decide_eq_true hom) (by omega)
           case hendm1 =>
            intro listed vs ao W hG hk0 hpv hpre
            have hkk := (LKeep.drew (fun _ => False) (M := fun _ => True) V8 (fun h => h)).trans hk0
            have hk := hkk.1
            have hkm := hkk.2
            clear hkk
            have hact := hG.act
            have hT := hG.lst hpre 0 #[true, true, true, true, true, true] rfl (by kernel_rfl) (hpre 0 (by decide) (by decide))
            rw [hG.ix hT (l := [0, 1, 2, 3, 4, 5]) (by kernel_rfl)] at hact
            rw [hG.lo hT (k := 0) (by kernel_rfl)]
            have hv0 : vs 0 = .pointer (some ⟨zx, 0, none⟩) := hpv 0 (hpre 0 (by decide) (by decide))
            have hv1 : vs 1 = .string ⟨#[116, 97, 108, 108, 121]⟩ := hpv 1 (hpre 1 (by decide) (by decide))
            have hv2 : vs 2 = .slice (some ⟨q, 0, none⟩) 4 4 := hpv 2 (hpre 2 (by decide) (by decide))
            have hv3 : vs 3 = .pointer (some ⟨q, 0, none⟩) := hpv 3 (hpre 3 (by decide) (by decide))
            have hv4 : vs 4 = .string k0 := hpv 4 (hpre 4 (by decide) (by decide))
            have hv5 : vs 5 = .bool ([116, 97, 108, 108, 121] == k0.toList) := hpv 5 (hpre 5 (by decide) (by decide))
            clear hpv hpre hG hk0
            obtain rfl : ao = _ := hact
            subst hT
            simp only [setAll, List.setIfInBounds_toArray, List.set_cons_succ, List.set_cons_zero, List.getD_cons_succ, List.getD_cons_zero]
            simp only [hv0, hv1, hv2, hv3, hv4, hv5]
            clear hv0 hv1 hv2 hv3 hv4 hv5
            refine wpAny_done (by kernel_rfl) ?_ _
            rw [hdl]
            have HB9 := hide (HB8.out.trans (hk.below (B := w7.heap.size) (fun k h => h.elim) HB8.out.size))
            clear hk hkm x0 x1
            gi_wp2_with fail
            exact ⟨⟨2, by omega, rfl, HB9, hide (fun _ => HN1.out (by omega)), hide (fun _ => HKW.out)⟩, by simp [intOf]⟩
       · have HLN := hide (show lineP b [k0, k1, k2, k3] = none by rw [lineP_eq, if_neg (HN1.out (by omega)), if_neg (HN2.out (by omega))])
         gi_wp2_with fail
         refine ⟨trivial, rfl, CallsIn.inRound _ (callsIn_wide.2 ((need_false _).mono ?_))⟩
         rintro e w8 ⟨rfl, rfl⟩
         exact ⟨rfl, rfl, HKQ.out.trans (Keep.of_below' HBR.out _), HPS.out _ HLN.out⟩
    · have hb4 : (((wordsB x).length : Int) == 4) = false := by rw [beq_eq_false_iff_ne]; omega
      have HLN := hide (lineP_len (b := b) h4)
      clear h4 HBW
      generalize (w4.alloc (.cells ((wordsB x).map Value.string).toArray 9)) = w5 at *
      generalize (wordsB x).length = N at *
      gi_wp2_with fail
      refine ⟨trivial, rfl, CallsIn.inRound _ (callsIn_wide.2 ((need_false _).mono ?_))⟩
      rintro e w6 ⟨rfl, rfl⟩
      exact ⟨rfl, rfl, Keep.of_below' HB5.out _, HPS.out _ HLN.out⟩
   case done =>
    rintro D W' hDe ⟨b, a, hpb, hr, hpr, hlen, ha1, ha2, hg⟩ hk hd
    have hD : v2.heap.size ≤ D := by omega
    have hD2 : D ≤ v2.heap.size := by omega
    clear hDe
    have HP3 := hide (HP2.out.keep hk (by omega))
    have HQ3 := hide (HQ2.out.keep hk (by omega))
    have HB3 := hide (HB2.out.trans (hk.below (B := w.heap.size) (fun k h => by omega) HB2.out.size))
    have HRB := hide (show readV s = if okB b s then some b else none by rw [readV, show readB s = some b from hpb])
    have HR3 := hide hr
    have HD3 := hide hd
    have HA1 := hide ha1
    have HA2 := hide ha2
    have hzD := (Array.getElem?_eq_some_iff.1 hd).1
    have p0 := hpr.at_ 0
    have r0 := hr.k.at_ 0
    have r1 := hr.k.at_ 1
    simp only [List.getElem?_toArray, List.getElem?_cons_zero, List.getElem?_cons_succ] at p0 r0 r1
    have HPR := hide hpr
    clear hpb hr hpr hlen ha1 ha2 hg hk hd HP2 HQ2 HB2 HR2 HW2 HS2 hm
    refine wpF_of ?_
    go_wp2_with fail
    refine (check_any HR3.out.v).mono ?_
    rintro e w3 ⟨rfl, hb3⟩
    have HR4 := hide (HR3.out.next hb3)
    have HP4 := hide (HP3.out.next hb3)
    have HQ4 := hide (HQ3.out.next hb3)
    have HPR4 := hide (HPR.out.next hb3)
    have HD4 := hide ((hb3.block _ hzD).trans HD3.out)
    have HB4 := hide (HB3.out.trans (hb3.mono HB3.out.size))
    have HVD := hide (valid_of (b := b))
    have HOK := hide (show okB b s = (decide ((checkM b).2.2 = 0) && decide (textL b = s)) from rfl)
    have d0 := HQ4.out.at_ 0
    have f0 := HQ4.out.free 0
    simp only [List.getElem?_toArray, List.getElem?_cons_zero] at d0
    have hzw : w.heap.size ≤ w3.heap.size := HB4.out.size
    clear hb3 p0 r0 r1 HR3 HP3 HQ3 HPR HD3 HB3 hzD
    generalize checkM b = rr at *
    obtain ⟨r1', r2', r3⟩ := rr
    go_upto_region 17 with fail
    have hs : Keep (fun k => k = w.heap.size + 1) w3 (w3.setCell ⟨w.heap.size + 1, 0, none⟩ (.int .i64 r3)) := Keep.setCell _ _ _ _ rfl
    have HR5 := hide (HR4.out.keep hs (by omega) (by omega) (fun g o p e => by have := HA1.out g o p e; omega) (fun g o p e => by have := HA2.out g o p e; omega))
    have HP5 := hide (HP4.out.keep hs (by omega))
    have HPR5 := hide (HPR4.out.keep hs (by omega))
    have HQ5 := hide (show Blk (w3.setCell ⟨w.heap.size + 1, 0, none⟩ (.int .i64 r3)) (w.heap.size + 1) 26 #[.int .i64 r3] from HQ4.out.store 0 _)
    have HD5 := hide ((hs.block D (Array.getElem?_eq_some_iff.1 HD4.out).1 (by omega)).trans HD4.out)
    have HB5 := hide (HB4.out.trans (hs.below (B := w.heap.size) (fun k h => by omega) hzw))
    clear hs d0 f0 HR4 HP4 HQ4 HPR4 HD4 HB4 hzw
    generalize w3.setCell ⟨w.heap.size + 1, 0, none⟩ (.int .i64 r3) = w5 at *
    have d0 := HQ5.out.at_ 0
    have p0 := HPR5.out.at_ 0
    have r0 := HR5.out.k.at_ 0
    have r1 := HR5.out.k.at_ 1
    simp only [List.getElem?_toArray, List.getElem?_cons_zero, List.getElem?_cons_succ] at d0 p0 r0 r1
    by_cases h3 : r3 = 0
    · subst h3
      have HV := hide (HVD.out rfl)
      go_wp2_with fail
      refine (text_any HR5.out.v HV.out).mono ?_
      rintro e w6 ⟨rfl, hb6⟩
      have HR6 := hide (HR5.out.next hb6)
      have HP6 := hide (HP5.out.next hb6)
      have HQ6 := hide (HQ5.out.next hb6)
      have HPR6 := hide (HPR5.out.next hb6)
      have HD6 := hide ((hb6.block _ (Array.getElem?_eq_some_iff.1 HD5.out).1).trans HD5.out)
      have HB6 := hide (HB5.out.trans (hb6.mono HB5.out.size))
      clear hb6 HR5 HP5 HQ5 HPR5 HD5 HB5 d0 p0 r0 r1
      by_cases ht : textL b = s
      · have HRR := hide (show readR s = (b, 0) by rw [readR, if_neg h5, HRB.out, HOK.out]; simp [ht])
        rw [ht]
        clear ht
        have p0 := HPR6.out.at_ 0
        have r0 := HR6.out.k.at_ 0
        have r1 := HR6.out.k.at_ 1
        have c0 := HP6.out.at_ 0
        have c1 := HP6.out.at_ 1
        have d0 := HQ6.out.at_ 0
        have fc0 := HP6.out.free 0
        have fc1 := HP6.out.free 1
        have fd0 := HQ6.out.free 0
        simp only [List.getElem?_toArray, List.getElem?_cons_zero, List.getElem?_cons_succ] at p0 r0 r1 c0 c1 d0
        go_wp2_with (go_at_call 84; refine (need_true _).mono ?_; rintro e w7 ⟨rfl, rfl⟩)
        have hkp : ∀ (v : World) (o : Nat) (x : Value), Keep (fun k => k = w.heap.size ∨ k = w.heap.size + 1) v (v.setCell ⟨w.heap.size, o, none⟩ x) := fun v o x => Keep.setCell _ _ _ _ (.inl rfl)
        have hkp' : ∀ (v : World) (o : Nat) (x : Value), Keep (fun k => k = w.heap.size) v (v.setCell ⟨w.heap.size, o, none⟩ x) := fun v o x => Keep.setCell _ _ _ _ rfl
        have hkq : ∀ (v : World) (x : Value), Keep (fun k => k = w.heap.size ∨ k = w.heap.size + 1) v (v.setCell ⟨w.heap.size + 1, 0, none⟩ x) := fun v x => Keep.setCell _ _ _ _ (.inr rfl)
        have hkq' : ∀ (v : World) (x : Value), Keep (fun k => k = w.heap.size + 1) v (v.setCell ⟨w.heap.size + 1, 0, none⟩ x) := fun v x => Keep.setCell _ _ _ _ rfl
        have hs := ((hkp w7 0 (.slice a.A1 b.steps.length a.c1)).trans (hkp _ 1 (.slice a.A2 b.tallies.length a.c2))).trans (hkq _ (.int .i64 0))
        have b1 : Blk (((w7.setCell ⟨w.heap.size, 0, none⟩ (.slice a.A1 b.steps.length a.c1)).setCell ⟨w.heap.size, 1, none⟩ (.slice a.A2 b.tallies.length a.c2)).setCell ⟨w.heap.size + 1, 0, none⟩ (.int .i64 0)) w.heap.size 25 #[.slice a.A1 b.steps.length a.c1, .slice a.A2 b.tallies.length a.c2] :=
         ((HP6.out.store 0 _).store 1 _).keep (hkq' _ _) (by omega)
        have b2 : Blk (((w7.setCell ⟨w.heap.size, 0, none⟩ (.slice a.A1 b.steps.length a.c1)).setCell ⟨w.heap.size, 1, none⟩ (.slice a.A2 b.tallies.length a.c2)).setCell ⟨w.heap.size + 1, 0, none⟩ (.int .i64 0)) (w.heap.size + 1) 26 #[.int .i64 0] :=
         ((HQ6.out.keep (hkp' _ _ _) (by omega)).keep (hkp' _ _ _) (by omega)).store 0 _
        generalize (((w7.setCell ⟨w.heap.size, 0, none⟩ (.slice a.A1 b.steps.length a.c1)).setCell ⟨w.heap.size, 1, none⟩ (.slice a.A2 b.tallies.length a.c2)).setCell ⟨w.heap.size + 1, 0, none⟩ (.int .i64 0)) = X at *
        refine leaves_fine (p := w.heap.size) (q := w.heap.size + 1) ((hs.block _ (Array.getElem?_eq_some_iff.1 HD6.out).1 (by omega)).trans HD6.out) ?_
        intro w' hk2
        have b1' := b1.keep hk2 (by omega)
        have b2' := b2.keep hk2 (by omega)
        have c0 := b1'.at_ 0
        have c1 := b1'.at_ 1
        have d0 := b2'.at_ 0
        simp only [List.getElem?_toArray, List.getElem?_cons_zero, List.getElem?_cons_succ] at c0 c1 d0
        have hall : Keep (fun k => k = w.heap.size ∨ k = w.heap.size + 1 ∨ k = D) w7 w' := (hs.mono (fun k _ h => h.elim .inl (fun h => .inr (.inl h)))).trans (hk2.mono (fun k _ h => .inr (.inr h)))
        have hR := (HR6.out.keep hall (by omega) (by omega) (fun g o p e => by have := HA1.out g o p e; omega) (fun g o p e => by have := HA2.out g o p e; omega)).v
        refine ⟨_, by simp [results, Tryz.results35, go_sem, c0, c1, d0]; rfl, HB6.out.trans (hall.below (B := w.heap.size) (fun k h => by have := HB6.out.size; omega) HB6.out.size), a, by rw [HRR.out], by rw [HRR.out]; exact hR⟩
      · have HRN := hide (readR_none h5 (by rw [HRB.out, HOK.out]; simp [ht]))
        have hts : (textL b == s) = false := by rw [beq_eq_false_iff_ne]; exact ht
        clear ht
        go_wp2_with (go_at_call 84; refine (need_false _).mono ?_; rintro e w7 ⟨rfl, rfl⟩)
        refine leaves_caught HD6.out HP6.out HQ6.out (by omega) (by omega) (by omega) ?_
        intro w' b1 b2 hk2
        exact caught_end b1 b2 HRN.out (HB6.out.trans (hk2.below (B := w.heap.size) (fun k h => by have := HB6.out.size; omega) HB6.out.size))
    · have h3' : (r3 == 0) = false := by simpa using h3
      have HRN := hide (readR_none h5 (by rw [HRB.out, HOK.out]; simp [h3]))
      clear h3
      go_wp2_with fail
      refine (need_false _).mono ?_
      rintro e w6 ⟨rfl, rfl⟩
      refine leaves_caught HD5.out HP5.out HQ5.out (by omega) (by omega) (by omega) ?_
      intro w' b1 b2 hk2
      exact caught_end b1 b2 HRN.out (HB5.out.trans (hk2.below (B := w.heap.size) (fun k h => by have := HB5.out.size; omega) HB5.out.size))
   case pan =>
    intro D q' W' hD hq hp hk hd
    have HRN := hide (readR_none h5 (by
     obtain ⟨rest, hrest⟩ := hq
     rw [readV, readB, ← hrest, List.map_append, parse_none _ _ _ hp]))
    have hb3 := HB2.out.trans (hk.below (B := w.heap.size) (fun k h => by omega) HB2.out.size)
    refine leaves_caught hd (HP2.out.keep hk (by omega)) (HQ2.out.keep hk (by omega)) (by omega) (by omega) (by omega) ?_
    intro w' b1 b2 hk2
    exact caught_end b1 b2 HRN.out (hb3.trans (hk2.below (B := w.heap.size) (fun k h => by omega) hb3.size))
end Go.Proofs.YtocdmkilnbpkdaaGreatDoor
