/- Plain laws of wider books; a further tally. -/
import Derived.Test.YtocdmkilnbpkdaaGreatDoorQG
import Derived.Test.YtocdmkilnbpkdaaGreatDoorZT
import Derived.OwnWalkIn
import Derived.OwnWalk
import Derived.TacticsInMore
import Derived.Deep.DeepCutAuto
import Derived.Test.YtocdmkilnbpkdaaGreatDoorQI
import Derived.Test.YtocdmkilnbpkdaaGreatDoorVQ
set_option linter.unusedVariables false
set_option linter.unusedSimpArgs false
namespace Go.Proofs.YtocdmkilnbpkdaaGreatDoor
/-- Wider ways: more can get lost, and more can be at each step by itself. -/
structure Wider (T T' : Way) (c c' : Nat → Span) : Prop where
 n : T'.n = T.n
 par : T'.par = T.par
 loss : ∀ i, i < T.n → T.loss i ≤ T'.loss i
 c : ∀ i, i < T.n → (c' i).lo ≤ (c i).lo ∧ (c i).hi ≤ (c' i).hi
section
variable {T T' : Way} {c c' : Nat → Span}
theorem Wider.kids (h : Wider T T' c c') (i : Nat) : T'.kids i = T.kids i := by unfold Way.kids; rw [h.n, h.par]
theorem u_mono (ht : T.Ok) (ht' : T'.Ok) (h : Wider T T' c c') (hn : NeS T (T.u c)) : ∀ m i, i < T.n → T.n ≤ i + m → (T'.u c' i).lo ≤ (T.u c i).lo ∧ (T.u c i).hi ≤ (T'.u c' i).hi
 | 0, i, h1, h2 => by omega
 | m + 1, i, h1, h2 => by
  have hk : ∀ k ∈ T.kids i, (T'.u c' k).lo ≤ (T.u c k).lo ∧ (T.u c k).hi ≤ (T'.u c' k).hi := fun k hk => by
   have g := kid_gt ht hk
   exact u_mono ht ht' h hn m k g.2 (by omega)
  have ha : (T'.kids i).all (fun k => neB (T'.u c' k)) = true := List.all_eq_true.2 fun k hkk => by
   rw [h.kids] at hkk
   have h1 := hk k hkk
   have h2 := hn k (kid_gt ht hkk).2
   exact decide_eq_true (by omega)
  have e1 := u_eq ht' c' (i := i) (by rw [h.n]; exact h1)
  rw [Way.val, if_pos ha, h.kids] at e1
  have e2 := u_val ht hn h1
  have s1 : sLo (T'.u c') (T.kids i) ≤ sLo (T.u c) (T.kids i) := sumL_le fun k hkk => (hk k hkk).1
  have s2 : sHi (T.u c) (T.kids i) ≤ sHi (T'.u c') (T.kids i) := sumL_le fun k hkk => (hk k hkk).2
  have hc := h.c i h1
  have hl := h.loss i h1
  rw [e1, e2]
  by_cases hk0 : T.kids i = []
  · rw [if_pos hk0, if_pos hk0]; simp only [both]; omega
  · rw [if_neg hk0, if_neg hk0]; simp only [both]; omega
theorem u_wide (ht : T.Ok) (ht' : T'.Ok) (h : Wider T T' c c') (hn : NeS T (T.u c)) {i : Nat} (hi : i < T.n) : (T'.u c' i).lo ≤ (T.u c i).lo ∧ (T.u c i).hi ≤ (T'.u c' i).hi := u_mono ht ht' h hn T.n i hi (by omega)
theorem ne_wide (ht : T.Ok) (ht' : T'.Ok) (h : Wider T T' c c') (hs : neB (T.u c 0) = true) : neB (T'.u c' 0) = true := by
 have h1 := u_wide ht ht' h (u_ne ht hs) ht.pos
 have h2 := of_decide_eq_true hs
 exact decide_eq_true (by omega)
theorem d_wide (ht : T.Ok) (ht' : T'.Ok) (h : Wider T T' c c') (hs : neB (T.u c 0) = true) : ∀ m i, i ≤ m → i < T.n → (T'.d c' i).lo ≤ (T.d c i).lo ∧ (T.d c i).hi ≤ (T'.d c' i).hi := by
 have hn := u_ne ht hs
 have hu := fun i (hi : i < T.n) => u_wide ht ht' h hn hi
 intro m
 induction m with
 | zero =>
  intro i hi _
  obtain rfl : i = 0 := by omega
  rw [d_zero ht, d_zero ht']
  exact hu 0 ht.pos
 | succ m ih =>
  intro i hi hin
  by_cases h0 : i = 0
  · rw [h0, d_zero ht, d_zero ht']; exact hu 0 ht.pos
  · have hp := ht.par i (by omega) hin
    have hk : i ∈ T.kids (T.par i) := kid.2 ⟨hin, by omega, rfl⟩
    have hk' : i ∈ T'.kids (T.par i) := by rw [h.kids]; exact hk
    obtain ⟨a1, a2⟩ := d_kid (c := c) ht hk
    obtain ⟨b1, b2⟩ := d_kid (c := c') ht' hk'
    have hd := ih (T.par i) (by omega) (by omega)
    have hl := h.loss (T.par i) (by omega)
    have hui := hu i hin
    rw [h.kids] at b1 b2
    have s1 := sumL_less (f := fun k => (T'.u c' k).lo) (g := fun k => (T.u c k).lo) hk fun x hx => (hu x (kid_gt ht hx).2).1
    have s2 := sumL_less (f := fun k => (T.u c k).hi) (g := fun k => (T'.u c' k).hi) hk fun x hx => (hu x (kid_gt ht hx).2).2
    unfold sLo sHi at *
    omega
theorem lost_wide (ht : T.Ok) (ht' : T'.Ok) (h : Wider T T' c c') (hs : neB (T.u c 0) = true) {i : Nat} (hi : i < T.n) : (T'.lost c' i).lo ≤ (T.lost c i).lo ∧ (T.lost c i).hi ≤ (T'.lost c' i).hi := by
 have hn := u_ne ht hs
 have hd := d_wide ht ht' h hs i i (Nat.le_refl _) hi
 have hl := h.loss i hi
 have s1 : sLo (T'.u c') (T.kids i) ≤ sLo (T.u c) (T.kids i) := sumL_le fun k hk => (u_wide ht ht' h hn (kid_gt ht hk).2).1
 have s2 : sHi (T.u c) (T.kids i) ≤ sHi (T'.u c') (T.kids i) := sumL_le fun k hk => (u_wide ht ht' h hn (kid_gt ht hk).2).2
 rw [Way.lost, Way.lost, h.kids]
 by_cases hk : T.kids i = []
 · rw [if_pos hk, if_pos hk]; exact ⟨Int.le_refl _, Int.le_refl _⟩
 · rw [if_neg hk, if_neg hk]; simp only; omega
end

theorem lessB_no {xs ys : List Int} (hl : xs.length = ys.length) (h : ∀ j, j < ys.length → (∀ i, i < j → nth xs i = nth ys i) → nth ys j ≤ nth xs j) : lessB xs ys = false := by
 induction xs generalizing ys with
 | nil =>
  cases ys with
  | nil => rfl
  | cons y c => simp at hl
 | cons x a ih =>
  cases ys with
  | nil => simp at hl
  | cons y c =>
   have h0 := h 0 (by simp) (fun i hi => absurd hi (Nat.not_lt_zero i))
   change y ≤ x at h0
   rw [lessB]
   by_cases e : x = y
   · rw [if_pos e]
     exact ih (by simpa using hl) fun j hj hq => h (j + 1) (by simp; omega) fun i hi => by
      cases i with
      | zero => exact e
      | succ i => exact hq i (by omega)
   · rw [if_neg e]; exact decide_eq_false (by omega)
theorem firstL_nth {b : Book} {n i : Nat} (hi : i < n) : nth (firstL b n) i = firstB b i := by
 rw [nth_eq (by simpa [firstL] using hi)]; simp [firstL]
def subB (a b : List Int) : Bool := a.all fun x => hasInt b x
def withB (a b : Span) : Bool := decide (b.lo ≤ a.lo) && decide (a.hi ≤ b.hi)
theorem withB_iff {a b : Span} : withB a b = true ↔ b.lo ≤ a.lo ∧ a.hi ≤ b.hi := by simp [withB]
theorem sub_filter {p q : Nat → Bool} {n : Nat} (h : ∀ i, i < n → p i = true → q i = true) : subB (natInts ((List.range n).filter p)) (natInts ((List.range n).filter q)) = true := by
 rw [subB, List.all_eq_true]
 intro y hy
 rw [natInts, List.mem_map] at hy
 obtain ⟨i, hi, rfl⟩ := hy
 rw [List.mem_filter, List.mem_range] at hi
 exact (has_filter q hi.1).trans (h i hi.1 hi.2)
theorem tell_wider (b : Book) (x : Tally) : Wider (wayOf b) (wayOf b) (cB (tellB b x) fun _ => false) (cB b fun _ => false) := ⟨rfl, rfl, fun _ _ => Int.le_refl _, fun i _ => by
 rw [cB_tell, if_neg (by simp)]
 by_cases e : i = x.step.toNat
 · rw [e, upd_at]; unfold both; simp only; omega
 · rw [upd_ne _ _ e]; exact ⟨Int.le_refl _, Int.le_refl _⟩⟩
structure MoreF (b : Book) (x : Tally) (n : Nat) : Prop where
 hands : ∀ i, i < n → withB (handsB (tellB b x) (fun _ => false) i) (handsB b (fun _ => false) i) = true
 lost : ∀ i, i < n → withB (lostB (tellB b x) i) (lostB b i) = true
 sure : subB (natInts (sureTo b n)) (natInts (sureTo (tellB b x) n)) = true
 may : subB (natInts (mayTo (tellB b x) n)) (natInts (mayTo b n)) = true
 first : lessB (firstL (tellB b x) n) (firstL b n) = false
theorem more_facts {b : Book} {x : Tally} (h : someV b = true) (h' : someV (tellB b x) = true) : MoreF b x b.steps.length := by
 obtain ⟨hg, hs⟩ := some_good h
 obtain ⟨hg', hs'⟩ := some_good h'
 have hw := hg.way
 have hW := tell_wider b x
 have hl : ∀ i, i < b.steps.length → (lostB b i).lo ≤ (lostB (tellB b x) i).lo ∧ (lostB (tellB b x) i).hi ≤ (lostB b i).hi := fun i hi => lost_wide hw hw hW hs' hi
 refine ⟨fun i hi => withB_iff.2 (d_wide hw hw hW hs' i i (Nat.le_refl _) hi), fun i hi => withB_iff.2 (hl i hi), ?_, ?_, ?_⟩
 · exact sub_filter fun i hi hp => by
    have := hl i hi
    have hp := of_decide_eq_true hp
    exact decide_eq_true (by omega)
 · have e : ∀ {c : Book}, someV c = true → mayTo c c.steps.length = (List.range c.steps.length).filter fun i => decide (0 < (lostB c i).hi) := fun {c} hc => List.filter_congr fun i hi => by
    have hf := lost_facts hc (List.mem_range.1 hi)
    rw [Bool.eq_iff_iff]
    simp only [spanB, Bool.not_eq_true', decide_eq_true_eq]
    generalize lostB c i = z at *
    obtain ⟨z1, z2⟩ := z
    simp only [Bool.and_eq_false_iff, beq_eq_false_iff_ne] at *
    omega
   have e1 := e h'
   rw [show (tellB b x).steps.length = b.steps.length from rfl] at e1
   rw [e h, e1]
   exact sub_filter fun i hi hp => by
    have := hl i hi
    have hp := of_decide_eq_true hp
    exact decide_eq_true (by omega)
 · have hl1 : ∀ c : Book, (firstL c b.steps.length).length = b.steps.length := fun c => by simp [firstL]
   refine lessB_no ((hl1 _).trans (hl1 _).symm) fun j hj he => ?_
   rw [hl1] at hj
   rw [firstL_nth hj, firstL_nth hj]
   have ht := first_truth hw hs'
   have ht2 : Truth (wayOf b) (cB b fun _ => false) ((wayOf b).first (cB (tellB b x) fun _ => false)) := ⟨fun i hi => by
    have h1 := ht.1 i hi
    have h2 := hW.c i hi
    omega, ht.2⟩
   exact first_least hw (cB_99 b _) ht2 hj fun i hi => by
    have := he i hi
    rw [firstL_nth (by omega), firstL_nth (by omega)] at this
    exact this
end Go.Proofs.YtocdmkilnbpkdaaGreatDoor
/- within and subset of the law. -/
namespace Go.Proofs.YtocdmkilnbpkdaaGreatDoor
open Go.RowKit

set_option maxHeartbeats 400000 in
set_option maxRecDepth 100000 in
theorem within12_any (p q : Span) (w : World) : Calls Tryz.prog 55 #[.agg #[.int .i64 p.lo, .int .i64 p.hi], .agg #[.int .i64 q.lo, .int .i64 q.hi]] w fun e w' => e = .returned (.bool (withB p q)) ∧ Below w.heap.size w w' := by
 obtain ⟨p1, p2⟩ := p
 obtain ⟨q1, q2⟩ := q
 have HW := hide (show withB ⟨p1, p2⟩ ⟨q1, q2⟩ = (decide (q1 ≤ p1) && decide (p2 ≤ q2)) from rfl)
 have hA : Below w.heap.size w ((w.alloc (.cells #[.int .i64 p1, .int .i64 p2] 30)).alloc (.cells #[.int .i64 q1, .int .i64 q2] 30)) := ((Below.refl _ _).alloc (Nat.le_refl _) _).alloc (by simp) _
 go_enter Tryz.func55, Tryz.ntmps55
 by_cases h1 : q1 ≤ p1 <;> by_cases h2 : p2 ≤ q2
 all_goals
  go_wp2
  go_ret
  exact ⟨ret_b (by rw [HW.out]; simp [h1, h2]), hA⟩
set_option maxHeartbeats 400000 in
set_option maxRecDepth 100000 in
theorem subset12_any {A A' : Option Addr} {n n' cp cp' B B' : Nat} {xs ys : List Int} {w : World} (h : IntsS w B A n cp xs) (h' : IntsS w B' A' n' cp' ys) (hs : subB xs ys = true) :
 Calls Tryz.prog 54 #[.slice A n cp, .slice A' n' cp'] w fun e w' => e = .returned (.bool true) ∧ w = w' := by
 have hm := h.bd
 have HN := hide h.len
 have HS := hide (show ∀ k, k < n → hasInt ys (nth xs k) = true from fun k hk => by
  rw [subB, List.all_eq_true] at hs
  exact hs _ (by rw [nth_eq (by rw [h.len]; exact hk)]; exact List.getElem_mem _))
 clear hs
 go_enter Tryz.func54, Tryz.ntmps54
 go_wp2
 go_loop [5] (fun i => ∃ j : Nat, j ≤ n ∧ i = .int .i64 j) (fun i => n - (intOf i).toNat)
 case atStart => exact ⟨0, Nat.zero_le _, rfl⟩
 case round =>
  obtain ⟨j, hj, rfl⟩ := hrel
  have hj0 : (0 : Int) ≤ (j : Int) := Int.natCast_nonneg _
  by_cases hlt : j < n
  · have hj1 : (j : Int) < (n : Int) := by omega
    obtain ⟨b, off, rfl, hb, hc⟩ := h.row (by omega)
    have y0 := hc j hlt
    rw [intsF] at y0
    have HH := hide (HS.out j hlt)
    clear hc
    go_wp2_with (go_at_call 46; refine (has_any h' (nth xs j)).mono ?_; rintro e v ⟨rfl, rfl⟩; rw [HH.out])
    go_round
    case rel => exact ⟨j + 1, by omega, by go_num⟩
    case measure => simp [intOf]; omega
  · go_wp2
    go_ret
    exact ⟨rfl, rfl⟩
end Go.Proofs.YtocdmkilnbpkdaaGreatDoor
/- Plain laws: a book with a greater Loss or Off. -/
namespace Go.Proofs.YtocdmkilnbpkdaaGreatDoor

/-- A book that is wider: more can get lost, tallies are off by more. -/
structure Wide (b b' : Book) : Prop where
 sl : b'.steps.length = b.steps.length
 tl : b'.tallies.length = b.tallies.length
 step : ∀ i, i < b.steps.length → (nth b'.steps i).name = (nth b.steps i).name ∧ (nth b'.steps i).from_ = (nth b.steps i).from_ ∧ (nth b.steps i).loss ≤ (nth b'.steps i).loss ∧ (nth b'.steps i).loss ≤ 20
 tally : ∀ q, q < b.tallies.length → (nth b'.tallies q).step = (nth b.tallies q).step ∧ (nth b'.tallies q).hands = (nth b.tallies q).hands ∧ (nth b.tallies q).off ≤ (nth b'.tallies q).off ∧ (nth b'.tallies q).off ≤ 9
theorem nth_out {α : Type} [Inhabited α] {l : List α} {i : Nat} (h : ¬ i < l.length) : nth l i = default := by
 unfold nth; rw [List.getD_eq_getElem?_getD, List.getElem?_eq_none (by omega)]; rfl
theorem any_names (l : List Step) (i : Nat) (v : ByteArray) : (l.take i).any (fun x => eqS x.name v) = ((l.map (·.name)).take i).any fun x => eqS x v := by
 rw [← List.map_take, List.any_map]; rfl
section
variable {b b' : Book}
theorem Wide.names (h : Wide b b') : b'.steps.map (·.name) = b.steps.map (·.name) :=
 List.ext_getElem (by simp [h.sl]) fun i h1 h2 => by
  rw [List.length_map] at h1 h2
  have := (h.step i h2).1
  rw [nth_eq h1, nth_eq h2] at this
  simpa using this
theorem Wide.valid (h : Wide b b') (hv : Valid b) : Valid b' := by
 have hl := h.sl
 have ht := h.tl
 refine ⟨by rw [hl]; exact hv.pos, by rw [hl]; exact hv.steps, fun i hi => ?_, fun i hi => ?_, ?_, fun i h0 hi => ?_, fun i hi => ?_, by rw [ht]; exact hv.tallies, fun i hi => ?_⟩
 · rw [hl] at hi; rw [(h.step i hi).1]; exact hv.name i hi
 · rw [hl] at hi; rw [any_names, h.names, ← any_names, (h.step i hi).1]; exact hv.apart i hi
 · rw [(h.step 0 hv.pos).2.1]; exact hv.first
 · rw [hl] at hi; rw [(h.step i hi).2.1]; exact hv.from_ i h0 hi
 · rw [hl] at hi; have := h.step i hi; have := hv.loss i hi; omega
 · rw [ht] at hi; have h1 := h.tally i hi; have h2 := hv.tally i hi; rw [h1.1, h1.2.1, hl]; exact ⟨h2.1, h2.2.1, by omega⟩
theorem Wide.tall (h : Wide b b') (hg : Good b) (but : Nat → Bool) : ∀ j, j ≤ b.tallies.length → ∀ i, (tallC b' but j i).lo ≤ (tallC b but j i).lo ∧ (tallC b but j i).hi ≤ (tallC b' but j i).hi
 | 0, _, i => by rw [tallC, tallC, h.sl]; exact ⟨Int.le_refl _, Int.le_refl _⟩
 | j + 1, hj, i => by
  have ih := h.tall hg but j (by omega)
  have ht := h.tally j (by omega)
  rw [tallC, tallC]
  cases but j with
  | true => exact ih i
  | false =>
   rw [if_neg (by simp), if_neg (by simp), ht.1]
   by_cases e : i = (nth b.tallies j).step.toNat
   · rw [← e, upd_at, upd_at]
     have := ih i
     unfold both; simp only; omega
   · rw [upd_ne _ _ e, upd_ne _ _ e]; exact ih i
theorem Wide.wider (h : Wide b b') (hg : Good b) (but : Nat → Bool) : Wider (wayOf b) (wayOf b') (cB b but) (cB b' but) :=
 ⟨h.sl, funext fun k => by
  show (nth b'.steps k).from_.toNat = (nth b.steps k).from_.toNat
  by_cases hk : k < b.steps.length
  · rw [(h.step k hk).2.1]
  · rw [nth_out hk, nth_out (by rw [h.sl]; exact hk)], fun i hi => (h.step i hi).2.2.1, fun i _ => by rw [cB, cB, h.tl]; exact h.tall hg but _ (Nat.le_refl _) i⟩
theorem rk_len {l l' : List Nat} (h : rk l ≤ rk l') : l.length ≤ l'.length := by unfold rk at h; omega
structure LessF (b b' : Book) (n : Nat) : Prop where
 ok : (checkM b').2.2 = 0
 wrong : (wrongV b').1.length ≤ (wrongV b).1.length ∧ (wrongV b').2 = 0 ∧ (wrongV b).2 = 0
 some : someV b = true → someV b' = true
 hands : someV b = true → ∀ i, i < n → withB (handsB b (fun _ => false) i) (handsB b' (fun _ => false) i) = true
 lost : someV b = true → ∀ i, i < n → withB (lostB b i) (lostB b' i) = true
theorem less_facts (hc : (checkM b).2.2 = 0) (h : Wide b b') : LessF b b' b.steps.length := by
 have hv := valid_of hc
 have hv' := h.valid hv
 have hc' := check_of hv'
 have hw := hv.good.way
 have hw' := hv'.good.way
 have hso : ∀ {but : Nat → Bool}, someB b but = true → someB b' but = true := fun hs => ne_wide hw hw' (h.wider hv.good _) hs
 refine ⟨hc', ?_, fun hs => ?_, fun hs i hi => ?_, fun hs i hi => ?_⟩
 · obtain ⟨s, hs, e, ha, _⟩ := wrong_of hc
   obtain ⟨t, _, e', _, hle⟩ := wrong_of hc'
   rw [e, e']
   refine ⟨?_, rfl, rfl⟩
   rw [h.tl] at hle ⊢
   exact rk_len (hle s hs (hso ha))
 · rw [someV, hc', hso (some_good hs).2]; rfl
 · exact withB_iff.2 (d_wide hw hw' (h.wider hv.good _) (some_good hs).2 i i (Nat.le_refl _) hi)
 · exact withB_iff.2 (lost_wide hw hw' (h.wider hv.good _) (some_good hs).2 hi)
end
theorem wide_set {b : Book} {i : Nat} {s : Step} (hi : i < b.steps.length) (hs : s.name = (nth b.steps i).name ∧ s.from_ = (nth b.steps i).from_ ∧ (nth b.steps i).loss ≤ s.loss ∧ s.loss ≤ 20) (hv : Valid b) {ts : List Tally} (htl : ts.length = b.tallies.length)
 (ht : ∀ q, q < b.tallies.length → (nth ts q).step = (nth b.tallies q).step ∧ (nth ts q).hands = (nth b.tallies q).hands ∧ (nth b.tallies q).off ≤ (nth ts q).off ∧ (nth ts q).off ≤ 9) : Wide b ⟨b.steps.set i s, ts⟩ :=
 ⟨by simp, htl, fun j hj => by
  show (nth (b.steps.set i s) j).name = _ ∧ (nth (b.steps.set i s) j).from_ = _ ∧ _ ≤ (nth (b.steps.set i s) j).loss ∧ (nth (b.steps.set i s) j).loss ≤ 20
  rw [nth_setG hi]
  by_cases e : j = i
  · rw [if_pos e, e]; exact hs
  · rw [if_neg e]; exact ⟨rfl, rfl, Int.le_refl _, (hv.loss j hj).2⟩, ht⟩
end Go.Proofs.YtocdmkilnbpkdaaGreatDoor
