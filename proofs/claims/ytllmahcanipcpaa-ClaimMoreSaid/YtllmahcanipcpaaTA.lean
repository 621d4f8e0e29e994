/- The plain law of ClaimMore: with one more paper there are no further truths. -/
import Derived.Test.YtllmahcanipcpaaSX
set_option linter.unusedVariables false
set_option linter.unusedSimpArgs false
namespace Go.Proofs.Ytllmahcanipcpaa

def moreP (f : File) (p : Paper) : File := { f with papers := f.papers ++ [p] }
theorem more_sub {f : File} {p : Paper} {g : List Int} (h : g ∈ truthsM (moreP f p) []) : g ∈ truthsM f [] := by
  rw [truthsM, List.mem_filter] at h ⊢
  refine ⟨by rw [← allP_lots (show (moreP f p).lots = f.lots from rfl)]; exact h.1, ?_⟩
  have h2 := h.2
  rw [soM, soTo, List.all_eq_true] at h2 ⊢
  intro k hk
  have hk' := List.mem_range.1 hk
  have := h2 k (List.mem_range.2 (by simp [moreP]; omega))
  rw [show nth (moreP f p).papers k = nth f.papers k by simp [moreP, nth, List.getElem?_append_left hk']] at this
  exact this
theorem sumTo_moreP (f : File) (p : Paper) (g : List Int) (party : Int) : ∀ k, sumTo (moreP f p) g party k = sumTo f g party k
  | 0 => rfl
  | k + 1 => by rw [sumTo, sumTo, sumTo_moreP f p g party k]; rfl
theorem fn_of {α : Type} [Inhabited α] {P : Nat → α → Prop} {n : Nat} (h : ∀ i, i < n → ∃ a, P i a) : ∃ u : Nat → α, ∀ i, i < n → P i (u i) :=
  ⟨fun i => if hi : i < n then Classical.choose (h i hi) else default, fun i hi => by simp only [hi, dif_pos]; exact Classical.choose_spec (h i hi)⟩
theorem more_laws {f : File} {p : Paper} (h : someT f = true) (hm : someT (moreP f p) = true) : ∃ (ww wz : Nat → List Nat) (pp pz : Nat → Int) (ss sz : Nat → Span) (hh hz : List Nat),
    (∀ l, l < f.lots.length → whoV f l = (ww l, 0) ∧ whoV (moreP f p) l = (wz l, 0) ∧ (natInts (wz l)).all (hasInt (natInts (ww l))) = true) ∧
    (∀ n, n < f.claims.length → payV f n = (pp n, 0) ∧ payV (moreP f p) n = (pz n, 0) ∧ (pp n != 0 && pp n != pz n) = false) ∧
    (∀ q, q < f.parties.length → owesV f q = (ss q, 0) ∧ owesV (moreP f p) q = (sz q, 0) ∧ ¬ (sz q).lo < (ss q).lo ∧ ¬ (sz q).hi > (ss q).hi) ∧
    heldV f = (hh, 0) ∧ heldV (moreP f p) = (hz, 0) ∧ (natInts hz).all (hasInt (natInts hh)) = true := by
  have hs : ∀ g ∈ truthsM (moreP f p) [], g ∈ truthsM f [] := fun g hg => more_sub hg
  have hne := (some_ok hm).2.2
  obtain ⟨ss, hss⟩ := fn_of (P := fun q s => owesV f (q : Nat) = (s, 0) ∧ SpanOk f (q : Nat) (truthsM f []) s) (n := f.parties.length) (fun q hq => owes_ok h hq)
  obtain ⟨sz, hsz⟩ := fn_of (P := fun q s => owesV (moreP f p) (q : Nat) = (s, 0) ∧ SpanOk (moreP f p) (q : Nat) (truthsM (moreP f p) []) s) (n := f.parties.length) (fun q hq => owes_ok hm hq)
  refine ⟨fun l => selN f.parties.length fun q => (truthsM f []).any fun g => withM f g l == (q : Int), fun l => selN f.parties.length fun q => (truthsM (moreP f p) []).any fun g => withM f g l == (q : Int),
    fun n => told3 (truthsM f []) fun g => paidB f g n, fun n => told3 (truthsM (moreP f p) []) fun g => paidB f g n, ss, sz, _, _, fun l hl => ⟨who_ok h hl, who_ok hm hl, ?_⟩, fun n hn => ⟨pay_ok h hn, pay_ok hm hn, ?_⟩, fun q hq => ?_, held_ok h, held_ok hm, ?_⟩
  · refine sub_sel (Nat.le_refl _) fun i _ hi => ?_
    rw [List.any_eq_true] at hi ⊢
    obtain ⟨g, hg, h2⟩ := hi
    exact ⟨g, hs g hg, h2⟩
  · have hT := told3_must (q := fun g => paidB f g n) (some_ok h).2.2
    have hZ := told3_must (q := fun g => paidB f g n) hne
    show (told3 (truthsM f []) (fun g => paidB f g n) != 0 && told3 (truthsM f []) (fun g => paidB f g n) != told3 (truthsM (moreP f p) []) (fun g => paidB f g n)) = false
    by_cases h0 : told3 (truthsM f []) (fun g => paidB f g n) = 0
    · simp [h0]
    · have h3 : told3 (truthsM f []) (fun g => paidB f g n) = 1 ∨ told3 (truthsM f []) (fun g => paidB f g n) = 2 := by
        unfold told3 at h0 ⊢
        split
        · exact .inl rfl
        · rename_i h1
          split
          · rename_i h2; rw [if_neg h1, if_pos h2] at h0; exact absurd rfl h0
          · exact .inr rfl
      have e : told3 (truthsM (moreP f p) []) (fun g => paidB f g n) = told3 (truthsM f []) (fun g => paidB f g n) := by
        rcases h3 with h3 | h3
        · rw [h3]
          refine hZ.1.2 (List.all_eq_true.2 fun g hg => ?_)
          exact List.all_eq_true.1 (hT.1.1 h3) g (hs g hg)
        · rw [h3]
          refine hZ.2.2 (List.any_eq_false.2 fun g hg => ?_)
          exact List.any_eq_false.1 (hT.2.1 h3) g (hs g hg)
      rw [e]; simp
  · obtain ⟨a1, a2⟩ := hss q hq
    obtain ⟨b1, b2⟩ := hsz q hq
    refine ⟨a1, b1, ?_⟩
    have := a2.sub b2 (fun g hg => ⟨g, hs g hg, (sumTo_moreP f p g q _).symm⟩)
    omega
  · refine sub_sel (Nat.le_refl _) fun i _ hi => ?_
    rw [Bool.and_eq_true, Bool.not_eq_true', List.any_eq_true, List.all_eq_false] at hi ⊢
    obtain ⟨⟨g, hg, h2⟩, g', hg', h3⟩ := hi
    exact ⟨⟨g, hs g hg, h2⟩, g', hs g' hg', h3⟩
end Go.Proofs.Ytllmahcanipcpaa
