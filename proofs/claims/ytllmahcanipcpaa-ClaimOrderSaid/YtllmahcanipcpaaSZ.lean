/- The plain law of chapter 11: a file whose papers say what is so. -/
import Derived.Test.YtllmahcanipcpaaSX
set_option linter.unusedVariables false
set_option linter.unusedSimpArgs false
namespace Go.Proofs.Ytllmahcanipcpaa

theorem check_parts {f : File} (h : (checkM f).2.2 = 0) : (failM (partyE f) f.parties 4).2 = 0 ∧ f.untils.length = f.parties.length ∧ (failM dayE f.untils 4).2 = 0 ∧ (failM (lotE f) f.lots 4).2 = 0 ∧ (failM (paperE f) f.papers 5).2 = 0 ∧ (failM (claimE f) f.claims 5).2 = 0 := by
  unfold checkM at h
  split at h
  · rename_i h1; exact absurd h h1
  rename_i h1
  split at h
  · simp at h
  rename_i h2
  split at h
  · rename_i h3; exact absurd h h3
  rename_i h3
  split at h
  · rename_i h4; exact absurd h h4
  rename_i h4
  split at h
  · rename_i h5; exact absurd h h5
  rename_i h5
  split at h
  · rename_i h6; exact absurd h h6
  rename_i h6
  exact ⟨Classical.not_not.1 h1, Classical.not_not.1 h2, Classical.not_not.1 h3, Classical.not_not.1 h4, Classical.not_not.1 h5, Classical.not_not.1 h6⟩
theorem check_mk {f : File} (h : (failM (partyE f) f.parties 4).2 = 0 ∧ f.untils.length = f.parties.length ∧ (failM dayE f.untils 4).2 = 0 ∧ (failM (lotE f) f.lots 4).2 = 0 ∧ (failM (paperE f) f.papers 5).2 = 0 ∧ (failM (claimE f) f.claims 5).2 = 0) : (checkM f).2.2 = 0 := by
  obtain ⟨h1, h2, h3, h4, h5, h6⟩ := h
  unfold checkM
  rw [if_neg (by simp [h1]), if_neg (by simp [h2]), if_neg (by simp [h3]), if_neg (by simp [h4]), if_neg (by simp [h5]), if_neg (by simp [h6])]
theorem failM_ok {α : Type} [Inhabited α] {F : Nat → α → Int} {xs : List α} {most : Int} (hl : (xs.length : Int) ≤ most) (h : ∀ j, j < xs.length → F j (nth xs j) = 0) : (failM F xs most).2 = 0 := by
  rw [failM, if_neg (by omega), firstE_ok xs 0 (fun j hj => by rw [Nat.zero_add]; exact h j hj)]
def flipS (s : Int) : Int := if s = 0 then 1 else if s = 1 then 0 else if s = 2 then 3 else 2
def toldP (f : File) (g : List Int) (p : Paper) : Paper := if soP f p g then p else { p with says := flipS p.says }
def toldF (f : File) (g : List Int) : File := { f with papers := f.papers.map (toldP f g) }
theorem toldF_len (f : File) (g : List Int) : (toldF f g).papers.length = f.papers.length := by simp [toldF]
theorem nth_map {α β : Type} [Inhabited α] [Inhabited β] (t : α → β) {l : List α} {i : Nat} (h : i < l.length) : nth (l.map t) i = t (nth l i) := by simp [nth, h]
theorem told_paperE {f : File} (g : List Int) {p : Paper} (h0 : 0 ≤ p.says) (h3 : p.says ≤ 3) (i j : Nat) : paperE f i (toldP f g p) = paperE f j p := by
  unfold toldP
  split
  · rfl
  · have hs : p.says = 0 ∨ p.says = 1 ∨ p.says = 2 ∨ p.says = 3 := by omega
    rcases hs with hs | hs | hs | hs <;> simp [paperE, flipS, hs, offP]
theorem told_so {f : File} (g : List Int) {p : Paper} (h0 : 0 ≤ p.says) (h3 : p.says ≤ 3) : soP f (toldP f g p) g = true := by
  unfold toldP
  split
  · assumption
  · rename_i h
    have hs : p.says = 0 ∨ p.says = 1 ∨ p.says = 2 ∨ p.says = 3 := by omega
    rcases hs with hs | hs | hs | hs <;> simp [soP, flipS, hs] at h ⊢ <;> first | omega | exact h
theorem told_ok {f : File} (hc : (checkM f).2.2 = 0) {g : List Int} (hg : g ∈ allP f) : (checkM (toldF f g)).2.2 = 0 ∧ g ∈ truthsM (toldF f g) [] := by
  have hv := valid_of hc
  obtain ⟨h1, h2, h3, h4, h5, h6⟩ := check_parts hc
  refine ⟨check_mk ⟨h1, h2, h3, h4, failM_ok (by rw [toldF_len]; have := hv.papers; omega) (fun j hj => ?_), h6⟩, ?_⟩
  · rw [toldF_len] at hj
    have hp := hv.paper j hj
    have := (failM_zero h5).2 j hj
    show paperE f j (nth (f.papers.map (toldP f g)) j) = 0
    rw [nth_map _ hj, told_paperE g hp.1 hp.2.1 j j, this]
  · rw [truthsM, List.mem_filter]
    refine ⟨by rw [allP_lots (show (toldF f g).lots = f.lots from rfl)]; exact hg, ?_⟩
    rw [soM, soTo, List.all_eq_true]
    intro k hk
    have hk' := List.mem_range.1 hk
    rw [toldF_len] at hk'
    have hp := hv.paper k hk'
    show (hasInt [] (k : Int) || soP f (nth (f.papers.map (toldP f g)) k) g) = true
    rw [nth_map _ hk', told_so g hp.1 hp.2.1, Bool.or_true]
theorem told_some {f : File} (hc : (checkM f).2.2 = 0) {g : List Int} (hg : g ∈ allP f) : someT (toldF f g) = true :=
  some_mk (told_ok hc hg).1 fun e => by have := (told_ok hc hg).2; rw [e] at this; simp at this
/-- As long as there is a truth no paper must be wrong. -/
theorem wrong_some {f : File} (h : someT f = true) : wrongV f = ([], 0) := by
  obtain ⟨hv, hc, ht⟩ := some_ok h
  have he : emptyB f [] = false := by
    rw [emptyB, decide_eq_false_iff_not]
    exact fun e => ht (List.length_eq_zero_iff.1 e)
  have hw : wrongL f = [] := by
    have := wrong_find hv
    rw [show flatC f.papers.length (f.papers.length + 1) = [] :: (List.range' 1 f.papers.length).flatMap (chTo f.papers.length) by
      rw [flatC, List.range_succ_eq_map, List.flatMap_cons, List.range'_eq_map_range]
      simp [chTo, List.flatMap_map, Nat.add_comm]] at this
    rw [List.find?_cons, he] at this
    exact (Option.some.inj this).symm
  obtain ⟨h1, h2⟩ := wrong_eq f
  rw [wrongR, if_pos hc, hw] at h1 h2
  have h3 : (wrongV f).1 = [] := by
    cases h4 : (wrongV f).1 with
    | nil => rfl
    | cons x l => rw [h4] at h1; simp [natInts] at h1
  exact Prod.ext h3 h2
end Go.Proofs.Ytllmahcanipcpaa
