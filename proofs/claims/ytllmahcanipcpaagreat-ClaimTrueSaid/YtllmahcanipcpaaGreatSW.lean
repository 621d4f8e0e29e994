/- The plain law of chapter 11: what Next of the program says is what the reference says. -/
import Derived.Test.YtllmahcanipcpaaGreatSV
import Derived.Test.YtllmahcanipcpaaGreatSJ
import Derived.Test.YtllmahcanipcpaaGreatHH
set_option linter.unusedVariables false
set_option linter.unusedSimpArgs false
namespace Go.Proofs.YtllmahcanipcpaaGreat
def helpsM (f : File) (c : Claim) (G : List (List Int)) : Nat := cntP (helpB f c) G
def nextE (f : File) (l day : Int) : Int := if indexM f l f.lots.length = 0 ∧ offP 0 60 day = true then 7 else indexM f l f.lots.length
def nextC7 (f : File) (l day : Int) (p : Nat) : Int := (helpsM f ⟨l, p, day⟩ (truthsM f []) : Nat)
def nextR (f : File) (l day : Int) : (Int × Int) × Int := if errK f (nextE f l day) = 0 then
    (if (bestI (nextC7 f l day) f.parties.length).2 = 0 then ((0, 0), 9) else (bestI (nextC7 f l day) f.parties.length, 0))
  else ((0, 0), errK f (nextE f l day))
theorem bestI_ext {c d : Nat → Int} : ∀ k, (∀ i, i < k → c i = d i) → bestI c k = bestI d k
  | 0, _ => rfl
  | k + 1, h => by rw [bestI, bestI, bestI_ext k (fun i hi => h i (by omega)), h k (by omega)]
theorem bestI_pos (c : Nat → Int) : ∀ k, 0 ≤ (bestI c k).2
  | 0 => Int.le_refl _
  | k + 1 => by
    have := bestI_pos c k
    rw [bestI]
    split
    · show 0 ≤ c k; omega
    · exact this
theorem bestI_zero {c : Nat → Int} (k : Nat) : ∀ d, (∀ i, k ≤ i → c i = 0) → bestI c (k + d) = bestI c k
  | 0, _ => rfl
  | d + 1, h => by
    have := bestI_pos c (k + d)
    rw [← Nat.add_assoc, bestI, h (k + d) (by omega), if_neg (by omega), bestI_zero k d h]
theorem next_err (f : File) (l day : Int) : enterE f l f.lots.length (otherE day) = errK f (nextE f l day) := by
  have h0 := enter_err f l f.lots.length
  unfold enterE at h0 ⊢
  unfold errK nextE otherE indexM at *
  rw [someB_zero] at *
  by_cases h1 : (checkM f).2.2 = 0
  · cases h2 : offP 0 ((f.lots.length : Int) - 1) l <;> cases h3 : offP 0 60 day <;> by_cases h4 : (truthsM f []).length = 0 <;> simp [h1, h4]
  · simp [h1]
theorem claim_in {f : File} {l day : Int} {p : Nat} (h1 : 0 ≤ l ∧ l < f.lots.length) (h2 : 0 ≤ day ∧ day ≤ 60) (hp : p < f.parties.length) : 0 ≤ (⟨l, p, day⟩ : Claim).lot ∧ (⟨l, p, day⟩ : Claim).lot < f.lots.length ∧ 0 ≤ (⟨l, p, day⟩ : Claim).against ∧ (⟨l, p, day⟩ : Claim).against < f.parties.length ∧ 0 ≤ (⟨l, p, day⟩ : Claim).day ∧ (⟨l, p, day⟩ : Claim).day ≤ 60 :=
  ⟨h1.1, h1.2, by show (0 : Int) ≤ (p : Int); omega, by show (p : Int) < _; omega, h2.1, h2.2⟩
theorem next_in {f : File} {l day : Int} (h : nextE f l day = 0) : Valid f ∧ (0 ≤ l ∧ l < f.lots.length) ∧ 0 ≤ day ∧ day ≤ 60 := by
  unfold nextE at h
  split at h
  · omega
  · rename_i hh
    refine ⟨index_valid h, index_in h, ?_⟩
    cases hd : offP 0 60 day with
    | true => exact absurd ⟨h, hd⟩ hh
    | false => exact offP_false.1 hd
theorem next_cnt {f : File} {l day : Int} (h : nextE f l day = 0) {p : Nat} (hp : p < f.parties.length) : ((cntH f l.toNat day p (truthsB f 0) : Nat) : Int) = nextC7 f l day p := by
  obtain ⟨hv, h1, h2⟩ := next_in h
  rw [nextC7, helpsM, cntP, cntH, truthsB_zero, List.filter_map, List.length_map]
  congr 2
  refine List.filter_congr fun g _ => ?_
  rw [helpB_eq hv.fair (hv.fair.more (claim_in h1 h2 hp))]
  simp only [Function.comp, hlpB, withM_mkP, paysB_eq, settlesB_mkP]
  rw [show ((l.toNat : Nat) : Int) = l by omega]
  by_cases e : withM f g l.toNat = (p : Int)
  · rw [e, show ((p : Int).toNat) = p by omega]; simp
  · rw [show (withM f g l.toNat == (p : Int)) = false by simpa using e, show ((p : Int) == withM f g l.toNat) = false by simpa using fun h => e h.symm]; simp
theorem next_eq (f : File) (l day : Int) : nextV f l day = nextR f l day := by
  rw [nextV, nextR, next_err]
  by_cases h : errK f (nextE f l day) = 0
  · rw [if_pos h, if_pos h]
    have hE := (errK_zero h).1
    obtain ⟨hv, h1, h2⟩ := next_in hE
    have hz : ∀ i, f.parties.length ≤ i → ((cntH f l.toNat day i (truthsB f 0) : Nat) : Int) = 0 := fun i hi => by
      rw [cntH, truthsB_zero, List.filter_map, List.length_map]
      rw [List.filter_eq_nil_iff.2 fun g hg => ?_]; · rfl
      have hP := truthsM_pl hv hg
      have hr := (hv.route l.toNat (by omega)).2.1 (nth g l.toNat).toNat (by have := hP.2 l.toNat (by omega); omega)
      simp only [Function.comp, hlpB, withM_mkP]
      rw [show (withM f g l.toNat == (i : Int)) = false by rw [beq_eq_false_iff_ne, withM]; omega]
      simp
    have e1 := bestI_zero (c := fun i => ((cntH f l.toNat day i (truthsB f 0) : Nat) : Int)) f.parties.length (4 - f.parties.length) hz
    rw [show f.parties.length + (4 - f.parties.length) = 4 by have := hv.parties; omega] at e1
    rw [e1, bestI_ext _ fun i hi => next_cnt hE hi]
  · rw [if_neg h, if_neg h]
end Go.Proofs.YtllmahcanipcpaaGreat
