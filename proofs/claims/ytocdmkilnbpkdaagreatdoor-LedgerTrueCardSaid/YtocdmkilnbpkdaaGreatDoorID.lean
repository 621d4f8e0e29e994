/- Plain laws: ANY hands, by turns. -/
import Derived.Test.YtocdmkilnbpkdaaGreatDoorQG
import Derived.Test.YtocdmkilnbpkdaaGreatDoorZT
import Derived.IntWalk
import Derived.OwnWalkIn
import Derived.TacticsInMore
import Derived.Deep.DeepCutAuto
set_option linter.unusedVariables false
set_option linter.unusedSimpArgs false
namespace Go.Proofs.YtocdmkilnbpkdaaGreatDoor

/-- The n-th number of a list, by turns. -/
def turnB (l : List Int) (n : Nat) : Int := if l.length = 0 then 0 else nth l (n % l.length)
theorem turnB_bd {l : List Int} (h : ∀ i, 0 ≤ nth l i ∧ nth l i ≤ 255) (n : Nat) : 0 ≤ turnB l n ∧ turnB l n ≤ 255 := by
 unfold turnB; split
 · omega
 · exact h _
/-- What there is at a step, by what is at all steps behind it. -/
def Way.truE (T : Way) (t : Nat → Int) (i : Nat) : Int := if T.kids i = [] then t i % 40 else t i % (T.loss i + 1)
def Way.truV (T : Way) (t : Nat → Int) (h : Nat → Int) (i : Nat) : Int := T.truE t i + sumL h (T.kids i)
def Way.truS (T : Way) (t : Nat → Int) : Nat → Nat → Int
 | 0 => fun _ => 0
 | j + 1 => fun k => if k = T.n - 1 - j then T.truV t (T.truS t j) (T.n - 1 - j) else T.truS t j k
def Way.tru (T : Way) (t : Nat → Int) : Nat → Int := T.truS t T.n
section
variable {T : Way} {t : Nat → Int}
theorem tru_stay {i : Nat} {j : Nat} : ∀ {m : Nat}, j ≤ m → m ≤ T.n → T.n - j ≤ i → T.truS t m i = T.truS t j i
 | 0, h, _, _ => by rw [show j = 0 by omega]
 | m + 1, h, hm, hi => by
  by_cases e : j = m + 1
  · rw [e]
  · rw [Way.truS]; dsimp only; rw [if_neg (by omega)]; exact tru_stay (by omega) (by omega) hi
theorem truS_at (ht : T.Ok) {i m : Nat} (hi : i < T.n) (hm : m ≤ T.n) (h : T.n - m ≤ i) : T.truS t m i = T.truV t (T.truS t m) i := by
 have e1 : T.truS t m i = T.truS t (T.n - i) i := tru_stay (by omega) hm (by omega)
 rw [e1]
 obtain ⟨d, hd⟩ : ∃ d, T.n - i = d + 1 := ⟨T.n - i - 1, by omega⟩
 rw [hd, Way.truS]
 dsimp only
 rw [if_pos (by omega), show T.n - 1 - d = i by omega]
 unfold Way.truV
 congr 1
 exact sumL_ext fun k hk => by
  have := kid_gt ht hk
  exact (tru_stay (by omega) hm (by omega)).symm
theorem tru_eq (ht : T.Ok) {i : Nat} (hi : i < T.n) : T.tru t i = T.truV t (T.tru t) i := truS_at ht hi (Nat.le_refl _) (by omega)
def Bd : Nat → Int
 | 0 => 0
 | m + 1 => 39 + 6 * Bd m
theorem Bd_pos : ∀ m, 0 ≤ Bd m
 | 0 => by simp [Bd]
 | m + 1 => by have := Bd_pos m; simp only [Bd]; omega
theorem Bd_mono {a : Nat} : ∀ {b : Nat}, a ≤ b → Bd a ≤ Bd b
 | 0, h => by rw [show a = 0 by omega]; exact Int.le_refl _
 | b + 1, h => by
  by_cases e : a = b + 1
  · rw [e]; exact Int.le_refl _
  · have := Bd_mono (b := b) (a := a) (by omega)
    have := Bd_pos b
    simp only [Bd]; omega
theorem truE_bd (ht : T.Ok) (h0 : ∀ i, 0 ≤ t i) {i : Nat} (hi : i < T.n) : 0 ≤ T.truE t i ∧ T.truE t i ≤ 39 ∧ (T.kids i ≠ [] → T.truE t i ≤ T.loss i) := by
 have hl := ht.loss i hi
 have := h0 i
 unfold Way.truE
 split
 · exact ⟨Int.emod_nonneg _ (by decide), by have := Int.emod_lt_of_pos (t i) (show (0 : Int) < 40 by decide); omega, fun h => absurd (by assumption) h⟩
 · have h1 := Int.emod_nonneg (t i) (show T.loss i + 1 ≠ 0 by omega)
   have h2 := Int.emod_lt_of_pos (t i) (show 0 < T.loss i + 1 by omega)
   exact ⟨h1, by omega, fun _ => by omega⟩
theorem sumL_cap {h : Nat → Int} {l : List Nat} {B : Int} (hB : 0 ≤ B) (hl : l.length ≤ 6) (hh : ∀ k ∈ l, 0 ≤ h k ∧ h k ≤ B) : 0 ≤ sumL h l ∧ sumL h l ≤ 6 * B := by
 have h1 : 0 ≤ sumL h l ∧ sumL h l ≤ B * l.length := by
  have := sumL_bd (f := h) (a := 0) (b := B) (l := l) hh
  omega
 have h2 : B * (l.length : Int) ≤ B * 6 := Int.mul_le_mul_of_nonneg_left (by omega) hB
 omega
theorem truS_bd (ht : T.Ok) (h0 : ∀ i, 0 ≤ t i) : ∀ m, m ≤ T.n → ∀ i, i < T.n → 0 ≤ T.truS t m i ∧ T.truS t m i ≤ Bd m
 | 0, _, i, _ => by simp [Way.truS, Bd]
 | m + 1, hm, i, hi => by
  have ih := truS_bd ht h0 m (by omega)
  have hp := Bd_pos m
  rw [Way.truS]
  dsimp only
  split
  · have h1 := truE_bd ht h0 (i := T.n - 1 - m) (by omega)
    have h2 := sumL_cap (h := T.truS t m) (l := T.kids (T.n - 1 - m)) hp (kids_len ht _) fun k hk => ih k (kid_gt ht hk).2
    unfold Way.truV
    simp only [Bd]; omega
  · have := ih i hi
    simp only [Bd]; omega
theorem Bd_six {m : Nat} (h : m ≤ 6) : Bd m ≤ 400000 := Int.le_trans (Bd_mono h) (by decide)
theorem tru_bd (ht : T.Ok) (h0 : ∀ i, 0 ≤ t i) {i : Nat} (hi : i < T.n) : 0 ≤ T.tru t i ∧ T.tru t i ≤ 400000 := by
 have := truS_bd ht h0 T.n (Nat.le_refl _) i hi
 have := Bd_six ht.six
 unfold Way.tru
 omega
theorem tru_kids (ht : T.Ok) (h0 : ∀ i, 0 ≤ t i) {i : Nat} (hi : i < T.n) (hk : T.kids i ≠ []) : sumL (T.tru t) (T.kids i) ≤ T.tru t i ∧ T.tru t i ≤ sumL (T.tru t) (T.kids i) + T.loss i := by
 have h1 := truE_bd ht h0 hi
 have h2 := h1.2.2 hk
 have e := tru_eq (t := t) ht hi
 unfold Way.truV at e
 omega
theorem tru_99 (ht : T.Ok) (h0 : ∀ i, 0 ≤ t i) (h9 : T.tru t 0 ≤ 99) : ∀ m i, i ≤ m → i < T.n → T.tru t i ≤ 99 := by
 intro m
 induction m with
 | zero =>
  intro i hi _
  obtain rfl : i = 0 := by omega
  exact h9
 | succ m ih =>
  intro i hi hin
  by_cases e : i = 0
  · rw [e]; exact h9
  · have hp := ht.par i (by omega) hin
    have hk : i ∈ T.kids (T.par i) := kid.2 ⟨hin, by omega, rfl⟩
    have h1 := ih (T.par i) (by omega) (by omega)
    have h2 := (tru_kids ht h0 (i := T.par i) (by omega) (List.ne_nil_of_mem hk)).1
    have h3 := sumL_less (f := fun _ => 0) (g := T.tru t) hk fun x hx => (tru_bd ht h0 (kid_gt ht hx).2).1
    have z : ∀ l : List Nat, sumL (fun _ => 0) l = 0 := fun l => by
     induction l with
     | nil => rfl
     | cons x l ih => simp [sumL, ih]
    rw [z] at h3
    omega
end
def truB (b : Book) (l : List Int) : Nat → Int := (wayOf b).tru (turnB l)
def truL (b : Book) (l : List Int) : List Int := (List.range b.steps.length).map (truB b l)
/-- Is it a truth? -/
def isB (b : Book) (xs : List Int) : Bool := (List.range b.steps.length).all (fun i => inB (nth xs i) 0 99 && ((behindB b i).isEmpty || inB (nth xs i - sumL (nth xs) (behindB b i)) 0 (nth b.steps i).loss)) &&
 (List.range b.tallies.length).all fun q => tallyOk (nth b.tallies q) (nth xs (nth b.tallies q).step.toNat)
theorem is_truth {b : Book} (hg : Good b) {xs : List Int} : isB b xs = true ↔ Truth (wayOf b) (cB b fun _ => false) (nth xs) := by
 have hk := behind_kids hg
 have hc : ∀ i, i < b.steps.length → ((cB b (fun _ => false) i).lo ≤ nth xs i ∧ nth xs i ≤ (cB b (fun _ => false) i).hi ↔ (0 ≤ nth xs i ∧ nth xs i ≤ 99) ∧ ∀ q, q < b.tallies.length → (nth b.tallies q).step = (i : Int) → tallyOk (nth b.tallies q) (nth xs i) = true) := fun i hi => by
  have h9 := cB_99 b (fun _ => false) i hi
  by_cases hr : 0 ≤ nth xs i ∧ nth xs i ≤ 99
  · have h1 := setOf_tall hg (fun _ => false) hi b.tallies.length (Nat.le_refl _) (nth xs i).toNat (by omega)
    rw [show tallC b (fun _ => false) b.tallies.length i = cB b (fun _ => false) i from rfl, Bool.eq_iff_iff, setOf_iff, List.all_eq_true, show (((nth xs i).toNat : Nat) : Int) = nth xs i by omega] at h1
    rw [h1]
    constructor
    · refine fun h => ⟨hr, fun q hq e => ?_⟩
      have := h q (List.mem_range.2 hq)
      simpa [e] using this
    · intro h q hq
      by_cases e : (nth b.tallies q).step = (i : Int)
      · simp [h.2 q (List.mem_range.1 hq) e]
      · simp [e]
  · constructor
    · intro h; omega
    · intro h; exact absurd h.1 hr
 rw [isB, Bool.and_eq_true, List.all_eq_true, List.all_eq_true]
 constructor
 · rintro ⟨h1, h2⟩
   have h3 : ∀ i, i < b.steps.length → (0 ≤ nth xs i ∧ nth xs i ≤ 99) ∧ (behindB b i ≠ [] → 0 ≤ nth xs i - sumL (nth xs) (behindB b i) ∧ nth xs i - sumL (nth xs) (behindB b i) ≤ (nth b.steps i).loss) := fun i hi => by
    have := h1 i (List.mem_range.2 hi)
    rw [Bool.and_eq_true, Bool.or_eq_true] at this
    refine ⟨of_decide_eq_true this.1, fun hne => ?_⟩
    rcases this.2 with h | h
    · exact absurd (List.isEmpty_iff.1 h) hne
    · exact of_decide_eq_true h
   refine ⟨fun i hi => (hc i hi).2 ⟨(h3 i hi).1, fun q hq e => ?_⟩, fun i hi hne => ?_⟩
   · have := h2 q (List.mem_range.2 hq)
     rwa [e, Int.toNat_natCast] at this
   · have h4 := (h3 i hi).2 (by rw [hk]; exact hne)
     rw [hk] at h4
     have e : (wayOf b).loss i = (nth b.steps i).loss := rfl
     rw [e]
     show sumL (nth xs) _ ≤ nth xs i ∧ nth xs i ≤ sumL (nth xs) _ + _
     omega
 · rintro ⟨h1, h2⟩
   refine ⟨fun i hi => ?_, fun q hq => ?_⟩
   · have hi := List.mem_range.1 hi
     have h3 := (hc i hi).1 (h1 i hi)
     rw [Bool.and_eq_true, Bool.or_eq_true]
     refine ⟨decide_eq_true h3.1, ?_⟩
     by_cases hne : behindB b i = []
     · exact .inl (List.isEmpty_iff.2 hne)
     · have h4 := h2 i hi (by rw [← hk]; exact hne)
       have e : (wayOf b).loss i = (nth b.steps i).loss := rfl
       rw [← hk, e] at h4
       have h5 : sumL (nth xs) (behindB b i) ≤ nth xs i ∧ nth xs i ≤ sumL (nth xs) (behindB b i) + (nth b.steps i).loss := h4
       exact .inr (decide_eq_true (by omega))
   · have hq := List.mem_range.1 hq
     have ht := (hg.tally q hq).1
     have hi : (nth b.tallies q).step.toNat < b.steps.length := by omega
     exact ((hc _ hi).1 (h1 _ hi)).2 q hq (by omega)
end Go.Proofs.YtocdmkilnbpkdaaGreatDoor
/- turn of the law. -/
namespace Go.Proofs.YtocdmkilnbpkdaaGreatDoor
open Go.RowKit

def bytesF (l : List Int) (j : Nat) : Value := .int .u8 (nth l j)
/-- A slice that reads as a list of bytes. -/
structure BytesS (w : World) (B : Nat) (A : Option Addr) (c : Nat) (l : List Int) : Prop where
 cap : l.length ≤ c
 max : c ≤ maxLen
 row : Row w B A l.length (bytesF l)
 bd : ∀ i, 0 ≤ nth l i ∧ nth l i ≤ 255
theorem BytesS.next {w w' : World} {A : Option Addr} {c : Nat} {l : List Int} (h : BytesS w w.heap.size A c l) (hb : Below w.heap.size w w') : BytesS w' w'.heap.size A c l :=
 ⟨h.cap, h.max, (h.row.below hb).more hb.size, h.bd⟩
set_option maxHeartbeats 400000 in
set_option maxRecDepth 100000 in
theorem turn12_any {A : Option Addr} {cp : Nat} {l : List Int} {w : World} (h : BytesS w w.heap.size A cp l) (n : Nat) (hn : n ≤ 1000) :
 Calls Tryz.prog 90 #[.slice A l.length cp, .int .i64 n] w fun e w' => e = .returned (.int .i64 (turnB l n)) ∧ w = w' := by
 have h1 := h.cap
 have h2 := h.max
 unfold maxLen at h2
 have HTB := hide (show turnB l n = if l.length = 0 then 0 else nth l (n % l.length) from rfl)
 by_cases h0 : l.length = 0
 · have HH0 := hide h0
   rw [h0]
   clear h0
   go_enter Tryz.func90, Tryz.ntmps90
   go_wp2
   go_ret
   exact ⟨ret_i (by rw [HTB.out, if_pos HH0.out]), rfl⟩
 · have hk : n % l.length < l.length := Nat.mod_lt _ (by omega)
   obtain ⟨b, off, rfl, hb, hc⟩ := h.row (by omega)
   have r0 := hc _ hk
   rw [bytesF] at r0
   have hbd := h.bd (n % l.length)
   have hm1 : (n : Int) % (l.length : Int) = ((n % l.length : Nat) : Int) := by simp
   have hm2 : (n : Int).tmod (l.length : Int) = ((n % l.length : Nat) : Int) := by rw [Int.tmod_eq_emod_of_nonneg (by omega)]; simp
   have HH0 := hide h0
   have hz : ((l.length : Int) == 0) = false := by simpa using h0
   have hz2 : (l.length : Int) ≠ 0 := by omega
   have hz3 : (0 : Int) < (l.length : Int) := by omega
   have hn0 : (0 : Int) ≤ (n : Int) := Int.natCast_nonneg _
   have hn1 : (n : Int) ≤ 1000 := by omega
   generalize n % l.length = k at *
   have hk0 : (0 : Int) ≤ (k : Int) := Int.natCast_nonneg _
   have hk1 : (k : Int) < (l.length : Int) := by omega
   clear h0 hc h
   go_enter Tryz.func90, Tryz.ntmps90
   go_wp2
   go_ret
   exact ⟨ret_i (by rw [HTB.out, if_neg HH0.out]), rfl⟩
end Go.Proofs.YtocdmkilnbpkdaaGreatDoor
