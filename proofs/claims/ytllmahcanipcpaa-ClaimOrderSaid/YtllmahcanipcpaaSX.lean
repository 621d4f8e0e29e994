/- The plain law of chapter 11: what the program answers as long as there is a truth, and else. -/
import Derived.Test.YtllmahcanipcpaaSV
import Derived.Test.YtllmahcanipcpaaHH
set_option linter.unusedVariables false
set_option linter.unusedSimpArgs false
namespace Go.Proofs.Ytllmahcanipcpaa

def someT (f : File) : Bool := decide ((checkM f).2.2 = 0) && decide (((truthsM f []).length : Int) > 0)
theorem someT_err {f : File} : someT f = decide (errK f (checkM f).2.2 = 0) := by
  unfold someT errK
  by_cases h : (checkM f).2.2 = 0
  · by_cases h2 : (truthsM f []).length = 0
    · simp [h, h2]
    · simp [h, h2]; omega
  · simp [h]
theorem some_ok {f : File} (h : someT f = true) : Valid f ∧ (checkM f).2.2 = 0 ∧ truthsM f [] ≠ [] := by
  rw [someT, Bool.and_eq_true, decide_eq_true_eq, decide_eq_true_eq] at h
  exact ⟨valid_of h.1, h.1, fun e => by have := h.2; rw [e] at this; simp at this⟩
theorem some_mk {f : File} (hc : (checkM f).2.2 = 0) (ht : truthsM f [] ≠ []) : someT f = true := by
  rw [someT, Bool.and_eq_true, decide_eq_true_eq, decide_eq_true_eq]
  refine ⟨hc, ?_⟩
  cases h : truthsM f [] with
  | nil => exact absurd h ht
  | cons _ _ => simp
theorem enter_ok {f : File} (h : someT f = true) {n below : Int} (hn : 0 ≤ n ∧ n < below) : enterE f n below 0 = 0 := by
  obtain ⟨_, hc, ht⟩ := some_ok h
  rw [enter_err, indexM, if_neg (fun hh => by have := hh.2; rw [offP_false.2 ⟨hn.1, by omega⟩] at this; cases this), errK, if_neg (by simpa using hc), if_neg (fun e => ht (List.length_eq_zero_iff.1 e))]
theorem enter_bad {f : File} (h : someT f = false) (n below : Int) : enterE f n below 0 ≠ 0 := by
  rw [enter_err]
  intro e
  obtain ⟨e1, _, e2⟩ := errK_zero e
  unfold indexM at e1
  split at e1
  · omega
  · rw [someT, Bool.and_eq_false_iff, decide_eq_false_iff_not, decide_eq_false_iff_not] at h
    rcases h with h | h
    · exact h e1
    · omega
theorem enter_off {f : File} {n below : Int} (h : ¬ (0 ≤ n ∧ n < below)) : enterE f n below 0 ≠ 0 := by
  rw [enter_err]
  intro e
  obtain ⟨e1, _, _⟩ := errK_zero e
  exact h (index_in e1)
theorem allTo_lots {f f' : File} (h : f'.lots = f.lots) : ∀ i, allTo f' i = allTo f i
  | 0 => rfl
  | i + 1 => by rw [allTo, allTo, allTo_lots h i, h]
theorem allP_lots {f f' : File} (h : f'.lots = f.lots) : allP f' = allP f := by rw [allP, allP, allTo_lots h, h]
/-- The numbers below n of which q is so. -/
def selN (n : Nat) (q : Nat → Bool) : List Nat := (List.range n).filter q
theorem who_ok {f : File} (h : someT f = true) {l : Nat} (hl : l < f.lots.length) : whoV f l = (selN f.parties.length fun p => (truthsM f []).any fun g => withM f g l == (p : Int), 0) := by
  rw [whoV, if_pos (enter_ok h (by omega)), whoL, truthsB_zero, selN, Int.toNat_natCast]
  congr 1
  refine List.filter_congr fun p _ => ?_
  rw [List.any_map]
  congr 1
  funext g
  simp only [Function.comp, withM_mkP]
theorem told3_mapX (f : File) (G : List (List Int)) (q : List Int → Bool) (hq : ∀ g, q (mkP f g) = q g) : told3 (G.map (mkP f)) q = told3 G q := by
  have h : (q ∘ mkP f) = q := by funext g; exact hq g
  rw [told3, told3, List.all_map, List.any_map, h]
theorem pay_ok {f : File} (h : someT f = true) {n : Nat} (hn : n < f.claims.length) : payV f n = (told3 (truthsM f []) fun g => paidB f g n, 0) := by
  rw [payV, if_pos (enter_ok h (by omega)), truthsB_zero, told3_mapX f _ _ (fun g => paidB_mkP f g _), Int.toNat_natCast]
theorem pay_bad {f : File} (h : someT f = false) (n : Int) : ∃ e, payV f n = (0, e) ∧ e ≠ 0 := ⟨_, by rw [payV, if_neg (enter_bad h _ _)], enter_bad h _ _⟩
theorem pay_off {f : File} {n : Int} (h : ¬ (0 ≤ n ∧ n < f.claims.length)) : ∃ e, payV f n = (0, e) ∧ e ≠ 0 := ⟨_, by rw [payV, if_neg (enter_off h)], enter_off h⟩
theorem held_ok {f : File} (h : someT f = true) : heldV f = (selN f.claims.length fun n => (truthsM f []).any (fun g => paidB f g n) && !(truthsM f []).all (fun g => paidB f g n), 0) := by
  rw [heldV, if_pos (enter_ok h (by omega)), heldL, truthsB_zero, selN]
  congr 1
  refine List.filter_congr fun n _ => ?_
  rw [List.any_map, List.all_map]
  congr 2
  · funext g; simp only [Function.comp, paidB_mkP]
  · congr 1; funext g; simp only [Function.comp, paidB_mkP]
theorem held_bad {f : File} (h : someT f = false) : ∃ e, heldV f = ([], e) ∧ e ≠ 0 := ⟨_, by rw [heldV, if_neg (enter_bad h _ _)], enter_bad h _ _⟩
theorem open_ok {f : File} (h : someT f = true) : openV f = (selN f.lots.length fun l => !(truthsM f []).all fun g => settlesB f g l, 0) := by
  rw [openV, if_pos (enter_ok h (by omega)), openTo, truthsB_zero, selN]
  congr 1
  refine List.filter_congr fun n _ => ?_
  rw [List.all_map]
  congr 2
  funext g
  simp only [Function.comp, paysB_eq, settlesB_mkP]
theorem open_bad {f : File} (h : someT f = false) : ∃ e, openV f = ([], e) ∧ e ≠ 0 := ⟨_, by rw [openV, if_neg (enter_bad h _ _)], enter_bad h _ _⟩
/-- What a span of sums is: all are within, and both ends are sums. -/
def SpanOk (f : File) (party : Int) (T : List (List Int)) (s : Span) : Prop :=
  (∀ g ∈ T, s.lo ≤ sumM f g party ∧ sumM f g party ≤ s.hi) ∧ (∃ g ∈ T, s.lo = sumM f g party) ∧ ∃ g ∈ T, s.hi = sumM f g party
theorem sumTo_mkX (f : File) (g : List Int) (party : Int) : ∀ k, sumTo f (mkP f g) party k = sumTo f g party k
  | 0 => rfl
  | k + 1 => by rw [sumTo, sumTo, sumTo_mkX f g party k, paidB_mkP]
theorem sumM_mkX (f : File) (g : List Int) (party : Int) : sumM f (mkP f g) party = sumM f g party := sumTo_mkX f g party _
theorem owe_span (f : File) (party : Int) : ∀ (T : List (List Int)) (s : Span), ∃ s', (T.map (mkP f)).foldl (oweF f party) (some s) = some s' ∧ (∀ g ∈ T, s'.lo ≤ sumM f g party ∧ sumM f g party ≤ s'.hi) ∧ s'.lo ≤ s.lo ∧ s.hi ≤ s'.hi ∧
      (s'.lo = s.lo ∨ ∃ g ∈ T, s'.lo = sumM f g party) ∧ (s'.hi = s.hi ∨ ∃ g ∈ T, s'.hi = sumM f g party)
  | [], s => ⟨s, rfl, fun g hg => by simp at hg, Int.le_refl _, Int.le_refl _, .inl rfl, .inl rfl⟩
  | g :: T, s => by
    obtain ⟨s', h1, h2, h3, h4, h5, h6⟩ := owe_span f party T ⟨min s.lo (sumM f g party), max s.hi (sumM f g party)⟩
    have h3' : s'.lo ≤ min s.lo (sumM f g party) := h3
    have h4' : max s.hi (sumM f g party) ≤ s'.hi := h4
    clear h3 h4
    refine ⟨s', ?_, fun x hx => ?_, by clear h5 h6; omega, by clear h5 h6; omega, ?_, ?_⟩
    · rw [List.map_cons, List.foldl_cons, ← h1]
      congr 1
      simp only [oweF, sumM_mkX]
    · clear h5 h6
      rcases List.mem_cons.1 hx with rfl | hx
      · omega
      · exact h2 x hx
    · rcases h5 with h5 | ⟨x, hx, h5⟩
      · have h5' : s'.lo = min s.lo (sumM f g party) := h5
        clear h5 h6
        rcases Int.le_total s.lo (sumM f g party) with h | h
        · exact .inl (by omega)
        · exact .inr ⟨g, List.mem_cons_self .., by omega⟩
      · exact .inr ⟨x, List.mem_cons_of_mem _ hx, h5⟩
    · rcases h6 with h6 | ⟨x, hx, h6⟩
      · have h6' : s'.hi = max s.hi (sumM f g party) := h6
        clear h5 h6
        rcases Int.le_total s.hi (sumM f g party) with h | h
        · exact .inr ⟨g, List.mem_cons_self .., by omega⟩
        · exact .inl (by omega)
      · exact .inr ⟨x, List.mem_cons_of_mem _ hx, h6⟩
theorem owes_ok {f : File} (h : someT f = true) {p : Nat} (hp : p < f.parties.length) : ∃ s, owesV f p = (s, 0) ∧ SpanOk f p (truthsM f []) s := by
  obtain ⟨_, _, ht⟩ := some_ok h
  cases hT : truthsM f [] with
  | nil => exact absurd hT ht
  | cons g T =>
    obtain ⟨s', h1, h2, h3, h4, h5, h6⟩ := owe_span f p T ⟨sumM f g p, sumM f g p⟩
    refine ⟨s', ?_, fun x hx => ?_, ?_, ?_⟩
    · rw [owesV, if_pos (enter_ok h (by omega)), truthsB_zero, hT, oweP, oweS, List.map_cons, List.foldl_cons]
      rw [show oweF f p none (mkP f g) = some ⟨sumM f g p, sumM f g p⟩ by simp only [oweF, sumM_mkX], h1]
      rfl
    · rcases List.mem_cons.1 hx with rfl | hx
      · exact ⟨h3, h4⟩
      · exact h2 x hx
    · rcases h5 with h5 | ⟨x, hx, h5⟩
      · exact ⟨g, List.mem_cons_self .., h5⟩
      · exact ⟨x, List.mem_cons_of_mem _ hx, h5⟩
    · rcases h6 with h6 | ⟨x, hx, h6⟩
      · exact ⟨g, List.mem_cons_self .., h6⟩
      · exact ⟨x, List.mem_cons_of_mem _ hx, h6⟩
theorem SpanOk.unique {f f' : File} {party party' : Int} {T T' : List (List Int)} {s s' : Span} (h : SpanOk f party T s) (h' : SpanOk f' party' T' s') (ha : ∀ g ∈ T, ∃ g' ∈ T', sumM f' g' party' = sumM f g party) (hb : ∀ g' ∈ T', ∃ g ∈ T, sumM f g party = sumM f' g' party') : s = s' := by
  obtain ⟨h1, ⟨a, ha1, ha2⟩, b, hb1, hb2⟩ := h
  obtain ⟨h2, ⟨c, hc1, hc2⟩, d, hd1, hd2⟩ := h'
  obtain ⟨a', x1, x2⟩ := ha a ha1
  obtain ⟨b', x3, x4⟩ := ha b hb1
  obtain ⟨c', x5, x6⟩ := hb c hc1
  obtain ⟨d', x7, x8⟩ := hb d hd1
  have y1 := h2 a' x1
  have y2 := h2 b' x3
  have y3 := h1 c' x5
  have y4 := h1 d' x7
  obtain ⟨lo, hi⟩ := s
  obtain ⟨lo', hi'⟩ := s'
  simp only at *
  have e1 : lo = lo' := by omega
  have e2 : hi = hi' := by omega
  rw [e1, e2]
theorem SpanOk.sub {f f' : File} {party party' : Int} {T T' : List (List Int)} {s s' : Span} (h : SpanOk f party T s) (h' : SpanOk f' party' T' s') (hb : ∀ g' ∈ T', ∃ g ∈ T, sumM f g party = sumM f' g' party') : s.lo ≤ s'.lo ∧ s'.hi ≤ s.hi := by
  obtain ⟨h1, _, _⟩ := h
  obtain ⟨_, ⟨c, hc1, hc2⟩, d, hd1, hd2⟩ := h'
  obtain ⟨c', x5, x6⟩ := hb c hc1
  obtain ⟨d', x7, x8⟩ := hb d hd1
  have y3 := h1 c' x5
  have y4 := h1 d' x7
  omega
theorem rising_filter (p : Nat → Bool) (n : Nat) : ∀ k last : Int, k = k → ∀ m : Nat, last < (m : Int) → risingB (natInts (((List.range n).drop m).filter p)) last n = true := by
  intro k last _ m
  by_cases hm : n ≤ m
  · intro _
    rw [List.drop_of_length_le (by simpa using hm)]; rfl
  · intro hl
    have hm' : m < n := by omega
    have e : (List.range n).drop m = m :: (List.range n).drop (m + 1) := by
      rw [List.drop_eq_getElem_cons (by simpa using hm')]; simp
    have ih := fun last' => rising_filter p n 0 last' rfl (m + 1)
    rw [e, List.filter_cons]
    by_cases hp : p m = true
    · rw [if_pos hp]
      show risingB ((m : Int) :: natInts _) last n = true
      rw [risingB, if_neg (by omega)]
      exact ih _ (by omega)
    · rw [if_neg hp]
      exact ih _ (by omega)
termination_by _ _ _ m => n - m
theorem rising_sel (q : Nat → Bool) (n : Nat) : risingB (natInts (selN n q)) (-1) n = true := by
  have := rising_filter q n 0 (-1) rfl 0 (by omega)
  simpa [selN] using this
theorem has_sel {q : Nat → Bool} {n i : Nat} : hasInt (natInts (selN n q)) i = (decide (i < n) && q i) := by
  rw [Bool.eq_iff_iff, hasInt, List.any_eq_true]
  simp only [selN, natInts, List.mem_map, List.mem_filter, List.mem_range, beq_iff_eq, Bool.and_eq_true, decide_eq_true_eq]
  constructor
  · rintro ⟨x, ⟨k, hk, rfl⟩, e⟩
    obtain rfl : k = i := by omega
    exact hk
  · intro h; exact ⟨_, ⟨i, h, rfl⟩, rfl⟩
theorem sub_sel {q r : Nat → Bool} {n m : Nat} (hnm : n ≤ m) (h : ∀ i, i < n → q i = true → r i = true) : (natInts (selN n q)).all (hasInt (natInts (selN m r))) = true := by
  rw [List.all_eq_true]
  intro x hx
  simp only [natInts, selN, List.mem_map, List.mem_filter, List.mem_range] at hx
  obtain ⟨i, ⟨hi, hq⟩, rfl⟩ := hx
  show hasInt (natInts (selN m r)) ((i : Nat) : Int) = true
  rw [has_sel, decide_eq_true (show i < m by omega), h i hi hq]; rfl
theorem told3_must {T : List (List Int)} {q : List Int → Bool} (h : T ≠ []) : (told3 T q = 1 ↔ T.all q = true) ∧ (told3 T q = 2 ↔ T.any q = false) := by
  unfold told3
  cases ha : T.all q <;> cases hb : T.any q <;> simp
  rw [List.any_eq_false] at hb
  rw [List.all_eq_true] at ha
  cases T with
  | nil => exact absurd rfl h
  | cons x l => exact absurd (ha x (List.mem_cons_self ..)) (hb x (List.mem_cons_self ..))
end Go.Proofs.Ytllmahcanipcpaa
