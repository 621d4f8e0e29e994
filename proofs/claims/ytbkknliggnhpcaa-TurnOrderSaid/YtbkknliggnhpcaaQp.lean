/- The plain law of TurnAlone: one lot less. -/
import Derived.Test.YtbkknliggnhpcaaQo
set_option linter.unusedVariables false
set_option linter.unusedSimpArgs false
namespace Go.Proofs.Ytbkknliggnhpcaa

theorem nth_app' {α : Type} [Inhabited α] {a b : List α} (k : Nat) : nth (a ++ b) k = if k < a.length then nth a k else nth b (k - a.length) := by
  split
  · rename_i h; simp [nth, List.getElem?_append_left h]
  · rename_i h; simp [nth, List.getElem?_append_right (Nat.le_of_not_lt h)]
theorem nth_take' {α : Type} [Inhabited α] {a : List α} {n k : Nat} (h : k < n) : nth (a.take n) k = nth a k := by simp [nth, h]
theorem nth_drop' {α : Type} [Inhabited α] {a : List α} {n k : Nat} : nth (a.drop n) k = nth a (n + k) := by simp [nth]
def bareC (c : Cargo) : Cargo := { c with seen := [] }
def lessC (c : Cargo) (a : Nat) : Cargo := { c with lots := c.lots.take a ++ c.lots.drop (a + 1), seen := [] }
def upI (a i : Nat) : Nat := if i < a then i else i + 1
def downI (n a j : Nat) : Nat := if j < a then j else if j = a then n else j - 1
theorem bare_valid {c : Cargo} (hv : Valid c) : Valid (bareC c) := ⟨hv.hours, hv.heat, hv.gas, hv.holds, hv.warm, hv.lots, hv.lot, by simp [bareC], fun i hi => by simp [bareC] at hi⟩
section
variable {c : Cargo} {a : Nat} (ha : a < c.lots.length)
include ha
theorem less_len : (lessC c a).lots.length = c.lots.length - 1 := by simp [lessC]; omega
theorem less_nth (i : Nat) : nth (lessC c a).lots i = nth c.lots (upI a i) := by
  have e : (c.lots.take a).length = a := by simp; omega
  show nth (c.lots.take a ++ c.lots.drop (a + 1)) i = _
  rw [nth_app', e, upI]
  by_cases h : i < a
  · rw [if_pos h, if_pos h, nth_take' h]
  · rw [if_neg h, if_neg h, nth_drop']; congr 1; omega
theorem less_valid (hv : Valid c) : Valid (lessC c a) := by
  have hl := less_len ha
  refine ⟨hv.hours, hv.heat, hv.gas, hv.holds, hv.warm, by have := hv.lots; omega, fun i hi => ?_, by simp [lessC], fun i hi => by simp [lessC] at hi⟩
  rw [less_nth ha]
  refine hv.lot _ ?_
  rw [upI]; split <;> omega
theorem less_twin (h : Nat) : Twin (bareC c) (lessC c a) (upI a) h := by
  have hl := less_len ha
  refine ⟨rfl, fun i hi => ?_, fun i j hi hj e => ?_, fun i hi => ?_, fun i hi => ?_⟩
  · show upI a i < c.lots.length
    rw [upI]; split <;> omega
  · rw [upI, upI] at e
    split at e <;> split at e <;> omega
  · rw [less_nth ha]; rfl
  · rw [less_nth ha]; rfl
end
theorem span_never {n : Nat} {H : List Int} (h : ∀ x ∈ H, x = (n : Int) + 1) (s : Bool × List Int) : (H.foldl (spanStep n) s).2 = s.2 := by
  induction H generalizing s with
  | nil => rfl
  | cons x t ih =>
    rw [List.foldl_cons, ih (fun y hy => h y (by simp [hy])), spanStep]
    simp only
    rw [if_pos (h x (by simp))]
/-- What Turns says depends on which hours there are. -/
theorem span_set {n : Nat} {H H' : List Int} (h0 : H ≠ []) (h0' : H' ≠ []) (h : ∀ x ∈ H, x ∈ H') (h' : ∀ x ∈ H', x ∈ H) : spanH n H = spanH n H' ∧ setH n H = setH n H' := by
  obtain ⟨a1, a2⟩ := settled_some (n := n) h0
  obtain ⟨b1, b2⟩ := settled_some (n := n) h0'
  constructor
  · by_cases hn : ∀ x ∈ H, x = (n : Int) + 1
    · rw [spanH, spanH, span_never hn, span_never (fun x hx => hn x (h' x hx))]
    · obtain ⟨lo, hi, e1, _, e3, e4⟩ := span_fold (n := n) H (true, [0, 0]) 0 0 rfl
      obtain ⟨lo', hi', f1, _, f3, f4⟩ := span_fold (n := n) H' (true, [0, 0]) 0 0 rfl
      rw [spanH, spanH, e1, f1]
      rcases e4 with ⟨_, e4⟩ | ⟨e4, e5⟩
      · exact absurd e4 hn
      · rcases f4 with ⟨_, f4⟩ | ⟨f4, f5⟩
        · exact absurd (fun x hx => f4 x (h x hx)) hn
        · have g1 : lo ∈ H ∧ lo ≠ (n : Int) + 1 := by rcases e4 with h | h; exact h; exact absurd h.1 (by simp)
          have g2 : hi ∈ H ∧ hi ≠ (n : Int) + 1 := by rcases e5 with h | h; exact h; exact absurd h.1 (by simp)
          have g3 : lo' ∈ H' ∧ lo' ≠ (n : Int) + 1 := by rcases f4 with h | h; exact h; exact absurd h.1 (by simp)
          have g4 : hi' ∈ H' ∧ hi' ≠ (n : Int) + 1 := by rcases f5 with h | h; exact h; exact absurd h.1 (by simp)
          have k1 := (f3 lo (h lo g1.1) g1.2).1
          have k2 := (f3 hi (h hi g2.1) g2.2).2
          have k3 := (e3 lo' (h' lo' g3.1) g3.2).1
          have k4 := (e3 hi' (h' hi' g4.1) g4.2).2
          obtain rfl : lo = lo' := by omega
          obtain rfl : hi = hi' := by omega
          rfl
  · have c1 : setH n H = 1 ↔ setH n H' = 1 := by
      rw [setH, setH, a1, b1]; exact ⟨fun g x hx => g x (h' x hx), fun g x hx => g x (h x hx)⟩
    have c2 : setH n H = 2 ↔ setH n H' = 2 := by
      rw [setH, setH, a2, b2]; exact ⟨fun g x hx => g x (h' x hx), fun g x hx => g x (h x hx)⟩
    have c3 : ∀ H : List Int, setH n H = 1 ∨ setH n H = 2 ∨ setH n H = 0 := fun H => by
      rw [setH, settledM]; split
      · exact .inl rfl
      · split
        · exact .inr (.inl rfl)
        · exact .inr (.inr rfl)
    rcases c3 H with h1 | h1 | h1 <;> rcases c3 H' with h2 | h2 | h2 <;> omega
/-- Turns says the same of lots that belong together. -/
theorem Twin.same {c d : Cargo} {σ τ : Nat → Nat} {i : Nat} (hv : Valid c) (hv' : Valid d) (hs : c.seen = []) (hs' : d.seen = []) (hi : i < d.lots.length) (t : Twin c d σ (nth d.lots i).hold.toNat) (hl : c.heat = d.heat) (hg : c.gas = d.gas)
    (hgr : ∀ i, i < d.lots.length → (nth c.lots (σ i)).green = (nth d.lots i).green) (back : ∀ j ∈ ofL c (nth d.lots i).hold.toNat [], τ j ∈ ofL d (nth d.lots i).hold.toNat [] → σ (τ j) = j) (inv : ∀ i, i < d.lots.length → τ (σ i) = i)
    (all : (∀ j ∈ ofL c (nth d.lots i).hold.toNat [], τ j ∈ ofL d (nth d.lots i).hold.toNat []) ∨ c.gas = 0) : (turnsR c (σ i)).1 = (turnsR d i).1 := by
  have hic := t.rng i hi
  have hd := hv'.lot i hi
  have hmem : i ∈ ofL d (nth d.lots i).hold.toNat [] := ofL_iff.2 ⟨hi, by omega⟩
  have ec : (nth c.lots (σ i)).hold = (nth d.lots i).hold := t.hold i hi
  rw [(turnsR_parts hv (some_bare hv hs) hic).2, (turnsR_parts hv' (some_bare hv' hs') hi).2, hl]
  obtain ⟨e1, e2⟩ := span_set (n := d.heat.length) (hours_ne hv (some_bare hv hs) hic) (hours_ne hv' (some_bare hv' hs') hi) (fun x hx => by
    rw [hoursM, List.mem_map, ways_bare hs, ec] at hx
    obtain ⟨q, hq, rfl⟩ := hx
    obtain ⟨p, hp, e, hr⟩ := t.down hv' (R := fun y x => y = x) (fun i hi _ y hy => ⟨y, by rw [← hgr i hi]; exact hy, rfl⟩) hq
    rw [hoursM, List.mem_map, ways_bare hs']
    exact ⟨p, hp, (t.eq_ hl hg hv.gas.1 back inv all hp hq e.symm hr hmem).symm⟩) (fun x hx => by
    rw [hoursM, List.mem_map, ways_bare hs'] at hx
    obtain ⟨p, hp, rfl⟩ := hx
    obtain ⟨q, hq, e, hr⟩ := t.lift hv (R := fun y x => y = x) (fun i hi _ y hy => ⟨y, by rw [hgr i hi]; exact hy, rfl⟩) hp
    rw [hoursM, List.mem_map, ways_bare hs, ec]
    exact ⟨q, hq, t.eq_ hl hg hv.gas.1 back inv all hp hq e hr hmem⟩)
  rw [e1, e2]
def nowI (a b : Nat) : Nat := if a < b then b - 1 else b
structure AloneOk (c : Cargo) (a b : Nat) : Prop where
  e : (turnsR (bareC c) b).2 = 0
  f : (turnsR (lessC c a) (nowI a b)).2 = 0
  later : laterT (turnsR (lessC c a) (nowI a b)).1 (turnsR (bareC c) b).1 = true
  same : ¬ ((nth c.lots a).hold = (nth c.lots b).hold ∧ 0 < c.gas) → (turnsR (bareC c) b).1 = (turnsR (lessC c a) (nowI a b)).1
theorem alone_ok {c : Cargo} (hv : Valid c) {a b : Nat} (ha : a < c.lots.length) (hb : b < c.lots.length) (hab : a ≠ b) : AloneOk c a b := by
  have hl := less_len ha
  have hn : nowI a b < (lessC c a).lots.length := by rw [nowI]; split <;> omega
  have hu : upI a (nowI a b) = b := by rw [nowI]; split <;> rw [upI] <;> split <;> omega
  have v1 := bare_valid hv
  have v2 := less_valid ha hv
  have hg : ∀ i, i < (lessC c a).lots.length → (nth (bareC c).lots (upI a i)).green = (nth (lessC c a).lots i).green := fun i hi => by rw [less_nth ha]; rfl
  have hnb : nth (lessC c a).lots (nowI a b) = nth c.lots b := by rw [less_nth ha, hu]
  have hb' : b < (bareC c).lots.length := hb
  have hlat := Twin.later v1 v2 rfl rfl hn (less_twin ha _) rfl (fun k => Int.le_refl _) (Int.le_refl _) (fun i hi x hx => ⟨x, by rw [hg i hi]; exact hx, Int.le_refl _⟩) (fun i hi x hx => ⟨x, by rw [← hg i hi]; exact hx, Int.le_refl _⟩)
  rw [hu] at hlat
  refine ⟨(turnsR_parts v1 (some_bare v1 rfl) hb').1, (turnsR_parts v2 (some_bare v2 rfl) hn).1, hlat, fun hne => ?_⟩
  have hdn : ∀ j, j < c.lots.length → downI c.lots.length a j < (lessC c a).lots.length → upI a (downI c.lots.length a j) = j ∧ j ≠ a := fun j hj h => by
    rw [downI] at h ⊢
    split at h
    · rename_i h1; rw [if_pos h1, upI, if_pos h1]; exact ⟨rfl, by omega⟩
    · rename_i h1
      split at h
      · omega
      · rename_i h2; rw [if_neg h1, if_neg h2, upI, if_neg (by omega)]; omega
  have := Twin.same (τ := downI c.lots.length a) v1 v2 rfl rfl hn (less_twin ha _) rfl rfl hg
    (fun j hj hk => (hdn j (ofL_iff.1 hj).1 (ofL_iff.1 hk).1).1)
    (fun i hi => by
      rw [upI, downI]
      by_cases h : i < a
      · rw [if_pos h, if_pos h]
      · rw [if_neg h, if_neg (by omega), if_neg (by omega)]; omega) (by
      by_cases h0 : c.gas = 0
      · exact .inr h0
      · left
        have hg0 := hv.gas
        have hd : (nth c.lots a).hold ≠ (nth c.lots b).hold := fun e => hne ⟨e, by omega⟩
        intro j hj
        rw [ofL_iff] at hj ⊢
        obtain ⟨h1, h2⟩ := hj
        rw [hnb] at h2 ⊢
        have h1' : j < c.lots.length := h1
        have h2' : (nth c.lots j).hold = ((nth c.lots b).hold.toNat : Int) := h2
        have hbb := hv.lot b hb
        have hja : j ≠ a := fun e => by subst e; omega
        have h3 : downI c.lots.length a j < (lessC c a).lots.length := by
          rw [downI]
          by_cases h5 : j < a
          · rw [if_pos h5]; omega
          · rw [if_neg h5, if_neg hja]; omega
        refine ⟨h3, ?_⟩
        rw [less_nth ha, (hdn j h1' h3).1]; exact h2')
  rw [hu] at this
  exact this
/-- Without a truth, or of fewer than two lots, Spoils says an error. -/
theorem spoils_err {c : Cargo} (h : someL c = false ∨ c.lots.length < 2) : (spoilsR c 0 1).2 ≠ 0 := by
  have h1 : spoilsE7 c 0 1 ≠ 0 := fun e => by
    obtain ⟨hv, hs, _, _, _, h3, _⟩ := spoilsE7_valid e
    rcases h with h | h
    · rw [someL, valid_check hv, hs] at h; simp at h
    · omega
  rw [spoilsR, if_pos h1]; exact h1
theorem spoils_self {c : Cargo} (hv : Valid c) {a : Nat} (ha : a < c.lots.length) : spoilsR c a a = (0, 2) := by
  have h1 : spoilsE7 c a a = 2 := by
    rw [spoilsE7, askIdx2, indexE_ok hv (by omega)]
    simp [truthE]
  rw [spoilsR, h1]; simp
theorem spoils_two {c : Cargo} (hv : Valid c) (hs : someM c [] = true) {a b : Nat} (ha : a < c.lots.length) (hb : b < c.lots.length) (hab : a ≠ b) :
    (spoilsR c a b).2 = 0 ∧ (c.gas = 0 ∨ (nth c.lots a).hold ≠ (nth c.lots b).hold → (spoilsR c a b).1 = 2) := by
  have h1 : spoilsE7 c a b = 0 := by
    have hne : ¬ ((a : Int) = (b : Int)) := by omega
    rw [spoilsE7, askIdx2, indexE_ok hv (by omega), indexE_ok hv (by omega)]
    simp [hne, truthE, hs]
  rw [spoilsR, if_neg (by simp [h1])]
  refine ⟨rfl, fun hg => ?_⟩
  have hh := (lot_hold hv hb).1
  have he := (lot_hold hv hb).2
  simp only [Int.toNat_natCast]
  have hw := some_ways hs hh
  have hz : (waysM c (nth c.lots b).hold.toNat []).filter (spoilsB c (nth c.lots b).hold.toNat a b) = [] := by
    rw [List.filter_eq_nil_iff]
    intro p hp
    have hp' := waysM_mem hv hh hp
    rw [spoilsB, timesW, decide_eq_true_eq]
    have hbm : b ∈ ofL c (nth c.lots b).hold.toNat [] := ofL_iff.2 ⟨hb, he.symm⟩
    have hsub : ∀ i, i ∈ ofL c (nth c.lots b).hold.toNat [(a : Int)] ↔ i ∈ ofL c (nth c.lots b).hold.toNat [] ∧ i ≠ a := fun i => by
      rw [← List.contains_iff_mem, ofL_mem, ofL_iff]
      simp [hasInt, and_assoc]
      intro _ _
      constructor <;> intro h <;> omega
    have hbm' : b ∈ ofL c (nth c.lots b).hold.toNat [(a : Int)] := (hsub b).2 ⟨hbm, fun e => hab e.symm⟩
    have s : Sim c c (ofL c (nth c.lots b).hold.toNat [(a : Int)]) (ofL c (nth c.lots b).hold.toNat []) p.2 p.2 id :=
      { len := rfl, heat := fun _ => Int.le_refl _, gas := ⟨hv.gas.1, Int.le_refl _⟩, frm := fun _ _ _ => rfl, green := fun _ _ _ => Int.le_refl _
        inD := fun i hi => by rw [hp'.2.1]; exact ofL_lt i hi
        inC := fun i hi => by rw [hp'.2.1]; exact ofL_lt i hi
        all := by
          rcases hg with hg | hg
          · exact .inr hg
          · left; intro i hi
            refine (hsub i).2 ⟨hi, fun e => hg ?_⟩
            have := (ofL_iff.1 hi).2
            subst e; omega }
    have := s.times (w := p.1) hbm hbm' hb hb
    exact Int.not_lt.2 this
  rw [hz]
  have : (waysM c (nth c.lots b).hold.toNat []).length ≠ 0 := fun e => hw (List.eq_nil_of_length_eq_zero e)
  rw [settledM, if_neg (by simp only [List.length_nil]; omega)]
  simp
end Go.Proofs.Ytbkknliggnhpcaa
