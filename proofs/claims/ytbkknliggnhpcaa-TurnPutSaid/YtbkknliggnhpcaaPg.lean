/- The plain law of Put: what turn's Put answers is what the reference's does. -/
import Derived.Test.YtbkknliggnhpcaaRefR
import Derived.Test.YtbkknliggnhpcaaPc
import Derived.Test.YtbkknliggnhpcaaPh
set_option linter.unusedVariables false
set_option linter.unusedSimpArgs false
namespace Go.Proofs.Ytbkknliggnhpcaa

theorem enterE_eq' {c : Cargo} {xs : List (Bool × Int)} (hx : ∀ x ∈ xs, x.1 = true → x.2 ≠ 0) : enterE c xs = truthE c (askE c xs) := by
  unfold enterE askE truthE
  by_cases h : (checkM c).2.2 = 0
  · rw [if_neg (by simpa using h), if_pos h]
    cases hf : firstAsk xs with
    | some x =>
      have := hx x (firstAsk_mem hf) (List.find?_some (p := fun x : Bool × Int => x.1) hf)
      simp only
      rw [if_neg (fun h => this h.1)]
    | none =>
      simp only [true_and]
      rw [someS_zero (valid_of h)]
      cases someM c [] <;> simp
  · rw [if_pos h, if_neg h, if_neg (fun h' => h h'.1)]
theorem putAsk_eq (c : Cargo) (lo hi frm un : Int) : askE c (putAsk c lo hi frm un) = putA c lo hi frm un := by
  rw [askE, putAsk, firstAsk_cons, firstAsk_cons, firstAsk_cons, firstAsk_nil, noneQ_off2, show (c.heat.length : Int) + 1 - 1 = c.heat.length by omega]
  unfold putA hourE widthG
  simp only
  generalize widthM ⟨lo, hi⟩ 40 = s
  generalize (checkM c).2.2 = e
  generalize offP 0 (c.heat.length : Int) frm = a
  generalize offP 0 (c.heat.length : Int) un = b
  by_cases he : e = 0
  · subst he
    by_cases hs : s = 7
    · subst hs; cases a <;> cases b <;> simp
    · by_cases hs0 : s = 0
      · subst hs0; cases a <;> cases b <;> by_cases hu : un ≤ frm <;> simp [hu]
      · cases a <;> cases b <;> by_cases hu : un ≤ frm <;> simp [hu, hs, hs0]
  · cases a <;> cases b <;> simp [he]
theorem putE_eq (c : Cargo) (lo hi frm un : Int) : enterE c (putAsk c lo hi frm un) = putE7 c lo hi frm un := by
  rw [enterE_eq', putAsk_eq, putE7]
  intro x hx
  simp only [putAsk, List.mem_cons, List.not_mem_nil, or_false] at hx
  rcases hx with rfl | rfl | rfl
  · intro _; show (7 : Int) ≠ 0; decide
  · intro h; have : widthG lo hi = 7 := by simpa using h
    rw [this]; decide
  · intro _; show (2 : Int) ≠ 0; decide
theorem nth_more {c : Cargo} {x : Lot} (i : Nat) : nth (withLot c x).lots i = if i < c.lots.length then nth c.lots i else if i = c.lots.length then x else default := by
  show nth (c.lots ++ [x]) i = _
  split
  · rename_i h; simp [nth, List.getElem?_append_left h]
  · split
    · rename_i h; subst h; simp [nth]
    · rename_i h1 h2
      rw [nth_out (by simp; omega)]
theorem setL_or {a n i : Nat} (hn : n < 5) (ha : a < 2 ^ n) : (setL (((a ||| 2 ^ n : Nat) : Int)).toNat (n + 1)).contains i = (decide (i < n + 1) && (a.testBit i || decide (i = n))) := by
  rw [setL_mem, Int.toNat_natCast, Nat.testBit_or, Nat.testBit_two_pow]
  by_cases h : n = i
  · subst h; simp
  · have : ¬ i = n := fun e => h e.symm
    simp [h, this]
/-- The hours with the lot put in, as the reference reckons them. -/
theorem then_eq {c : Cargo} (hv : Valid c) {hd : Nat} {p : Int × List Int} (hp2 : p.2.length = c.lots.length) (lo hi frm n : Int) {q : Nat} (hq : q < c.lots.length + 1) :
    nth (timesV (withLot c ⟨hd, frm, ⟨lo, hi⟩⟩) (putSt (stW c hd p) c.lots.length n)) q = nth (thenM c hd n frm p.1 p.2) q := by
  have hn := hv.lots
  have hml : (withLot c ⟨hd, frm, ⟨n, n⟩⟩).lots.length = c.lots.length + 1 := by simp [withLot]
  rw [timesV_cargo (c := withLot c ⟨hd, frm, ⟨lo, hi⟩⟩) (c' := withLot c ⟨hd, frm, ⟨n, n⟩⟩) rfl rfl (fun i => by rw [nth_more, nth_more]; split; rfl; split <;> rfl) (by simp [withLot])]
  have hgl := mk_len (c := c) (hold := (hd : Int)) (wm := p.1) (by omega) hp2
  have hb := ofB_lt c (hd : Int) c.lots.length
  refine timesV_eq (c := withLot c ⟨hd, frm, ⟨n, n⟩⟩) (s := putSt (stW c hd p) c.lots.length n) (l := ofL (withLot c ⟨hd, frm, ⟨n, n⟩⟩) hd []) (g := p.2 ++ [n]) (by omega) (by simp [hml, hp2]) (by show (List.set _ _ _).length = 5; rw [List.length_set]; exact hgl) (fun i hi => ?_) (fun i => ?_) (by omega)
  · show nth ((mkSt c hd p.1 p.2).greens.set c.lots.length n) i = _
    rw [nth_set5 (by omega), nth_app, hp2]
    by_cases e : i = c.lots.length
    · rw [if_pos e, if_neg (by omega), e, Nat.sub_self]; rfl
    · rw [if_neg e, if_pos (by omega), mk_greens hp2 (by omega)]
  · rw [hml]
    show (setL (((((ofB c (hd : Int) c.lots.length : Nat) : Int).toNat ||| 2 ^ c.lots.length : Nat) : Int)).toNat (c.lots.length + 1)).contains i = _
    rw [ofL_mem, hml]
    have := setL_or (i := i) (show c.lots.length < 5 by omega) hb
    simp only [Int.toNat_natCast] at this ⊢
    rw [this, nth_more]
    by_cases hi : i < c.lots.length + 1
    · by_cases e : i = c.lots.length
      · subst e; simp [hasInt_nil]
      · rw [there_bit c (hd : Int) _ _ (by omega), if_pos (by omega)]
        simp [hi, e, hasInt_nil]; rfl
    · simp [hi]
theorem fit_eq {c : Cargo} (hv : Valid c) {hd : Nat} (hh : hd < c.holds.length) {p : Int × List Int} (hp : p ∈ waysM c hd []) (lo hi frm un n : Int) :
    fitN (withLot c ⟨hd, frm, ⟨lo, hi⟩⟩) c.lots.length un (timesV c (stW c hd p)) (stW c hd p) n = fitsB c hd n frm un p := by
  have hl := hv.lots
  obtain ⟨_, h2, _⟩ := waysM_mem hv hh hp
  have ht := fun q (hq : q < c.lots.length + 1) => then_eq hv (hd := hd) h2 lo hi frm n hq
  rw [fitN, fitsB, ht _ (Nat.lt_succ_self _)]
  congr 1
  rw [Bool.eq_iff_iff, same5_iff, List.all_eq_true]
  have h5 : ∀ x : List Int, ∀ q, q < 5 → nth (L5 x) q = nth x q := fun x q hq => by
    match q, hq with
    | 0, _ => rfl
    | 1, _ => rfl
    | 2, _ => rfl
    | 3, _ => rfl
    | 4, _ => rfl
  have hw := fun q (hq : q < c.lots.length) => nth_timesW hv hh hp hq
  constructor
  · intro h q hq
    have hq2 := ofL_lt q hq
    have := h q (by omega)
    rw [nth_set5 (by simp [L5]; omega), if_neg (by omega), h5 _ _ (by omega), ht q (by omega), hw q hq2] at this
    rw [beq_iff_eq]; exact this
  · intro h q hq
    rw [nth_set5 (by simp [L5]; omega)]
    split
    · rename_i e; rw [e]
    · rename_i e
      rw [h5 _ _ hq]
      rcases Nat.lt_or_ge q c.lots.length with hq2 | hq2
      · rw [ht q (by omega), hw q hq2]
        by_cases hm : q ∈ ofL c hd []
        · have := h q hm; rw [beq_iff_eq] at this; exact this
        · have hc : (ofL c (hd : Int) []).contains q = false := by simpa using hm
          rw [timesW, timesM_out hc hq2, thenM, timesM_out (c := moreC c hd n frm) _ (by simp [moreC, withLot]; omega)]
          · rfl
          · have hm2 := ofL_mem (c := moreC c hd n frm) (hold := (hd : Int)) (but := []) (i := q)
            rw [ofL_mem] at hc
            rw [hm2, moreC, nth_more, if_pos hq2]
            simp only [hq2, decide_true, Bool.true_and] at hc
            rw [hc]; simp
      · have hb := ofB_lt c (hd : Int) c.lots.length
        rw [timesV_out (c := withLot c ⟨hd, frm, ⟨lo, hi⟩⟩) _ hq, stW, mk_never hq2 hq]
        · rfl
        · have hs := setL_or (i := q) (show c.lots.length < 5 by omega) hb
          show (setL (((((ofB c (hd : Int) c.lots.length : Nat) : Int).toNat ||| 2 ^ c.lots.length : Nat) : Int)).toNat (withLot c ⟨hd, frm, ⟨lo, hi⟩⟩).lots.length).contains q = false
          rw [show (withLot c ⟨hd, frm, ⟨lo, hi⟩⟩).lots.length = c.lots.length + 1 by simp [withLot]]
          simp only [Int.toNat_natCast] at hs ⊢
          rw [hs]
          simp; omega
theorem putIs_eq {c : Cargo} (hv : Valid c) {hd : Nat} (hh : hd < c.holds.length) (lo hi frm un : Int) : putIs c lo hi frm un hd = putIs7 c lo hi frm un hd := by
  rw [putIs, truths_zero hv hh, cntB_map, List.length_map, settled_all, putIs7, Bool.eq_iff_iff, List.all_eq_true, List.all_eq_true]
  have key : ∀ p ∈ waysM c hd [], putAns (withLot c ⟨hd, frm, ⟨lo, hi⟩⟩) c.lots.length lo hi un (timesV c (stW c hd p)) (stW c hd p) = fitsAll c lo hi frm un hd p := fun p hp => by
    rw [putAns, fitsAll, spanVals, List.all_map]
    rw [Bool.eq_iff_iff, List.all_eq_true, List.all_eq_true]
    exact ⟨fun h k hk => by have := h k hk; rw [fit_eq hv hh hp] at this; exact this, fun h k hk => by rw [fit_eq hv hh hp]; exact h k hk⟩
  exact ⟨fun h p hp => by rw [← key p hp]; exact h p hp, fun h p hp => by have := h p hp; rw [← key p hp] at this; exact this⟩
theorem putE7_valid {c : Cargo} {lo hi frm un : Int} (h : putE7 c lo hi frm un = 0) : Valid c ∧ someM c [] = true ∧ putA c lo hi frm un = 0 := by
  obtain ⟨h1, h2⟩ := truthE_zero h
  refine ⟨?_, h2, h1⟩
  refine hour2_valid (frm := frm) (un := un) ?_
  simp only [putA] at h1
  split at h1
  · cases h1
  · split at h1
    · cases h1
    · exact h1
theorem putV_eq (c : Cargo) (lo hi frm un : Int) : putV c lo hi frm un = putR c lo hi frm un := by
  rw [putV, putR, putE_eq]
  by_cases h : putE7 c lo hi frm un = 0
  · rw [if_neg (by simpa using h), if_neg (by simpa using h)]
    obtain ⟨hv, _, _⟩ := putE7_valid h
    rw [putTo, filter_range_congr (fun hd hh => putIs_eq hv hh lo hi frm un)]
  · rw [if_pos h, if_pos h]
end Go.Proofs.Ytbkknliggnhpcaa
