/- The plain law of ClaimOrder: if lots are told the other way round, all is the same of the same lots, claims and papers. -/
import Derived.Test.YtllmahcanipcpaaSZ
set_option linter.unusedVariables false
set_option linter.unusedSimpArgs false
namespace Go.Proofs.Ytllmahcanipcpaa

def lastL (f : File) : Int := (f.lots.length : Int) - 1
def backPp (last : Int) (p : Paper) : Paper := ⟨p.says, last - p.lot, if 2 ≤ p.says then last - p.of_ else p.of_⟩
def backCc (last : Int) (c : Claim) : Claim := ⟨last - c.lot, c.against, c.day⟩
/-- A file whose lots are told the other way round. -/
def backF (f : File) : File := { f with lots := f.lots.reverse, papers := f.papers.map (backPp (lastL f)), claims := f.claims.map (backCc (lastL f)) }
theorem backF_lots (f : File) : (backF f).lots.length = f.lots.length := by simp [backF]
theorem backF_papers (f : File) : (backF f).papers.length = f.papers.length := by simp [backF]
theorem backF_claims (f : File) : (backF f).claims.length = f.claims.length := by simp [backF]
theorem backF_last (f : File) : lastL (backF f) = lastL f := by rw [lastL, backF_lots, lastL]
theorem nth_rev {α : Type} [Inhabited α] {l : List α} {i : Nat} (h : i < l.length) : nth l.reverse (l.length - 1 - i) = nth l i := by
  rw [nth_eq (by simp; omega), nth_eq h, List.getElem_reverse]
  congr 1; omega
theorem nth_rev' {α : Type} [Inhabited α] {l : List α} {i : Nat} (h : i < l.length) : nth l.reverse i = nth l (l.length - 1 - i) := by
  have := nth_rev (l := l) (i := l.length - 1 - i) (by omega)
  rwa [show l.length - 1 - (l.length - 1 - i) = i by omega] at this
theorem back_lot {f : File} {k : Int} (h : 0 ≤ k ∧ k < f.lots.length) : nth (backF f).lots (lastL f - k).toNat = nth f.lots k.toNat := by
  show nth f.lots.reverse (lastL f - k).toNat = _
  rw [show (lastL f - k).toNat = f.lots.length - 1 - k.toNat by unfold lastL; omega]
  exact nth_rev (by omega)
theorem back_place {f : File} {g : List Int} (hg : g.length = f.lots.length) {k : Int} (h : 0 ≤ k ∧ k < f.lots.length) : nth g.reverse (lastL f - k).toNat = nth g k.toNat := by
  rw [show (lastL f - k).toNat = g.length - 1 - k.toNat by unfold lastL; omega]
  exact nth_rev (by omega)
theorem back_with {f : File} {g : List Int} (hg : g.length = f.lots.length) {k : Int} (h : 0 ≤ k ∧ k < f.lots.length) : withM (backF f) g.reverse (lastL f - k).toNat = withM f g k.toNat := by
  rw [withM, back_lot h, back_place hg h, withM]
/-- What Check says of it. -/
theorem offP_back {n k : Int} (h : 0 ≤ k ∧ k < n) : offP 0 (n - 1) (n - 1 - k) = false := offP_false.2 (by omega)
theorem back_check {f : File} (hc : (checkM f).2.2 = 0) : (checkM (backF f)).2.2 = 0 := by
  have hv := valid_of hc
  obtain ⟨h1, h2, h3, h4, h5, h6⟩ := check_parts hc
  refine check_mk ⟨h1, h2, h3, failM_ok (by rw [backF_lots]; have := hv.lots; omega) fun j hj => ?_, failM_ok (by rw [backF_papers]; have := hv.papers; omega) fun j hj => ?_, failM_ok (by rw [backF_claims]; have := hv.claims; omega) fun j hj => ?_⟩
  · rw [backF_lots] at hj
    have := (failM_zero h4).2 (f.lots.length - 1 - j) (by omega)
    show lotE (backF f) j (nth f.lots.reverse j) = 0
    rw [nth_rev' hj]
    exact this
  · rw [backF_papers] at hj
    have hp := hv.paper j hj
    show paperE (backF f) j (nth (f.papers.map (backPp (lastL f))) j) = 0
    rw [nth_map _ hj]
    generalize nth f.papers j = p at hp
    obtain ⟨a1, a2, a3, a4, a5, a6⟩ := hp
    have hl : ((backF f).lots.length : Int) = f.lots.length := by rw [backF_lots]
    unfold paperE backPp
    simp only [hl]
    rw [if_neg (by rw [offP_false.2 ⟨a1, a2⟩]; simp), if_neg (by rw [show lastL f = (f.lots.length : Int) - 1 from rfl, offP_back ⟨a3, a4⟩]; simp)]
    by_cases h2 : p.says < 2
    · rw [if_pos h2, if_neg (show ¬ 2 ≤ p.says by omega), back_lot ⟨a3, a4⟩, if_pos (a5 h2)]
    · obtain ⟨b1, b2, b3⟩ := a6 (by omega)
      rw [if_neg h2, if_pos (show 2 ≤ p.says by omega), if_neg (by rw [show lastL f = (f.lots.length : Int) - 1 from rfl, offP_back ⟨b1, b2⟩]; simp), if_neg (by omega)]
  · rw [backF_claims] at hj
    have hp := hv.claim j hj
    show claimE (backF f) j (nth (f.claims.map (backCc (lastL f))) j) = 0
    rw [nth_map _ hj]
    generalize nth f.claims j = c at hp
    obtain ⟨a1, a2, a3, a4, a5, a6⟩ := hp
    have hl : ((backF f).lots.length : Int) = f.lots.length := by rw [backF_lots]
    unfold claimE backCc
    simp only [hl]
    rw [if_neg (by rw [show lastL f = (f.lots.length : Int) - 1 from rfl, offP_back ⟨a1, a2⟩, show (backF f).parties = f.parties from rfl, offP_false.2 (show (0 : Int) ≤ c.against ∧ c.against ≤ (f.parties.length : Int) - 1 by omega)]; simp), if_neg (by rw [offP_false.2 ⟨a5, a6⟩]; simp)]
/-- Which places there are. -/
theorem mem_allTo (f : File) : ∀ k (g : List Int), g ∈ allTo f k ↔ g.length = k ∧ ∀ l, l < k → nth g l ∈ spanVals (nth f.lots l).turned
  | 0, g => by
    rw [allTo, List.mem_singleton]
    constructor
    · rintro rfl; exact ⟨rfl, fun l hl => absurd hl (Nat.not_lt_zero _)⟩
    · rintro ⟨h, _⟩; exact List.length_eq_zero_iff.1 h
  | k + 1, g => by
    rw [allTo, List.mem_flatMap]
    constructor
    · rintro ⟨p, hp, hm⟩
      obtain ⟨hp1, hp2⟩ := (mem_allTo f k p).1 hp
      obtain ⟨x, hx, rfl⟩ := List.mem_map.1 hm
      refine ⟨by simp [hp1], fun l hl => ?_⟩
      by_cases h : l < k
      · rw [show nth (p ++ [x]) l = nth p l by simp [nth, List.getElem?_append_left (show l < p.length by omega)]]
        exact hp2 l h
      · obtain rfl : l = p.length := by omega
        rw [show nth (p ++ [x]) p.length = x by simp [nth], hp1]
        exact hx
    · rintro ⟨h1, h2⟩
      have hne : g ≠ [] := fun e => by rw [e] at h1; simp at h1
      have hg := List.dropLast_concat_getLast hne
      have hl : g.dropLast.length = k := by simp [h1]
      refine ⟨g.dropLast, (mem_allTo f k _).2 ⟨hl, fun l hlk => ?_⟩, List.mem_map.2 ⟨g.getLast hne, ?_, hg⟩⟩
      · have := h2 l (by omega)
        have e : nth (g.dropLast ++ [g.getLast hne]) l = nth g.dropLast l := by
          unfold nth; rw [List.getD_eq_getElem?_getD, List.getD_eq_getElem?_getD, List.getElem?_append_left (by omega)]
        rwa [← hg, e] at this
      · have := h2 k (by omega)
        rwa [← hg, show nth (g.dropLast ++ [g.getLast hne]) k = g.getLast hne by rw [← hl]; simp [nth]] at this
theorem back_mem {f : File} {g : List Int} (h : g ∈ allP f) : g.reverse ∈ allP (backF f) := by
  obtain ⟨h1, h2⟩ := (mem_allTo f _ g).1 h
  refine (mem_allTo _ _ _).2 ⟨by rw [List.length_reverse, h1, backF_lots], fun l hl => ?_⟩
  rw [backF_lots] at hl
  rw [nth_rev' (by omega)]
  show _ ∈ spanVals (nth f.lots.reverse l).turned
  rw [nth_rev' hl, h1]
  exact h2 _ (by omega)
theorem mem_back {f : File} {g : List Int} (h : g ∈ allP (backF f)) : g.reverse ∈ allP f := by
  obtain ⟨h1, h2⟩ := (mem_allTo _ _ g).1 h
  rw [backF_lots] at h1 h2
  refine (mem_allTo _ _ _).2 ⟨by rw [List.length_reverse, h1], fun l hl => ?_⟩
  rw [nth_rev' (by omega)]
  have := h2 (f.lots.length - 1 - l) (by omega)
  rw [show (backF f).lots = f.lots.reverse from rfl, nth_rev hl] at this
  rwa [h1]
theorem len_allP {f : File} {g : List Int} (h : g ∈ allP f) : g.length = f.lots.length := ((mem_allTo f _ g).1 h).1
theorem so_back {f : File} {p : Paper} (hp : 0 ≤ p.says ∧ p.says ≤ 3 ∧ 0 ≤ p.lot ∧ p.lot < f.lots.length ∧ (2 ≤ p.says → 0 ≤ p.of_ ∧ p.of_ < f.lots.length)) {g : List Int} (hg : g.length = f.lots.length) : soP (backF f) (backPp (lastL f) p) g.reverse = soP f p g := by
  obtain ⟨a1, a2, a3, a4, a5⟩ := hp
  have hs : p.says = 0 ∨ p.says = 1 ∨ p.says = 2 ∨ p.says = 3 := by omega
  unfold soP backPp
  simp only
  rw [back_lot ⟨a3, a4⟩, back_place hg ⟨a3, a4⟩, back_with hg ⟨a3, a4⟩]
  rcases hs with hs | hs | hs | hs
  · rw [hs]; rfl
  · rw [hs]; rfl
  · rw [hs] at a5 ⊢
    have := back_with hg (a5 (by omega))
    simp [this]
  · rw [hs] at a5 ⊢
    have := back_with hg (a5 (by omega))
    simp [this]
theorem soM_back {f : File} (hv : Valid f) (but : List Int) {g : List Int} (hg : g.length = f.lots.length) : soM (backF f) but g.reverse = soM f but g := by
  rw [soM, soM, soTo, soTo, backF_papers, Bool.eq_iff_iff, List.all_eq_true, List.all_eq_true]
  refine forall_congr' fun k => imp_congr_right fun hk => ?_
  have hk' := List.mem_range.1 hk
  have hp := hv.paper k hk'
  rw [show nth (backF f).papers k = backPp (lastL f) (nth f.papers k) from nth_map _ hk', so_back ⟨hp.1, hp.2.1, hp.2.2.1, hp.2.2.2.1, fun h => ⟨(hp.2.2.2.2.2 h).1, (hp.2.2.2.2.2 h).2.1⟩⟩ hg]
theorem back_truth {f : File} (hv : Valid f) {but g : List Int} (h : g ∈ truthsM f but) : g.reverse ∈ truthsM (backF f) but := by
  obtain ⟨h1, h2⟩ := List.mem_filter.1 h
  exact List.mem_filter.2 ⟨back_mem h1, by rw [soM_back hv but (len_allP h1)]; exact h2⟩
theorem truth_back {f : File} (hv : Valid f) {but g : List Int} (h : g ∈ truthsM (backF f) but) : g.reverse ∈ truthsM f but := by
  obtain ⟨h1, h2⟩ := List.mem_filter.1 h
  have hm := mem_back h1
  refine List.mem_filter.2 ⟨hm, ?_⟩
  have := soM_back hv but (len_allP hm)
  rw [List.reverse_reverse] at this
  rw [← this]; exact h2
theorem back_any {f : File} (hv : Valid f) {but : List Int} {q q' : List Int → Bool} (h : ∀ g ∈ truthsM f but, q' g.reverse = q g) : (truthsM (backF f) but).any q' = (truthsM f but).any q := by
  rw [Bool.eq_iff_iff, List.any_eq_true, List.any_eq_true]
  constructor
  · rintro ⟨g, hg, hq⟩
    have hm := truth_back hv hg
    have := h _ hm
    rw [List.reverse_reverse] at this
    exact ⟨_, hm, by rw [← this]; exact hq⟩
  · rintro ⟨g, hg, hq⟩
    exact ⟨_, back_truth hv hg, by rw [h g hg]; exact hq⟩
theorem back_all {f : File} (hv : Valid f) {but : List Int} {q q' : List Int → Bool} (h : ∀ g ∈ truthsM f but, q' g.reverse = q g) : (truthsM (backF f) but).all q' = (truthsM f but).all q := by
  have := back_any hv (q := fun g => !q g) (q' := fun g => !q' g) (but := but) (fun g hg => by rw [h g hg])
  rw [List.all_eq_not_any_not, List.all_eq_not_any_not, this]
theorem empty_back {f : File} (hv : Valid f) (but : List Int) : emptyB (backF f) but = emptyB f but := by
  have h : ∀ T : List (List Int), decide (T.length = 0) = !T.any fun _ => true := fun T => by cases T <;> simp
  rw [emptyB, emptyB, h, h, back_any hv (q := fun _ => true) (fun _ _ => rfl)]
theorem nil_back {f : File} (hv : Valid f) : ((truthsM (backF f) []).length = 0) = ((truthsM f []).length = 0) := by
  have := empty_back hv []
  rw [emptyB, emptyB, decide_eq_decide] at this
  exact propext this
theorem enter_back {f : File} (hc : (checkM f).2.2 = 0) {n m below : Int} (hn : 0 ≤ n ∧ n < below) (hm : 0 ≤ m ∧ m < below) : enterE (backF f) m below 0 = enterE f n below 0 := by
  have e : ∀ T T' : List (List Int), (T.length = 0) = (T'.length = 0) → (if T.length = 0 then (8 : Int) else 0) = if T'.length = 0 then 8 else 0 := fun T T' h => by simp [h]
  rw [enter_err, enter_err, indexM, indexM, errK, errK, back_check hc, hc, offP_false.2 ⟨hn.1, by omega⟩, offP_false.2 ⟨hm.1, by omega⟩]
  simp only [e _ _ (nil_back (valid_of hc))]
theorem first_back {f : File} {n : Nat} (hn : n < f.claims.length) : firstB (backF f) n = firstB f n := by
  rw [firstB, firstB, backF_claims, Bool.eq_iff_iff, List.all_eq_true, List.all_eq_true]
  refine forall_congr' fun i => imp_congr_right fun hi => ?_
  rw [show nth (backF f).claims n = backCc (lastL f) (nth f.claims n) from nth_map _ hn, show nth (backF f).claims i = backCc (lastL f) (nth f.claims i) from nth_map _ (List.mem_range.1 hi)]
  have : ∀ a b l : Int, ((l - a) == (l - b)) = (a == b) := fun a b l => by rw [Bool.eq_iff_iff, beq_iff_eq, beq_iff_eq]; omega
  simp only [backCc, this]
  rfl
theorem paid_back {f : File} (hv : Valid f) {g : List Int} (hg : g.length = f.lots.length) {n : Nat} (hn : n < f.claims.length) : paidB (backF f) g.reverse n = paidB f g n := by
  have hc := hv.claim n hn
  rw [paidB, paidB, first_back hn, show nth (backF f).claims n = backCc (lastL f) (nth f.claims n) from nth_map _ hn]
  simp only [backCc]
  rw [back_with hg ⟨hc.1, hc.2.1⟩]
  rfl
theorem sumTo_back {f : File} (hv : Valid f) {g : List Int} (hg : g.length = f.lots.length) (p : Int) : ∀ k, k ≤ f.claims.length → sumTo (backF f) g.reverse p k = sumTo f g p k
  | 0, _ => rfl
  | k + 1, h => by
    have hc := hv.claim k (by omega)
    rw [sumTo, sumTo, sumTo_back hv hg p k (by omega), paid_back hv hg (by omega), show nth (backF f).claims k = backCc (lastL f) (nth f.claims k) from nth_map _ (by omega)]
    simp only [backCc]
    rw [back_lot ⟨hc.1, hc.2.1⟩]
    rfl
theorem sum_back {f : File} (hv : Valid f) {g : List Int} (hg : g.length = f.lots.length) (p : Int) : sumM (backF f) g.reverse p = sumM f g p := by
  rw [sumM, sumM, backF_claims]; exact sumTo_back hv hg p _ (Nat.le_refl _)
theorem some_back {f : File} (hc : (checkM f).2.2 = 0) : someT (backF f) = someT f := by
  have e : ∀ T T' : List (List Int), (T.length = 0) = (T'.length = 0) → (if T.length = 0 then (8 : Int) else 0) = if T'.length = 0 then 8 else 0 := fun T T' h => by simp [h]
  rw [someT_err, someT_err, errK, errK, back_check hc, hc, e _ _ (nil_back (valid_of hc))]
theorem natInts_inj : ∀ {a b : List Nat}, natInts a = natInts b → a = b
  | [], [], _ => rfl
  | [], _ :: _, h => by simp [natInts] at h
  | _ :: _, [], h => by simp [natInts] at h
  | x :: a, y :: b, h => by
    have h' : ((x : Nat) : Int) :: natInts a = (y : Int) :: natInts b := h
    obtain ⟨h1, h2⟩ := List.cons.inj h'
    rw [natInts_inj h2, Int.ofNat_inj.1 h1]
theorem selN_ext {n : Nat} {q r : Nat → Bool} (h : ∀ i, i < n → q i = r i) : selN n q = selN n r := List.filter_congr fun i hi => h i (List.mem_range.1 hi)
theorem order_laws {f : File} (hc : (checkM f).2.2 = 0) : heldV (backF f) = heldV f ∧ wrongV (backF f) = wrongV f ∧ (∀ l : Nat, l < f.lots.length → whoV (backF f) (lastL f - l) = whoV f l) ∧ ∀ p : Nat, p < f.parties.length → owesV (backF f) p = owesV f p := by
  have hv := valid_of hc
  have hlen : ∀ {but g : List Int}, g ∈ truthsM f but → g.length = f.lots.length := fun h => len_allP (List.mem_filter.1 h).1
  have hw : wrongL (backF f) = wrongL f := by
    have : (fun b => !emptyB (backF f) b) = fun b => !emptyB f b := by funext b; rw [empty_back hv]
    rw [wrongL, wrongL, backF_papers, this]
  refine ⟨?_, ?_, fun l hl => ?_, fun p hp => ?_⟩
  · cases hs : someT f with
    | false =>
      rw [heldV, heldV, enter_back hc (n := 0) (m := 0) (by omega) (by omega), if_neg (enter_bad hs _ _), if_neg (enter_bad hs _ _)]
    | true =>
      rw [held_ok hs, held_ok (by rw [some_back hc]; exact hs), backF_claims]
      congr 1
      refine selN_ext fun n hn => ?_
      rw [back_any hv (q := fun g => paidB f g n) fun g hg => paid_back hv (hlen hg) hn, back_all hv (q := fun g => paidB f g n) fun g hg => paid_back hv (hlen hg) hn]
  · obtain ⟨a1, a2⟩ := wrong_eq (backF f)
    obtain ⟨b1, b2⟩ := wrong_eq f
    rw [wrongR, if_pos (back_check hc), hw] at a1 a2
    rw [wrongR, if_pos hc] at b1 b2
    exact Prod.ext (natInts_inj (a1.trans b1.symm)) (a2.trans b2.symm)
  · have hll : 0 ≤ lastL f - (l : Int) ∧ lastL f - (l : Int) < f.lots.length := by unfold lastL; omega
    cases hs : someT f with
    | false =>
      rw [whoV, whoV, backF_lots, enter_back hc (n := l) (m := lastL f - l) (by omega) hll, if_neg (enter_bad hs _ _), if_neg (enter_bad hs _ _)]
    | true =>
      have e : lastL f - (l : Int) = (((lastL f - (l : Int)).toNat : Nat) : Int) := by omega
      rw [who_ok hs hl, e, who_ok (f := backF f) (by rw [some_back hc]; exact hs) (by rw [backF_lots]; omega)]
      congr 1
      refine selN_ext fun p hp => ?_
      exact back_any hv (q := fun g => withM f g l == (p : Int)) fun g hg => by
        have := back_with (hlen hg) (k := (l : Int)) (by omega)
        rw [Int.toNat_natCast] at this
        rw [this]
  · cases hs : someT f with
    | false =>
      rw [owesV, owesV, show (backF f).parties = f.parties from rfl, enter_back hc (n := p) (m := p) (by omega) (by omega), if_neg (enter_bad hs _ _), if_neg (enter_bad hs _ _)]
    | true =>
      obtain ⟨s, e1, h1⟩ := owes_ok hs hp
      obtain ⟨t, e2, h2⟩ := owes_ok (f := backF f) (by rw [some_back hc]; exact hs) hp
      rw [e1, e2, h2.unique h1 (fun g hg => ⟨g.reverse, truth_back hv hg, by
        have := sum_back hv (hlen (truth_back hv hg)) (p : Int)
        rw [List.reverse_reverse] at this
        exact this.symm⟩) (fun g hg => ⟨g.reverse, back_truth hv hg, sum_back hv (hlen hg) p⟩)]
end Go.Proofs.Ytllmahcanipcpaa
