/- Plain: how a counter can fare by some loads; the loads for which there is a truth. -/
import Derived.Test.YtkaahiddngmdbaaGreatDoorDB
set_option linter.unusedVariables false
set_option linter.unusedSimpArgs false
namespace Go.Proofs.YtkaahiddngmdbaaGreatDoor
open Go.RowKit

theorem tm100 {a : Int} (_ : 0 ≤ a) : 0 ≤ a % 100 ∧ a % 100 ≤ 99 := by omega
theorem wayAt_bd {own before : Int} {z : Bool} {n : Int} {w : Way} (h : w ∈ wayAt own before z n) (hb : 0 ≤ before) (hn : 0 ≤ n) : w.counts = n ∧ 0 ≤ w.shows ∧ w.shows ≤ 99 := by
 unfold wayAt at h
 split at h
 · obtain rfl : w = _ := by simpa using h
   have := tm100 (show 0 ≤ before + n by omega)
   exact ⟨rfl, this.1, this.2⟩
 · cases h
theorem waysTo_bd {own before : Int} {z : Bool} {lo : Int} (hb : 0 ≤ before) (hl : 0 ≤ lo) : ∀ {n : Nat} {w : Way}, w ∈ waysTo own before z lo n → lo ≤ w.counts ∧ w.counts < lo + n ∧ 0 ≤ w.shows ∧ w.shows ≤ 99
 | 0, _, h => by cases h
 | n + 1, w, h => by
  rw [waysTo, List.mem_append] at h
  rcases h with h | h
  · have := waysTo_bd hb hl h; omega
  · have := wayAt_bd h hb (by omega); omega
theorem waysU_len (c : Ctr) (h : Span) (own at_ n : Int) (m : Int) (hm : h.hi + c.twice + 1 - loM c h ≤ m) : ∀ k, ((waysU c h own at_ n k).length : Int) ≤ 2 * (max 0 m) := by
 have hz : ∀ (o b : Int) z, ((waysZ c h o b z).length : Int) ≤ max 0 m := fun o b z => by
  have := waysTo_len o b z (loM c h) (h.hi + c.twice + 1 - loM c h).toNat
  unfold waysZ
  omega
 have h1 : (((if zeroP at_ 0 then waysZ c h own n false else []).length : Nat) : Int) ≤ max 0 m := by
  split
  · exact hz own n false
  · simp; omega
 have h2 : (((if zeroP at_ 1 then waysZ c h own 0 true else []).length : Nat) : Int) ≤ max 0 m := by
  split
  · exact hz own 0 true
  · simp; omega
 intro k
 match k with
 | 0 => simp [waysU]; omega
 | 1 => show (((if zeroP at_ 0 then waysZ c h own n false else []).length : Nat) : Int) ≤ _; omega
 | k + 2 => show ((((if zeroP at_ 0 then waysZ c h own n false else []) ++ (if zeroP at_ 1 then waysZ c h own 0 true else [])).length : Nat) : Int) ≤ _; rw [List.length_append]; omega
theorem waysTo_next (own before : Int) (z : Bool) (lo : Int) (n : Nat) : waysTo own before z lo (n + 1) = waysTo own before z lo n ++ wayAt own before z (lo + n) := rfl
theorem wayAt_one {own before s : Int} {z : Bool} {n : Int} (hs : before + n = s) (h : own = -1 ∨ own = s % 100) : (wayAt own before z n).length = 1 := by rw [wayAt, hs, if_pos h]; rfl
theorem wayAt_no {own before s : Int} {z : Bool} {n : Int} (hs : before + n = s) (h1 : ¬ own = -1) (h2 : ¬ own = s % 100) : wayAt own before z n = [] := by rw [wayAt, hs, if_neg (by simp [h1, h2])]
theorem waysU_skip0 {c : Ctr} {h : Span} {own at_ n : Int} (hw : zeroP at_ 0 = false) : waysU c h own at_ n 1 = [] := by unfold waysU; rw [hw]; rfl
theorem waysU_go0 {c : Ctr} {h : Span} {own at_ n : Int} (hw : zeroP at_ 0 = true) : waysU c h own at_ n 1 = waysZ c h own n false := by unfold waysU; rw [hw]; rfl
theorem waysU_skip1 {c : Ctr} {h : Span} {own at_ n : Int} (hw : zeroP at_ 1 = false) : waysU c h own at_ n 2 = waysU c h own at_ n 1 := by
 show (if zeroP at_ 0 then waysZ c h own n false else []) ++ (if zeroP at_ 1 then waysZ c h own 0 true else []) = _
 rw [hw]; exact List.append_nil _
theorem waysU_go1 {c : Ctr} {h : Span} {own at_ n : Int} (hw : zeroP at_ 1 = true) : waysU c h own at_ n 2 = waysU c h own at_ n 1 ++ waysZ c h own 0 true := by
 show (if zeroP at_ 0 then waysZ c h own n false else []) ++ (if zeroP at_ 1 then waysZ c h own 0 true else []) = _
 rw [hw]; rfl
theorem waysU_len1 {c : Ctr} {h : Span} {own at_ n : Int} {k : Nat} (hm : h.hi + c.twice + 1 - loM c h ≤ 44) (hk : k ≤ 1) : (waysU c h own at_ n k).length ≤ 44 := by
 obtain rfl | rfl : k = 0 ∨ k = 1 := by omega
 · simp [waysU]
 · have := waysTo_len own n false (loM c h) (h.hi + c.twice + 1 - loM c h).toNat
   show (if zeroP at_ 0 then waysZ c h own n false else []).length ≤ 44
   split
   · unfold waysZ; omega
   · simp
section
variable {b : Board} (hv : ValidB b)
include hv
theorem lo_bd {c h : Nat} (hc : c < b.ctrs.length) (hh : h < b.hours.length) : 0 ≤ loM (nth b.ctrs c) (nth b.hours h).load ∧ loM (nth b.ctrs c) (nth b.hours h).load ≤ 40 ∧ (nth b.hours h).load.hi + (nth b.ctrs c).twice ≤ 43 ∧ (nth b.hours h).load.hi + (nth b.ctrs c).twice + 1 - loM (nth b.ctrs c) (nth b.hours h).load ≤ 44 := by
 have h1 := hv.lo h hh
 have h2 := hv.hi h hh
 have h3 := hv.skip c hc
 have h4 := hv.twice c hc
 unfold loM
 omega
theorem ways_len {c h : Nat} (hc : c < b.ctrs.length) (hh : h < b.hours.length) (n : Int) : (waysV b ⟨c, h, n⟩).length ≤ 88 := by
 have := waysU_len (nth b.ctrs c) (nth b.hours h).load (nth (nth b.ctrs c).shown h) (nth (nth b.ctrs c).zero h) n 44 (lo_bd hv hc hh).2.2.2 2
 simp only [waysV, Int.toNat_natCast]
 omega
theorem ways_bd {c h : Nat} (hc : c < b.ctrs.length) (hh : h < b.hours.length) {n : Int} (hn : 0 ≤ n) {w : Way} (hw : w ∈ waysV b ⟨c, h, n⟩) : 0 ≤ w.counts ∧ w.counts ≤ 43 ∧ 0 ≤ w.shows ∧ w.shows ≤ 99 := by
 have hl := lo_bd hv hc hh
 have hz : ∀ (o bf : Int) z, 0 ≤ bf → w ∈ waysZ (nth b.ctrs c) (nth b.hours h).load o bf z → 0 ≤ w.counts ∧ w.counts ≤ 43 ∧ 0 ≤ w.shows ∧ w.shows ≤ 99 := fun o bf z hb hm => by
  have := waysTo_bd hb hl.1 hm
  omega
 simp only [waysV, Int.toNat_natCast, waysU, List.mem_append] at hw
 rcases hw with hw | hw
 · split at hw
   · exact hz _ _ _ hn hw
   · cases hw
 · split at hw
   · exact hz _ _ _ (by omega) hw
   · cases hw
end
/-- Ways as cells. -/
def wvals (ws : List Way) : List Value := (List.range (ws.length * 3)).map (waysF ws)
theorem wvals_nil : wvals [] = [] := rfl
theorem nth_app_lt {α : Type} [Inhabited α] {a b : List α} {k : Nat} (h : k < a.length) : nth (a ++ b) k = nth a k := by rw [nth_app', if_pos h]
theorem wvals_snoc (ws : List Way) (y : Way) : wvals (ws ++ [y]) = wvals ws ++ [iv y.counts, iv y.shows, .bool y.zero] := by
 have h1 : ∀ j, j < ws.length * 3 → waysF (ws ++ [y]) j = waysF ws j := fun j hj => by
  simp only [waysF, nth_app_lt (show j / 3 < ws.length by omega)]
 have h2 : nth (ws ++ [y]) ws.length = y := by rw [nth_app', if_neg (by omega), Nat.sub_self]; rfl
 rw [wvals, List.length_append, List.length_singleton, range3, List.map_append, wvals]
 congr 1
 · exact List.map_congr_left fun j hj => h1 j (List.mem_range.1 hj)
 · simp only [List.map_cons, List.map_nil, waysF, show ws.length * 3 % 3 = 0 by omega, show (ws.length * 3 + 1) % 3 = 1 by omega, show (ws.length * 3 + 2) % 3 = 2 by omega,
    show ws.length * 3 / 3 = ws.length by omega, show (ws.length * 3 + 1) / 3 = ws.length by omega, show (ws.length * 3 + 2) / 3 = ws.length by omega, h2]
theorem wayAt_wvals (ws : List Way) {own before s : Int} {z : Bool} {n : Int} (hs : before + n = s) (h : own = -1 ∨ own = s % 100) : wvals (ws ++ wayAt own before z n) = wvals ws ++ [iv n, iv (s % 100), .bool z] := by
 rw [wayAt, hs, if_pos h, wvals_snoc]
/-- What is shown behind an hour, and 100 more if something was so. -/
def goesOn (ct : Ctr) (l at_ : Int) (p : Way → Bool) (w : Way) : List Int :=
 if offP (-ct.skip) ct.twice (w.counts - l) then [] else [if 100 ≤ at_ ∨ p w = true then w.shows + 100 else w.shows]
def stepAt (b : Board) (c h : Nat) (l : Int) (p : Way → Bool) (at_ : Int) : List Int := (waysV b ⟨c, h, at_ % 100⟩).flatMap (goesOn (nth b.ctrs c) l at_ p)
def setTo (b : Board) (c : Nat) (ls : List Int) (p : Int → Int → Way → Bool) : Nat → List Int
 | 0 => [(nth b.ctrs c).start]
 | k + 1 => (setTo b c ls p k).flatMap (stepAt b c k (nth ls k) (p k (nth ls k)))
def notM (b : Board) (c : Nat) (ls : List Int) (p : Int → Int → Way → Bool) : Bool := (setTo b c ls p b.hours.length).any (fun x => decide (x < 100))
def metM (b : Board) (c : Nat) (ls : List Int) (p : Int → Int → Way → Bool) : Bool := (setTo b c ls p b.hours.length).any (fun x => decide (100 ≤ x))
theorem set_bd {b : Board} (hv : ValidB b) {c : Nat} (hc : c < b.ctrs.length) (ls : List Int) (p : Int → Int → Way → Bool) : ∀ k, k ≤ b.hours.length → ∀ x ∈ setTo b c ls p k, 0 ≤ x ∧ x ≤ 199
 | 0, _, x, hx => by
  obtain rfl : x = _ := by simpa [setTo] using hx
  have := hv.start c hc
  omega
 | k + 1, hk, x, hx => by
  rw [setTo, List.mem_flatMap] at hx
  obtain ⟨y, hy, hx⟩ := hx
  have h0 := set_bd hv hc ls p k (by omega) y hy
  rw [stepAt, List.mem_flatMap] at hx
  obtain ⟨w, hw, hx⟩ := hx
  have h1 := ways_bd hv hc (show k < b.hours.length by omega) (tm100 h0.1).1 hw
  unfold goesOn at hx
  split at hx
  · cases hx
  · obtain rfl : x = _ := by simpa using hx
    split <;> omega
/-- slips: a counter counts not what it should. -/
def slipsP (_ load : Int) (w : Way) : Bool := w.counts != load

/-! loads -/
def spanVals (s : Span) : List Int := (List.range (s.hi - s.lo + 1).toNat).map fun k : Nat => s.lo + k
theorem nth_ext {a b : List Int} {n : Nat} (ha : a.length = n) (hb : b.length = n) (h : ∀ q, q < n → nth a q = nth b q) : a = b := by
 apply List.ext_getElem (by omega)
 intro i h1 h2
 have := h i (by omega)
 rwa [nth_eq h1, nth_eq h2] at this
theorem take_map_range (s : Span) {m : Nat} (hm : (m : Int) ≤ s.hi - s.lo) : (spanVals s).take (m + 1) = (spanVals s).take m ++ [s.lo + m] := by
 have : m < (spanVals s).length := by simp [spanVals]; omega
 rw [take_nth this]
 congr 1
 simp [nth, spanVals, show m < (s.hi - s.lo + 1).toNat by omega]
theorem spanVals_take (s : Span) {m : Nat} (hm : s.hi - s.lo < m) : (spanVals s).take m = spanVals s := List.take_of_length_le (by simp [spanVals]; omega)
theorem mem_spanVals {s : Span} {x : Int} : x ∈ spanVals s ↔ s.lo ≤ x ∧ x ≤ s.hi := by
 simp only [spanVals, List.mem_map, List.mem_range]
 constructor
 · rintro ⟨k, hk, rfl⟩; omega
 · intro h; exact ⟨(x - s.lo).toNat, by omega, by omega⟩
theorem take_flat_prefix {α β : Type} (l : List α) (k : Nat) (f : α → List β) : (l.take k).flatMap f <+: l.flatMap f :=
 ⟨(l.drop k).flatMap f, by rw [← List.flatMap_append, List.take_append_drop]⟩

/-- All ways to go on with places g from lot k on, d lots. -/
def compP (b : Board) : Nat → Nat → List Int → List (List Int)
 | 0, _, g => [g]
 | d + 1, k, g => (spanVals (nth b.hours k).load).flatMap fun x => compP b d (k + 1) (g ++ [x])
theorem comp_mem {b : Board} : ∀ {d k : Nat} {g x : List Int}, x ∈ compP b d k g → x.take g.length = g ∧ x.length = g.length + d
 | 0, k, g, x, h => by simp [compP] at h; subst h; simp
 | d + 1, k, g, x, h => by
  simp only [compP, List.mem_flatMap] at h
  obtain ⟨y, _, hy⟩ := h
  obtain ⟨h1, h2⟩ := comp_mem hy
  simp only [List.length_append, List.length_cons, List.length_nil] at h1 h2
  refine ⟨?_, by omega⟩
  have := congrArg (List.take g.length) h1
  rwa [List.take_take, Nat.min_eq_left (by omega), List.take_left] at this
theorem comp_digit {b : Board} {d k : Nat} {g x : List Int} {y : Int} (h : x ∈ compP b d k (g ++ [y])) : nth x g.length = y := by
 obtain ⟨h1, h2⟩ := comp_mem h
 simp only [List.length_append, List.length_cons, List.length_nil] at h1 h2
 have h3 : nth (x.take (g.length + 1)) g.length = y := by rw [h1]; simp [nth]
 simpa [nth] using h3
def zeros (n : Nat) : List Int := List.replicate (4 - n) 0
def mkP (b : Board) (g : List Int) : List Int := g ++ zeros b.hours.length
theorem mkP_inj {b : Board} {g g' : List Int} (h : g.length = g'.length) (e : mkP b g = mkP b g') : g = g' := (List.append_inj e h).1
def todoP (b : Board) (d k : Nat) (g : List Int) : List (List Int) := (compP b d k g).map (mkP b)
def statesP (b : Board) : List (List Int) := todoP b b.hours.length 0 []
theorem todo_zero (b : Board) (k : Nat) (g : List Int) : todoP b 0 k g = [mkP b g] := rfl
theorem todo_succ (b : Board) (d k : Nat) (g : List Int) : todoP b (d + 1) k g = (spanVals (nth b.hours k).load).flatMap fun x => todoP b d (k + 1) (g ++ [x]) := by
 rw [todoP, compP, List.map_flatMap]; rfl
theorem todo_apart {b : Board} {d k : Nat} {g : List Int} {x y : Int} {s : List Int} (h : s ∈ todoP b d (k + 1) (g ++ [x])) (h' : s ∈ todoP b d (k + 1) (g ++ [y])) : x = y := by
 obtain ⟨a, ha, rfl⟩ := List.mem_map.1 h
 obtain ⟨a', hb, e⟩ := List.mem_map.1 h'
 have h1 := (comp_mem ha).2
 have h2 := (comp_mem hb).2
 simp only [List.length_append, List.length_cons, List.length_nil] at h1 h2
 have := mkP_inj (by omega) e
 subst this
 rw [← comp_digit ha, ← comp_digit hb]
theorem nth_zeros (n k : Nat) : nth (zeros n) k = 0 := by
 rw [nth, zeros, List.getD_eq_getElem?_getD, List.getElem?_replicate]; split <;> rfl
/-- Places of the iterator that stands at the lot behind g. -/
structure StAt (b : Board) (g s : List Int) : Prop where
 len : s.length = 4
 take : s.take g.length = g
 zero : ∀ k, b.hours.length ≤ k → nth s k = 0
 bd : ∀ k, 0 ≤ nth s k ∧ nth s k ≤ 40
 ok : ∀ k, k < g.length → (nth b.hours k).load.lo ≤ nth s k ∧ nth s k ≤ (nth b.hours k).load.hi
theorem StAt.less {b : Board} {g : List Int} {x : Int} {s : List Int} (h : StAt b (g ++ [x]) s) : StAt b g s := by
 refine ⟨h.len, ?_, h.zero, h.bd, fun k hk => h.ok k (by simp; omega)⟩
 have := congrArg (List.take g.length) h.take
 simp only [List.length_append, List.length_cons, List.length_nil] at this
 rwa [List.take_take, Nat.min_eq_left (by omega), List.take_left] at this
theorem StAt.set {b : Board} {g s : List Int} (h : StAt b g s) (hg : g.length < b.hours.length) (hl : b.hours.length ≤ 4) {x : Int} (hx : 0 ≤ x ∧ x ≤ 40) (hx2 : (nth b.hours g.length).load.lo ≤ x ∧ x ≤ (nth b.hours g.length).load.hi) : StAt b (g ++ [x]) (s.set g.length x) := by
 have hlen := h.len
 refine ⟨by simp [hlen], ?_, fun k hk => ?_, fun k => ?_, fun k hk => ?_⟩
 · simp only [List.length_append, List.length_cons, List.length_nil]
   rw [List.take_succ_eq_append_getElem (by simp; omega)]
   simp only [List.getElem_set_self]
   rw [List.take_set_of_le (Nat.le_refl _), h.take]
 · rw [nth_setG (by omega), if_neg (by omega)]; exact h.zero k hk
 · rw [nth_setG (by omega)]
   split
   · exact hx
   · exact h.bd k
 · simp at hk
   rw [nth_setG (by omega)]
   split
   · rename_i e; rw [e]; exact hx2
   · exact h.ok k (by omega)
theorem StAt.done {b : Board} {g s : List Int} (h : StAt b g s) (hg : g.length = b.hours.length) (hl : b.hours.length ≤ 4) : s = mkP b g := by
 have h4 := h.len
 have h5 := h.take
 rw [mkP]
 refine nth_ext h4 (by simp [zeros]; omega) fun q hq => ?_
 rw [nth_app']
 split
 · rename_i hlt
   have : nth (s.take g.length) q = nth s q := by simp [nth, List.getElem?_take, hlt]
   rw [← this, h5]
 · rename_i hge
   rw [nth_zeros, h.zero q (by omega)]
/-- Places that are such as lots can have turned at. -/
structure LdB (b : Board) (s : List Int) : Prop where
 len : s.length = 4
 bd : ∀ k, 0 ≤ nth s k ∧ nth s k ≤ 40
 ok : ∀ k, k < b.hours.length → (nth b.hours k).load.lo ≤ nth s k ∧ nth s k ≤ (nth b.hours k).load.hi
theorem StAt.plB {b : Board} {g s : List Int} (h : StAt b g s) (hg : g.length = b.hours.length) : LdB b s := ⟨h.len, h.bd, fun k hk => h.ok k (by omega)⟩
/-- What has come when digits below x are done. -/
def doneTo (b : Board) (d k : Nat) (g : List Int) (x : Int) : List (List Int) := ((spanVals (nth b.hours k).load).take (x - (nth b.hours k).load.lo).toNat).flatMap fun y => todoP b d (k + 1) (g ++ [y])
theorem doneTo_lo (b : Board) (d k : Nat) (g : List Int) : doneTo b d k g (nth b.hours k).load.lo = [] := by simp [doneTo]
theorem doneTo_succ {b : Board} {d k : Nat} {g : List Int} {x : Int} (h1 : (nth b.hours k).load.lo ≤ x) (h2 : x ≤ (nth b.hours k).load.hi) : doneTo b d k g (x + 1) = doneTo b d k g x ++ todoP b d (k + 1) (g ++ [x]) := by
 rw [doneTo, show (x + 1 - (nth b.hours k).load.lo).toNat = (x - (nth b.hours k).load.lo).toNat + 1 by omega, take_map_range _ (by omega), List.flatMap_append, doneTo]
 congr 1
 simp only [List.flatMap_cons, List.flatMap_nil, List.append_nil]
 rw [show (nth b.hours k).load.lo + ((x - (nth b.hours k).load.lo).toNat : Int) = x by omega]
theorem doneTo_all {b : Board} {d k : Nat} {g : List Int} {x : Int} (h : (nth b.hours k).load.hi < x) (h0 : (nth b.hours k).load.lo ≤ x) : doneTo b d k g x = todoP b (d + 1) k g := by
 rw [doneTo, spanVals_take _ (by omega), todo_succ]
theorem statesP_ok {b : Board} (hv : ValidB b) {s : List Int} (h : s ∈ statesP b) : LdB b s ∧ ∀ k, b.hours.length ≤ k → nth s k = 0 := by
 have key : ∀ d k g, k + d = b.hours.length → g.length = k → (∀ j, j < k → (nth b.hours j).load.lo ≤ nth g j ∧ nth g j ≤ (nth b.hours j).load.hi) → ∀ x ∈ compP b d k g, x.length = b.hours.length ∧ ∀ j, j < b.hours.length → (nth b.hours j).load.lo ≤ nth x j ∧ nth x j ≤ (nth b.hours j).load.hi := by
  intro d
  induction d with
  | zero => intro k g h1 h2 h3 x hx; simp [compP] at hx; subst hx; exact ⟨by omega, fun j hj => h3 j (by omega)⟩
  | succ d ih =>
   intro k g h1 h2 h3 x hx
   simp only [compP, List.mem_flatMap] at hx
   obtain ⟨y, hy, hx⟩ := hx
   have hy2 := mem_spanVals.1 hy
   refine ih (k + 1) (g ++ [y]) (by omega) (by simp [h2]) (fun j hj => ?_) x hx
   rw [nth_app']
   split
   · exact h3 j (by omega)
   · obtain rfl : j = k := by omega
     rw [h2, Nat.sub_self]; exact hy2
 obtain ⟨g, hg, rfl⟩ := List.mem_map.1 h
 obtain ⟨h1, h2⟩ := key b.hours.length 0 [] (by omega) rfl (fun j hj => by omega) g hg
 have hl := hv.hours
 have h3 : ∀ k, b.hours.length ≤ k → nth (mkP b g) k = 0 := fun k hk => by rw [mkP, nth_app', if_neg (by omega), nth_zeros]
 have h4 : ∀ k, k < b.hours.length → nth (mkP b g) k = nth g k := fun k hk => by rw [mkP, nth_app', if_pos (by omega)]
 refine ⟨⟨by simp [mkP, zeros, h1]; omega, fun k => ?_, fun k hk => by rw [h4 k hk]; exact h2 k hk⟩, h3⟩
 rcases Nat.lt_or_ge k b.hours.length with hk | hk
 · rw [h4 k hk]
   have := h2 k hk
   have := hv.lo k hk
   have := hv.hi k hk
   omega
 · rw [h3 k hk]; omega

def okL (b : Board) (ls : List Int) : Bool := (List.range b.ctrs.length).all fun c => notM b c ls slipsP || metM b c ls slipsP
def truthsL (b : Board) : List (List Int) := (statesP b).filter (okL b)
def joinS (s : Option Span) (n : Int) : Span := match s with | none => ⟨n, n⟩ | some s => ⟨min s.lo n, max s.hi n⟩
def hullTo (of : List Int → Int) (l : List (List Int)) : Option Span := l.foldl (fun s x => some (joinS s (of x))) none
def hullM (of : List Int → Int) (l : List (List Int)) : Span := (hullTo of l).getD ⟨0, 0⟩
def inTo (b : Board) (ls : List Int) (hold : Int) : Nat → Int
 | 0 => 0
 | k + 1 => if (nth b.hours k).hold = hold then inTo b ls hold k + nth ls k else inTo b ls hold k
def inM (b : Board) (ls : List Int) (hold : Int) : Int := inTo b ls hold b.hours.length
end Go.Proofs.YtkaahiddngmdbaaGreatDoor
