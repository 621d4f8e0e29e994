/- What enter gives, as one fact for both ways out; the tail of the regions that call it. -/
import Derived.Test.YtbkknliggnhpcaaGF
import Derived.Test.YtbkknliggnhpcaaGA
import Derived.Deep.DeepCutAuto
import Derived.Laws.EntriesVeiled
set_option linter.unusedVariables false
set_option linter.unusedSimpArgs false
namespace Go.Proofs.Ytbkknliggnhpcaa
open Go.RowKit

def noneQ (n : Int) (xs : List Int) : Bool := xs.any (offP 0 (n - 1))
theorem hoursQ_any {A A1 A2 A3 A4 : Option Addr} {n cp c1 c2 c3 c4 : Nat} {xs : List Int} {c : Cargo} {w : World} (h : IntsS w w.heap.size A n cp xs) (hm : c.heat.length ≤ 9223372036854775807) :
    Calls Try.prog 78 #[cargoVal c A1 A2 A3 A4 c1 c2 c3 c4, .slice A n cp] w fun e w' => e = .returned (.agg #[.bool (noneQ (c.heat.length + 1) xs), .int .i64 7]) ∧ Below w.heap.size w w' := by
  have := hoursT_any (A1 := A1) (A2 := A2) (A3 := A3) (A4 := A4) (c1 := c1) (c2 := c2) (c3 := c3) (c4 := c4) (c := c) h hm
  rw [noneQ, Int.add_sub_cancel]
  exact this
/-- The pointer that enter gave: if there is no error, to a cargo that is looked at. -/
def EntryP (W : World) (L : Nat) (c : Cargo) (A1 A2 A3 A4 : Option Addr) (c1 c2 c3 c4 : Nat) (xs : List (Bool × Int)) (p : Option Addr) : Prop :=
  enterE c xs = 0 → Valid c ∧ ∃ b bm, p = some ⟨b, 0, none⟩ ∧ L ≤ b ∧ L ≤ bm ∧ LookL W L b bm c A1 A2 A3 A4 c1 c2 c3 c4 (0 : Nat) (timesV c)
section
variable {W W' : World} {L : Nat} {c : Cargo} {A1 A2 A3 A4 : Option Addr} {c1 c2 c3 c4 : Nat} {xs : List (Bool × Int)} {p : Option Addr}
theorem EntryP.below (h : EntryP W L c A1 A2 A3 A4 c1 c2 c3 c4 xs p) (hb : Below W.heap.size W W') : EntryP W' L c A1 A2 A3 A4 c1 c2 c3 c4 xs p := fun hE => by
  obtain ⟨hv, b, bm, h1, h2, h3, h4⟩ := h hE
  exact ⟨hv, b, bm, h1, h2, h3, h4.keep' (Keep.of_below' hb (fun _ => False)) (fun _ h => h.elim)⟩
theorem EntryP.store {g : Nat} {v u : Value} (h : EntryP W L c A1 A2 A3 A4 c1 c2 c3 c4 xs p) (hL : L ≤ g) (hg : W.cell? ⟨g, 0, none⟩ = some v) (hv : ∀ A n k, v ≠ .slice A n k) : EntryP (W.setCell ⟨g, 0, none⟩ u) L c A1 A2 A3 A4 c1 c2 c3 c4 xs p := fun hE => by
  obtain ⟨hvd, b, bm, h1, h2, h3, h4⟩ := h hE
  refine ⟨hvd, b, bm, h1, h2, h3, h4.keep' (Keep.setCell _ _ _ (fun k => k = g) rfl) (fun k hk => ?_)⟩
  subst hk
  refine ⟨hL, fun e => ?_, fun e => ?_⟩
  · subst e; rw [h4.q0] at hg; cases hg; exact hv _ _ _ rfl
  · exact h4.k.ne hg e
theorem enter_entry {w : World} {A : Option Addr} {n cp : Nat} (h : CargoV w w.heap.size c A1 A2 A3 A4 c1 c2 c3 c4) (hb : Below w.heap.size w W) (hx : Row W W.heap.size A (n * 2) (askedF xs)) (hn : xs.length = n) (hn4 : n ≤ 100) (hx0 : ∀ j, j < n → (nth xs j).1 = true → (nth xs j).2 ≠ 0) :
    Calls Try.prog 68 #[cargoVal c A1 A2 A3 A4 c1 c2 c3 c4, .slice A n cp] W fun e w' => ∃ p, e = .returned (.tuple #[.pointer p, .int .i64 (enterE c xs)]) ∧ EntryP w' w.heap.size c A1 A2 A3 A4 c1 c2 c3 c4 xs p ∧ Below W.heap.size W w' := by
  refine (enter_any (h.next hb) hx hn hn4 hx0).mono ?_
  have hz := hb.size
  rintro e w' (⟨h1, h2, b, bm, rfl, h3, h4, h5, h6⟩ | ⟨h1, rfl, h6⟩)
  · rw [h1]
    exact ⟨_, rfl, fun _ => ⟨h2, b, bm, rfl, by omega, by omega, h5.less (h.below (hb.trans (h6.mono hz))) (by have := h6.size; omega)⟩, h6⟩
  · exact ⟨_, rfl, fun h => absurd h h1, h6⟩
end
section
variable {P : Program} {ops : Array Oper} {Q : Exit → Act → World → Prop} {a0 : Act} {w : World} {dst : Nat → Tmp} {mono pre : Nat → Bool} {Pv : Nat → Value → World → Prop}
theorem Grown.lst {n : Nat} {listed : Array Bool} {vs : Nat → Value} {a : Act} {W : World} (h : Grown n a0 w dst mono Pv listed vs a W) (hpre : ∀ i, i < n → pre i = true → listed.getD i false = true) (k : Nat) (T : Array Bool) (hT : T.size = n)
    (hc : ((List.range n).all fun i => i == k || (if T.getD i false then pre i else !mono i)) = true) (hk : listed.getD k false = T.getD k false) : listed = T := by
  refine arr_eq (h.size.trans hT.symm) (fun i hi => ?_)
  have := List.all_eq_true.1 hc i (List.mem_range.2 (by omega))
  simp only [Bool.or_eq_true, beq_iff_eq] at this
  rcases this with e | this
  · rw [e]; exact hk
  · by_cases e : T.getD i false = true
    · rw [if_pos e] at this; rw [e]; exact hpre i (by omega) this
    · rw [if_neg e] at this
      rw [Bool.not_eq_true] at e
      rw [e]
      cases hl : listed.getD i false with
      | false => rfl
      | true => rw [h.mono i hl] at this; cases this
theorem Grown.lo {n : Nat} {listed : Array Bool} {vs : Nat → Value} {a : Act} {W : World} (_ : Grown n a0 w dst mono Pv listed vs a W) {T : Array Bool} {k : Nat} (hT : listed = T) (hk : leftOver T n = k) : leftOver listed n = k := by rw [hT]; exact hk
theorem Grown.ix {n : Nat} {listed : Array Bool} {vs : Nat → Value} {a : Act} {W : World} (_ : Grown n a0 w dst mono Pv listed vs a W) {T : Array Bool} {l : List Nat} (hT : listed = T) (hk : idxs T n = l) : idxs listed n = l := by rw [hT]; exact hk
variable {i : Nat} {o : Oper} {K : Act → World → Prop} {a : Act} {W W' : World}
theorem wpOp_unwanted (ho : ops[i]? = some o) (hg : Region.wanted o (yielded ops a.tmps) = false) (hk : K (a.put o.dst undef) W) : wpOp P ops Q i K a W := by
  unfold wpOp
  simp only [ho, hg]
  exact hk
theorem wpOp_wanted {v : Value} (ho : ops[i]? = some o) (hg : Region.wanted o (yielded ops a.tmps) = true) (hr : (execOp a.eval o).run P W = .ok (.value v) W') (hk : K (a.put o.dst v) W') : wpOp P ops Q i K a W := by
  unfold wpOp
  simp only [ho, hg, if_true]
  left
  unfold Oper.wp
  rw [hr]; exact hk
theorem yielded_of {tmps : Array Value} {j : Nat} {d : Tmp} {b : Bool} (hd : (ops[j]?).bind (·.dst) = some d) (h : tmps[d]?.getD undef = .bool b) : yielded ops tmps j = some b := by
  unfold yielded
  rw [hd]
  simp only [Option.bind_some]
  cases ht : tmps[d]? with
  | none => rw [ht] at h; cases h
  | some v => rw [ht] at h; simp only [Option.getD_some] at h; subst h; rfl
theorem wpOp_skip (ho : ops[i]? = some o) (hg : o.guard = none) (hr : (execOp a.eval o).run P W = .ok .skip W') (hk : K (a.put o.dst undef) W') : wpOp P ops Q i K a W := by
  unfold wpOp
  simp only [ho, Region.wanted, hg, if_true]
  left
  unfold Oper.wp
  rw [hr]; exact hk
end
theorem wp_post {P : Program} {cd : Code} {Q : Exit → Act → World → Prop} {a : Act} {w : World} (R : Act → World → Prop) (h : cd.wp P (fun e a' v => e = .normal ∧ R a' v) a w) (hq : ∀ a' v, R a' v → Q .normal a' v) : cd.wp P Q a w :=
  Code.wp_mono (fun _ _ _ ⟨h1, h2⟩ => by rw [h1]; exact hq _ _ h2) h
theorem askedRow1 {W : World} (x : Bool × Int) : Row (W.alloc (.cells #[.bool x.1, .int .i64 x.2] 104)) (W.alloc (.cells #[.bool x.1, .int .i64 x.2] 104)).heap.size (some ⟨W.heap.size, 0, none⟩) (1 * 2) (askedF [x]) := fun _ => by
  refine ⟨_, _, rfl, by simp, fun j hj => ?_⟩
  rw [World.cell?_alloc_at _ _ _ _ rfl]
  obtain rfl | rfl : j = 0 ∨ j = 1 := by omega
  all_goals rfl
theorem askedRow2 {W : World} (x y : Bool × Int) : Row (W.alloc (.cells #[.bool x.1, .int .i64 x.2, .bool y.1, .int .i64 y.2] 104)) (W.alloc (.cells #[.bool x.1, .int .i64 x.2, .bool y.1, .int .i64 y.2] 104)).heap.size (some ⟨W.heap.size, 0, none⟩) (2 * 2) (askedF [x, y]) := fun _ => by
  refine ⟨_, _, rfl, by simp, fun j hj => ?_⟩
  rw [World.cell?_alloc_at _ _ _ _ rfl]
  obtain rfl | rfl | rfl | rfl : j = 0 ∨ j = 1 ∨ j = 2 ∨ j = 3 := by omega
  all_goals rfl
theorem askedRow3 {W : World} (x y z : Bool × Int) : Row (W.alloc (.cells #[.bool x.1, .int .i64 x.2, .bool y.1, .int .i64 y.2, .bool z.1, .int .i64 z.2] 104)) (W.alloc (.cells #[.bool x.1, .int .i64 x.2, .bool y.1, .int .i64 y.2, .bool z.1, .int .i64 z.2] 104)).heap.size (some ⟨W.heap.size, 0, none⟩) (3 * 2) (askedF [x, y, z]) := fun _ => by
  refine ⟨_, _, rfl, by simp, fun j hj => ?_⟩
  rw [World.cell?_alloc_at _ _ _ _ rfl]
  obtain rfl | rfl | rfl | rfl | rfl | rfl : j = 0 ∨ j = 1 ∨ j = 2 ∨ j = 3 ∨ j = 4 ∨ j = 5 := by omega
  all_goals rfl
end Go.Proofs.Ytbkknliggnhpcaa
/- Contracts of the questions of turn's Turns and Safe. -/
namespace Go.Proofs.Ytbkknliggnhpcaa
open Go.RowKit
attribute [local go_sem ↓] Go.wp_at_zero Go.wp_at_succ

theorem nth2_0 {a b : Int} : nth [a, b] 0 = a := rfl
theorem nth2_1 {a b : Int} : nth [a, b] 1 = b := rfl
theorem OwnE.store2 {e : TypeId} {w : World} {base g : Nat} {xs : List Int} (h : OwnE e w base g 2 xs) (y0 y1 : Int) :
    OwnE e ((w.setCell ⟨g, 0, none⟩ (.int .i64 y0)).setCell ⟨g, 1, none⟩ (.int .i64 y1)) base g 2 [y0, y1] := by
  have hl := h.len
  have := (h.set 0 y0).set 1 y1
  match xs, hl with
  | [a, b], _ => simpa using this
/-- The hours of the span, and whether none was met. -/
def spanUp (fst : Bool) (lo hi h : Int) : List Int := if fst then [min h h, max h h] else [min lo h, max hi h]

def T1Post (f sp base n : Nat) (hour : Int) (fst : Bool) (lo hi : Int) (w : World) (e : Ending) (w' : World) : Prop :=
  e = .returned (.bool (decide (hour ≠ (n : Int) + 1))) ∧ Keep (fun q => q = f ∨ q = sp) w w' ∧ w'.cell? ⟨f, 0, none⟩ = some (.bool (fst && decide (hour = (n : Int) + 1))) ∧ w'.frozen? ⟨f, 0, none⟩ = false ∧
    OwnE 32 w' base sp 2 (if hour = (n : Int) + 1 then [lo, hi] else spanUp fst lo hi hour)

set_option maxHeartbeats 1600000 in
set_option maxRecDepth 100000 in
theorem turns1_any {w : World} {b n c1 bl g f sp k base : Nat} {A1 : Option Addr} {s : St} {t : List Int} {fst : Bool} {lo hi : Int} (hk : k < 5) (hn : n ≤ 8) (hl : w.cell? ⟨bl, 0, none⟩ = some (.int .i64 k)) (hg : w.cell? ⟨g, 0, none⟩ = some (.pointer (some ⟨b, 0, none⟩)))
    (q0 : w.cell? ⟨b, 0, none⟩ = some (.slice A1 n c1)) (hf : w.cell? ⟨f, 0, none⟩ = some (.bool fst)) (hff : w.frozen? ⟨f, 0, none⟩ = false) (hs : OwnE 32 w base sp 2 [lo, hi]) (hne : f ≠ sp) (hg1 : g ≠ f) (hg2 : g ≠ sp) (hb1 : b ≠ f) (hb2 : b ≠ sp) :
    Calls Try.prog 71 #[stVal s, lotsVal t, .pointer (some ⟨bl, 0, none⟩), .pointer (some ⟨g, 0, none⟩), .pointer (some ⟨f, 0, none⟩), .pointer (some ⟨sp, 0, none⟩)] w (T1Post f sp base n (nth t k) fst lo hi w) := by
  have z1 := cell_lt hl
  have z2 := cell_lt hg
  have z3 := cell_lt hf
  have z4 := cell_lt q0
  have z5 := hs.lt.2
  have hk0 : (0 : Int) ≤ (k : Int) := Int.natCast_nonneg _
  have hk5 : (k : Int) < 5 := by omega
  simp only [stVal, lotsVal, iv]
  go_enter Try.func71, Try.ntmps71
  go_upto_region 1 with (fail)
  have hB : Below w.heap.size w ((w.alloc (.cells #[.int .i64 s.hold, .int .i64 s.warm, .int .i64 (nth s.greens 0), .int .i64 (nth s.greens 1), .int .i64 (nth s.greens 2), .int .i64 (nth s.greens 3), .int .i64 (nth s.greens 4), .int .i64 s.there] 110)).alloc (.cells #[.int .i64 (nth t 0), .int .i64 (nth t 1), .int .i64 (nth t 2), .int .i64 (nth t 3), .int .i64 (nth t 4)] 108)) := ((Below.refl _ _).alloc (Nat.le_refl _) _).alloc (by simp) _
  have ht : ((w.alloc (.cells #[.int .i64 s.hold, .int .i64 s.warm, .int .i64 (nth s.greens 0), .int .i64 (nth s.greens 1), .int .i64 (nth s.greens 2), .int .i64 (nth s.greens 3), .int .i64 (nth s.greens 4), .int .i64 s.there] 110)).alloc (.cells #[.int .i64 (nth t 0), .int .i64 (nth t 1), .int .i64 (nth t 2), .int .i64 (nth t 3), .int .i64 (nth t 4)] 108)).cell? ⟨w.heap.size + 1, k, none⟩ = some (.int .i64 (nth t k)) := by
    have := lots_cell (w := w.alloc (.cells #[.int .i64 s.hold, .int .i64 s.warm, .int .i64 (nth s.greens 0), .int .i64 (nth s.greens 1), .int .i64 (nth s.greens 2), .int .i64 (nth s.greens 3), .int .i64 (nth s.greens 4), .int .i64 s.there] 110)) (t := t) hk
    simpa using this
  generalize ((w.alloc (.cells #[.int .i64 s.hold, .int .i64 s.warm, .int .i64 (nth s.greens 0), .int .i64 (nth s.greens 1), .int .i64 (nth s.greens 2), .int .i64 (nth s.greens 3), .int .i64 (nth s.greens 4), .int .i64 s.there] 110)).alloc (.cells #[.int .i64 (nth t 0), .int .i64 (nth t 1), .int .i64 (nth t 2), .int .i64 (nth t 3), .int .i64 (nth t 4)] 108)) = w1 at *
  have l1 := (hB.cell (p := ⟨bl, 0, none⟩) z1).trans hl
  have l2 := (hB.cell (p := ⟨g, 0, none⟩) z2).trans hg
  have l3 := (hB.cell (p := ⟨f, 0, none⟩) z3).trans hf
  have l4 := (hB.cell (p := ⟨b, 0, none⟩) z4).trans q0
  have f3 := (hB.frozen (p := ⟨f, 0, none⟩) z3).trans hff
  have hs1 := hs.below hB z5
  have HB := hide hB
  have HS := hide hs1
  have HN := hide hne
  have hnv := neverT_any l4 hn
  clear hl hg hf q0 hff hs hB hs1
  generalize nth t k = hour at *
  by_cases hh : hour = (n : Int) + 1
  · have hbq : (hour == (n : Int) + 1) = true := by simpa using hh
    have HH := hide hh
    clear hh
    go_wp2_with (go_at_call 72; refine hnv.mono ?_; rintro e w' ⟨rfl, rfl⟩)
    go_ret
    refine ⟨ret_b (by simp [HH.out]), Keep.of_below' HB.out _, by rw [l3]; simp [HH.out], f3, ?_⟩
    rw [if_pos HH.out]; exact HS.out
  · have hbq : (hour == (n : Int) + 1) = false := by simpa using hh
    have HH := hide hh
    clear hh
    have r0 := HS.out.cell (i := 0) (by omega)
    have r1 := HS.out.cell (i := 1) (by omega)
    have e0 := HS.out.frozen 0
    have e1 := HS.out.frozen 1
    rw [nth2_0] at r0
    rw [nth2_1] at r1
    have hn1 : ¬ f = sp := hne
    have hn2 : ¬ sp = f := fun h => hne h.symm
    cases fst with
    | true =>
      go_wp2_with (go_at_call 72; refine hnv.mono ?_; rintro e w' ⟨rfl, rfl⟩)
      go_ret
      have hv := HH.out
      refine ⟨ret_b (by simp [hv]), ?_, ?_, ?_, ?_⟩
      · exact (Keep.of_below' HB.out _).trans (((((Keep.setCell _ _ _ (fun q => q = f ∨ q = sp) (.inr rfl)).trans (Keep.setCell _ _ _ _ (.inr rfl))).trans (Keep.setCell _ _ _ _ (.inl rfl))).trans (Keep.setCell _ _ _ _ (.inr rfl))).trans (Keep.setCell _ _ _ _ (.inr rfl)))
      · go_simp; try simp [hv]
      · go_simp
      · rw [if_neg hv]
        have := ((HS.out.store2 hour hour).far (a := ⟨f, 0, none⟩) (by simpa using fun h => hne h.symm) (.bool false)).store2 hour hour
        simpa [spanUp] using this
    | false =>
      go_wp2_with (go_at_call 72; refine hnv.mono ?_; rintro e w' ⟨rfl, rfl⟩)
      all_goals
        go_ret
        have hv := HH.out
        refine ⟨ret_b (by simp [hv]), ?_, ?_, ?_, ?_⟩
        · exact (Keep.of_below' HB.out _).trans ((Keep.setCell _ _ _ (fun q => q = f ∨ q = sp) (.inr rfl)).trans (Keep.setCell _ _ _ _ (.inr rfl)))
        · go_simp; try rfl
        · go_simp
        · rw [if_neg hv]
          first
            | (have := HS.out.store2 hour hour; have e1 : min lo hour = hour := (by omega); have e2 : max hi hour = hour := (by omega); simpa [spanUp, e1, e2] using this)
            | (have := HS.out.store2 hour hi; have e1 : min lo hour = hour := (by omega); have e2 : max hi hour = hi := (by omega); simpa [spanUp, e1, e2] using this)
            | (have := HS.out.store2 lo hour; have e1 : min lo hour = lo := (by omega); have e2 : max hi hour = hour := (by omega); simpa [spanUp, e1, e2] using this)
            | (have := HS.out.store2 lo hi; have e1 : min lo hour = lo := (by omega); have e2 : max hi hour = hi := (by omega); simpa [spanUp, e1, e2] using this)
end Go.Proofs.Ytbkknliggnhpcaa
/- The question of Turns, as ask wants it; what no error means. -/
namespace Go.Proofs.Ytbkknliggnhpcaa
open Go.RowKit

theorem firstAsk_zero {c : Cargo} {xs : List (Bool × Int)} (h : enterE c xs = 0) (hx : ∀ x ∈ xs, x.2 ≠ 0) : (∀ x ∈ xs, x.1 = false) ∧ someS c 0 = true := by
  unfold enterE at h
  split at h
  · rename_i h1; exact absurd h h1
  · cases hf : firstAsk xs with
    | some x =>
      rw [hf] at h
      exact absurd h (hx x (List.mem_of_find?_eq_some hf))
    | none =>
      rw [hf] at h
      refine ⟨fun x hxm => ?_, ?_⟩
      · have := List.find?_eq_none.1 hf x hxm
        simpa using this
      · cases hs : someS c 0 with
        | true => rfl
        | false => rw [hs] at h; simp at h
theorem noneQ_one {n : Int} {x : Int} (h : noneQ n [x] = false) : 0 ≤ x ∧ x < n := by
  unfold noneQ offP at h
  simp at h
  omega
theorem OwnE.made2 (w : World) (e : TypeId) (a b : Int) : OwnE e (w.alloc (.cells #[iv a, iv b] e)) w.heap.size w.heap.size 2 [a, b] := World.ownsRow_lit w #[iv a, iv b] 2 (Nat.le_refl _) (by simp [maxLen]) rfl
def spanStep (n : Nat) (a : Bool × List Int) (h : Int) : Bool × List Int := (a.1 && decide (h = (n : Int) + 1), if h = (n : Int) + 1 then a.2 else spanUp a.1 (nth a.2 0) (nth a.2 1) h)
def spanL (c : Cargo) (lot : Nat) (l : List St) : Bool × List Int := (l.map fun s => nth (timesV c s) lot).foldl (spanStep c.heat.length) (true, [0, 0])
theorem spanL_snoc (c : Cargo) (lot : Nat) (l : List St) (s : St) : spanL c lot (l ++ [s]) = spanStep c.heat.length (spanL c lot l) (nth (timesV c s) lot) := by simp [spanL, List.foldl_append]
def turnsAns (c : Cargo) (lot : Nat) (s : St) : Bool := decide (nth (timesV c s) lot ≠ (c.heat.length : Int) + 1)
/-- The memory of the question of Turns. -/
structure T1K (bl g f sp b base : Nat) (lot : Nat) (c : Cargo) (pre : List St) (W : World) : Prop where
  xl : W.cell? ⟨bl, 0, none⟩ = some (.int .i64 lot)
  xg : W.cell? ⟨g, 0, none⟩ = some (.pointer (some ⟨b, 0, none⟩))
  xf : W.cell? ⟨f, 0, none⟩ = some (.bool (spanL c lot pre).1)
  xff : W.frozen? ⟨f, 0, none⟩ = false
  xs : OwnE 32 W base sp 2 (spanL c lot pre).2
theorem T1K.keep {bl g f sp b base lot : Nat} {c : Cargo} {pre : List St} {W W' : World} {S : Nat → Prop} (h : T1K bl g f sp b base lot c pre W) (hk : Keep S W W') (h1 : ¬ S bl) (h2 : ¬ S g) (h3 : ¬ S f) (h4 : ¬ S sp) : T1K bl g f sp b base lot c pre W' :=
  ⟨(hk.cell (cell_lt h.xl) h1).trans h.xl, (hk.cell (cell_lt h.xg) h2).trans h.xg, (hk.cell (cell_lt h.xf) h3).trans h.xf, (hk.frozen (cell_lt h.xf) h3).trans h.xff, h.xs.block (hk.block _ h.xs.lt.2 h4)⟩
theorem turns_q {w : World} {L b bm bl g f sp base lot hold : Nat} {c : Cargo} {A1 A2 A3 A4 : Option Addr} {c1 c2 c3 c4 but : Nat} (hv : Valid c) (hl : lot < c.lots.length) (h0 : T1K bl g f sp b base lot c [] w) (hm : bl ≠ bm ∧ g ≠ bm ∧ f ≠ bm ∧ sp ≠ bm) (hb : b ≠ f ∧ b ≠ sp)
    (hne : f ≠ sp) (hg : g ≠ f ∧ g ≠ sp) (hbl : bl ≠ f ∧ bl ≠ sp) (hL : L ≤ f ∧ L ≤ sp) :
    QOk Try.prog 71 #[.pointer (some ⟨bl, 0, none⟩), .pointer (some ⟨g, 0, none⟩), .pointer (some ⟨f, 0, none⟩), .pointer (some ⟨sp, 0, none⟩)] (turnsAns c lot) (fun q => q = f ∨ q = sp)
      (T1K bl g f sp b base lot c) w L bm b c A1 A2 A3 A4 c1 c2 c3 c4 but hold where
  enter := enters_of Try.func71 (by kernel_rfl) rfl
  cq k hk := by
    right
    have := cell_lt h0.xf
    have := h0.xs.lt.2
    rcases hk with rfl | rfl
    · exact ⟨⟨hL.1, Ne.symm hb.1⟩, by assumption⟩
    · exact ⟨⟨hL.2, Ne.symm hb.2⟩, by assumption⟩
  keep pre V V' h hk _ := by
    have z1 := cell_lt h0.xl
    have z2 := cell_lt h0.xg
    have z3 := cell_lt h0.xf
    have z4 := h0.xs.lt.2
    exact h.keep hk (by omega) (by omega) (by omega) (by omega)
  start := h0
  call pre s W _ hL' _ h := by
    have hlen := h.xs.len
    obtain ⟨lo, hi, e2⟩ : ∃ lo hi, (spanL c lot pre).2 = [lo, hi] := by
      match h' : (spanL c lot pre).2, hlen with
      | [lo, hi], _ => exact ⟨lo, hi, rfl⟩
    have hs := h.xs
    rw [e2] at hs
    have hlots := hv.lots
    refine (turns1_any (s := s) (t := timesV c s) (by omega) hv.hours h.xl h.xg hL'.q0 h.xf h.xff hs hne hg.1 hg.2 hb.1 hb.2).mono ?_
    rintro e W' ⟨rfl, hk, k3, k4, k5⟩
    have hbm : ∀ k, (k = f ∨ k = sp) → k ≠ bm := fun k h => by rcases h with rfl | rfl <;> omega
    refine ⟨rfl, hk, hL'.k.keep hk (fun h => hbm _ h rfl), ?_⟩
    refine ⟨(hk.cell (cell_lt h.xl) (by omega)).trans h.xl, (hk.cell (cell_lt h.xg) (by omega)).trans h.xg, ?_, k4, ?_⟩
    · rw [spanL_snoc, k3]; rfl
    · rw [spanL_snoc, spanStep, e2]; exact k5
end Go.Proofs.Ytbkknliggnhpcaa
/- Contracts of the questions of Safe and First, and of slices.Min. -/
namespace Go.Proofs.Ytbkknliggnhpcaa
open Go.RowKit
attribute [local go_sem ↓] Go.wp_at_zero Go.wp_at_succ

theorem nth5 {t : List Int} {k : Nat} (hk : k < 5) : nth [nth t 0, nth t 1, nth t 2, nth t 3, nth t 4] k = nth t k := by
  obtain rfl | rfl | rfl | rfl | rfl : k = 0 ∨ k = 1 ∨ k = 2 ∨ k = 3 ∨ k = 4 := by omega
  all_goals rfl

set_option maxHeartbeats 1600000 in
set_option maxRecDepth 100000 in
theorem safe1_any {w : World} {bl bh k : Nat} {hour : Int} {s : St} {t : List Int} (hk : k < 5) (hl : w.cell? ⟨bl, 0, none⟩ = some (.int .i64 k)) (hh : w.cell? ⟨bh, 0, none⟩ = some (.int .i64 hour)) :
    Calls Try.prog 79 #[stVal s, lotsVal t, .pointer (some ⟨bl, 0, none⟩), .pointer (some ⟨bh, 0, none⟩)] w fun e w' => e = .returned (.bool (decide (nth t k > hour))) ∧ Below w.heap.size w w' := by
  have z1 := cell_lt hl
  have z2 := cell_lt hh
  have hk0 : (0 : Int) ≤ (k : Int) := Int.natCast_nonneg _
  have hk5 : (k : Int) < 5 := by omega
  simp only [stVal, lotsVal, iv]
  go_enter Try.func79, Try.ntmps79
  go_upto_region 1 with (fail)
  have hB : Below w.heap.size w ((w.alloc (.cells #[.int .i64 s.hold, .int .i64 s.warm, .int .i64 (nth s.greens 0), .int .i64 (nth s.greens 1), .int .i64 (nth s.greens 2), .int .i64 (nth s.greens 3), .int .i64 (nth s.greens 4), .int .i64 s.there] 110)).alloc (.cells #[.int .i64 (nth t 0), .int .i64 (nth t 1), .int .i64 (nth t 2), .int .i64 (nth t 3), .int .i64 (nth t 4)] 108)) := ((Below.refl _ _).alloc (Nat.le_refl _) _).alloc (by simp) _
  have hS0 : OwnE 110 ((w.alloc (.cells #[.int .i64 s.hold, .int .i64 s.warm, .int .i64 (nth s.greens 0), .int .i64 (nth s.greens 1), .int .i64 (nth s.greens 2), .int .i64 (nth s.greens 3), .int .i64 (nth s.greens 4), .int .i64 s.there] 110)).alloc (.cells #[.int .i64 (nth t 0), .int .i64 (nth t 1), .int .i64 (nth t 2), .int .i64 (nth t 3), .int .i64 (nth t 4)] 108)) w.heap.size w.heap.size 8 (stRow s) := (OwnE.made8 w 110 _ _ _ _ _ _ _ _).block ((Below.refl (w.alloc (.cells #[.int .i64 s.hold, .int .i64 s.warm, .int .i64 (nth s.greens 0), .int .i64 (nth s.greens 1), .int .i64 (nth s.greens 2), .int .i64 (nth s.greens 3), .int .i64 (nth s.greens 4), .int .i64 s.there] 110)).heap.size (w.alloc (.cells #[.int .i64 s.hold, .int .i64 s.warm, .int .i64 (nth s.greens 0), .int .i64 (nth s.greens 1), .int .i64 (nth s.greens 2), .int .i64 (nth s.greens 3), .int .i64 (nth s.greens 4), .int .i64 s.there] 110))).alloc (Nat.le_refl _) (.cells #[.int .i64 (nth t 0), .int .i64 (nth t 1), .int .i64 (nth t 2), .int .i64 (nth t 3), .int .i64 (nth t 4)] 108) |>.block w.heap.size (by simp))
  have hR0 : OwnE 108 ((w.alloc (.cells #[.int .i64 s.hold, .int .i64 s.warm, .int .i64 (nth s.greens 0), .int .i64 (nth s.greens 1), .int .i64 (nth s.greens 2), .int .i64 (nth s.greens 3), .int .i64 (nth s.greens 4), .int .i64 s.there] 110)).alloc (.cells #[.int .i64 (nth t 0), .int .i64 (nth t 1), .int .i64 (nth t 2), .int .i64 (nth t 3), .int .i64 (nth t 4)] 108)) w.heap.size (w.heap.size + 1) 5 [nth t 0, nth t 1, nth t 2, nth t 3, nth t 4] := by
    have := (OwnE.made5 (w.alloc (.cells #[.int .i64 s.hold, .int .i64 s.warm, .int .i64 (nth s.greens 0), .int .i64 (nth s.greens 1), .int .i64 (nth s.greens 2), .int .i64 (nth s.greens 3), .int .i64 (nth s.greens 4), .int .i64 s.there] 110)) 108 (nth t 0) (nth t 1) (nth t 2) (nth t 3) (nth t 4)).base (base' := w.heap.size) (by simp)
    simpa using this
  have hzz : ((w.alloc (.cells #[.int .i64 s.hold, .int .i64 s.warm, .int .i64 (nth s.greens 0), .int .i64 (nth s.greens 1), .int .i64 (nth s.greens 2), .int .i64 (nth s.greens 3), .int .i64 (nth s.greens 4), .int .i64 s.there] 110)).alloc (.cells #[.int .i64 (nth t 0), .int .i64 (nth t 1), .int .i64 (nth t 2), .int .i64 (nth t 3), .int .i64 (nth t 4)] 108)).heap.size = w.heap.size + 1 + 1 := by simp
  generalize ((w.alloc (.cells #[.int .i64 s.hold, .int .i64 s.warm, .int .i64 (nth s.greens 0), .int .i64 (nth s.greens 1), .int .i64 (nth s.greens 2), .int .i64 (nth s.greens 3), .int .i64 (nth s.greens 4), .int .i64 s.there] 110)).alloc (.cells #[.int .i64 (nth t 0), .int .i64 (nth t 1), .int .i64 (nth t 2), .int .i64 (nth t 3), .int .i64 (nth t 4)] 108)) = w1 at *
  have l1 := (hB.cell (p := ⟨bl, 0, none⟩) z1).trans hl
  have l2 := (hB.cell (p := ⟨bh, 0, none⟩) z2).trans hh
  have l3 := hR0.cell hk
  rw [nth5 hk] at l3
  have HB := hide hB
  clear hB hS0 hR0 hl hh
  go_quiet (fail)
  go_wp2_with fail
  go_ret
  exact ⟨ret_b (by simp), HB.out.trans ((Dr.refl _).drewN _ |>.below _)⟩

theorem beq_dec (a b : Int) : (a == b) = decide (a = b) := by by_cases h : a = b <;> simp [h]
/-- The least of some numbers. -/
def minTo (xs : List Int) : Nat → Int
  | 0 => nth xs 0
  | j + 1 => min (minTo xs j) (nth xs (j + 1))
set_option maxHeartbeats 1600000 in
set_option maxRecDepth 100000 in
theorem min_any {w : World} {b n : Nat} {xs : List Int} (hn : 0 < n ∧ n ≤ 100) (hx : ∀ i, i < n → w.cell? ⟨b, i, none⟩ = some (.int .i64 (nth xs i))) :
    Calls Try.prog 84 #[.slice (some ⟨b, 0, none⟩) n n] w fun e w' => e = .returned (.int .i64 (minTo xs (n - 1))) ∧ w = w' := by
  have h0 := hx 0 hn.1
  have hb1 : ((n : Int) < 1) = False := by simp; omega
  have hb2 : decide ((n : Int) < 1) = false := by simp; omega
  have HX := hide hx
  have hn0 := hn.1
  have hn0' : (0 : Int) < (n : Int) := by omega
  clear hx
  go_enter Try.func84, Try.ntmps84
  go_wp2_with fail
  go_loopw [3, 4] (fun v3 v4 wr => ∃ k : Nat, k + 1 ≤ n ∧ v3 = .int .i64 (minTo xs k) ∧ v4 = .int .i64 ((k + 1 : Nat) : Int) ∧ w = wr) (fun _ v4 _ => n - (intOf v4).toNat)
  case atStart => exact ⟨0, by omega, rfl, rfl, rfl⟩
  case round =>
    obtain ⟨k, hk, rfl, rfl, rfl⟩ := hrel
    have hk0 : (0 : Int) ≤ ((k + 1 : Nat) : Int) := Int.natCast_nonneg _
    by_cases hlt : k + 1 < n
    · have hx := HX.out (k + 1) hlt
      have hk1 : ((k + 1 : Nat) : Int) < (n : Int) := by omega
      go_wp2_with fail
      refine ⟨⟨k + 1, by omega, ?_⟩, by simp [intOf]; omega⟩
      have e : (if nth xs (k + 1) < minTo xs k then nth xs (k + 1) else minTo xs k) = min (minTo xs k) (nth xs (k + 1)) := by
        rw [Int.min_def]; split <;> split <;> omega
      rw [minTo, e]
      exact ⟨rfl, by go_num, trivial⟩
    · obtain rfl : n = k + 1 := by omega
      have hk1 : ¬ ((k + 1 : Nat) : Int) < ((k + 1 : Nat) : Int) := by omega
      go_wp2_with fail
      exact bodyPost_ret (v := .int .i64 (minTo xs (k + 1 - 1))) (by simp [results, Try.results84, go_sem]) rfl ⟨rfl, rfl⟩

set_option maxHeartbeats 4000000 in
set_option maxRecDepth 100000 in
theorem first1_any {w : World} {bl g b n k c1 : Nat} {A1 : Option Addr} {s : St} {t : List Int} (hk : k < 5) (hn : n ≤ 8) (hl : w.cell? ⟨bl, 0, none⟩ = some (.int .i64 k)) (hg : w.cell? ⟨g, 0, none⟩ = some (.pointer (some ⟨b, 0, none⟩))) (q0 : w.cell? ⟨b, 0, none⟩ = some (.slice A1 n c1)) :
    Calls Try.prog 83 #[stVal s, lotsVal t, .pointer (some ⟨bl, 0, none⟩), .pointer (some ⟨g, 0, none⟩)] w fun e w' => e = .returned (.bool (decide (nth t k < (n : Int) + 1) && decide (minTo t 4 = nth t k))) ∧ Below w.heap.size w w' := by
  have z1 := cell_lt hl
  have z2 := cell_lt hg
  have z3 := cell_lt q0
  have hk0 : (0 : Int) ≤ (k : Int) := Int.natCast_nonneg _
  have hk5 : (k : Int) < 5 := by omega
  simp only [stVal, lotsVal, iv]
  go_enter Try.func83, Try.ntmps83
  go_upto_region 1 with (fail)
  have hB : Below w.heap.size w ((w.alloc (.cells #[.int .i64 s.hold, .int .i64 s.warm, .int .i64 (nth s.greens 0), .int .i64 (nth s.greens 1), .int .i64 (nth s.greens 2), .int .i64 (nth s.greens 3), .int .i64 (nth s.greens 4), .int .i64 s.there] 110)).alloc (.cells #[.int .i64 (nth t 0), .int .i64 (nth t 1), .int .i64 (nth t 2), .int .i64 (nth t 3), .int .i64 (nth t 4)] 108)) := ((Below.refl _ _).alloc (Nat.le_refl _) _).alloc (by simp) _
  have hS0 : OwnE 110 ((w.alloc (.cells #[.int .i64 s.hold, .int .i64 s.warm, .int .i64 (nth s.greens 0), .int .i64 (nth s.greens 1), .int .i64 (nth s.greens 2), .int .i64 (nth s.greens 3), .int .i64 (nth s.greens 4), .int .i64 s.there] 110)).alloc (.cells #[.int .i64 (nth t 0), .int .i64 (nth t 1), .int .i64 (nth t 2), .int .i64 (nth t 3), .int .i64 (nth t 4)] 108)) w.heap.size w.heap.size 8 (stRow s) := (OwnE.made8 w 110 _ _ _ _ _ _ _ _).block ((Below.refl (w.alloc (.cells #[.int .i64 s.hold, .int .i64 s.warm, .int .i64 (nth s.greens 0), .int .i64 (nth s.greens 1), .int .i64 (nth s.greens 2), .int .i64 (nth s.greens 3), .int .i64 (nth s.greens 4), .int .i64 s.there] 110)).heap.size (w.alloc (.cells #[.int .i64 s.hold, .int .i64 s.warm, .int .i64 (nth s.greens 0), .int .i64 (nth s.greens 1), .int .i64 (nth s.greens 2), .int .i64 (nth s.greens 3), .int .i64 (nth s.greens 4), .int .i64 s.there] 110))).alloc (Nat.le_refl _) (.cells #[.int .i64 (nth t 0), .int .i64 (nth t 1), .int .i64 (nth t 2), .int .i64 (nth t 3), .int .i64 (nth t 4)] 108) |>.block w.heap.size (by simp))
  have hR0 : OwnE 108 ((w.alloc (.cells #[.int .i64 s.hold, .int .i64 s.warm, .int .i64 (nth s.greens 0), .int .i64 (nth s.greens 1), .int .i64 (nth s.greens 2), .int .i64 (nth s.greens 3), .int .i64 (nth s.greens 4), .int .i64 s.there] 110)).alloc (.cells #[.int .i64 (nth t 0), .int .i64 (nth t 1), .int .i64 (nth t 2), .int .i64 (nth t 3), .int .i64 (nth t 4)] 108)) w.heap.size (w.heap.size + 1) 5 [nth t 0, nth t 1, nth t 2, nth t 3, nth t 4] := by
    have := (OwnE.made5 (w.alloc (.cells #[.int .i64 s.hold, .int .i64 s.warm, .int .i64 (nth s.greens 0), .int .i64 (nth s.greens 1), .int .i64 (nth s.greens 2), .int .i64 (nth s.greens 3), .int .i64 (nth s.greens 4), .int .i64 s.there] 110)) 108 (nth t 0) (nth t 1) (nth t 2) (nth t 3) (nth t 4)).base (base' := w.heap.size) (by simp)
    simpa using this
  have hzz : ((w.alloc (.cells #[.int .i64 s.hold, .int .i64 s.warm, .int .i64 (nth s.greens 0), .int .i64 (nth s.greens 1), .int .i64 (nth s.greens 2), .int .i64 (nth s.greens 3), .int .i64 (nth s.greens 4), .int .i64 s.there] 110)).alloc (.cells #[.int .i64 (nth t 0), .int .i64 (nth t 1), .int .i64 (nth t 2), .int .i64 (nth t 3), .int .i64 (nth t 4)] 108)).heap.size = w.heap.size + 1 + 1 := by simp
  generalize ((w.alloc (.cells #[.int .i64 s.hold, .int .i64 s.warm, .int .i64 (nth s.greens 0), .int .i64 (nth s.greens 1), .int .i64 (nth s.greens 2), .int .i64 (nth s.greens 3), .int .i64 (nth s.greens 4), .int .i64 s.there] 110)).alloc (.cells #[.int .i64 (nth t 0), .int .i64 (nth t 1), .int .i64 (nth t 2), .int .i64 (nth t 3), .int .i64 (nth t 4)] 108)) = w1 at *
  have l1 := (hB.cell (p := ⟨bl, 0, none⟩) z1).trans hl
  have l2 := (hB.cell (p := ⟨g, 0, none⟩) z2).trans hg
  have l4 := (hB.cell (p := ⟨b, 0, none⟩) z3).trans q0
  have l3 := hR0.cell hk
  rw [nth5 hk] at l3
  have hmn : ∀ k, Calls Try.prog 84 #[.slice (some ⟨w.heap.size + 1, 0, none⟩) 5 5] (w1.drewN k) fun e w' => e = .returned (.int .i64 (minTo t 4)) ∧ w' = w1.drewN k := fun k =>
    (min_any (w := w1.drewN k) (b := w.heap.size + 1) (n := 5) (xs := t) (by omega) (fun i hi => by have := hR0.cell hi; rw [nth5 hi] at this; exact this)).mono (fun _ _ ⟨h1, h2⟩ => ⟨h1, h2.symm⟩)
  have hnv : ∀ k, Calls Try.prog 72 #[.pointer (some ⟨b, 0, none⟩)] (w1.drewN k) fun e w' => e = .returned (.int .i64 ((n : Int) + 1)) ∧ w' = w1.drewN k := fun k =>
    (neverT_any (w := w1.drewN k) (n := n) l4 hn).mono (fun _ _ ⟨h1, h2⟩ => ⟨h1, h2.symm⟩)
  have HMN := hide hmn
  have HNV := hide hnv
  clear hmn hnv
  have HB := hide hB
  clear hB hS0 hR0 hl hg q0
  cases hc : decide (nth t k < (n : Int) + 1) with
  | true =>
    have hlt : nth t k < (n : Int) + 1 := by simpa using hc
    go_quiet (first | (go_at_call 72; exact Calls.quiet_of_same (HNV.out _)) | (go_at_call 84; exact Calls.quiet_of_same (HMN.out _)))
    all_goals
      go_wp2_with fail
      go_ret
      exact ⟨ret_b (by by_cases hq : minTo t 4 = nth t k <;> (simp [hq]; try omega)), HB.out.trans ((Dr.refl _).drewN _ |>.below _)⟩
  | false =>
    have hlt : ¬ nth t k < (n : Int) + 1 := by simpa using hc
    go_quiet (first | (go_at_call 72; exact Calls.quiet_of_same (HNV.out _)) | (go_at_call 84; exact Calls.quiet_of_same (HMN.out _)))
    all_goals
      go_wp2_with fail
      go_ret
      exact ⟨ret_b (by by_cases hq : minTo t 4 = nth t k <;> (simp [hq]; try omega)), HB.out.trans ((Dr.refl _).drewN _ |>.below _)⟩
end Go.Proofs.Ytbkknliggnhpcaa
/- Contract of the question of Spoils. -/
namespace Go.Proofs.Ytbkknliggnhpcaa
open Go.RowKit
attribute [local go_sem ↓] Go.wp_at_zero Go.wp_at_succ

set_option maxRecDepth 100000 in
theorem bits_andNot {m j : Nat} (hm : m < 32) (hj : j < 5) : bits BinOp.andNot .i64 (m : Int) (wrap64 (2 ^ j)) = ((m &&& (31 - 2 ^ j) : Nat) : Int) := by
  have h : ∀ m : Fin 32, ∀ j : Fin 5, bits BinOp.andNot .i64 ((m : Nat) : Int) (wrap64 (2 ^ (j : Nat))) = (((m : Nat) &&& (31 - 2 ^ (j : Nat)) : Nat) : Int) := of_decide_eq_true (by kernel_rfl)
  exact h ⟨m, hm⟩ ⟨j, hj⟩
set_option maxRecDepth 100000 in
theorem idx5 {t : List Int} {k : Nat} {W : World} (hk : k < 5) : Sem.run Try.prog (Instr.index 108 (.agg #[.int .i64 (nth t 0), .int .i64 (nth t 1), .int .i64 (nth t 2), .int .i64 (nth t 3), .int .i64 (nth t 4)]) (.int .i64 k)) W = .ok (.int .i64 (nth t k)) W := by
  obtain rfl | rfl | rfl | rfl | rfl : k = 0 ∨ k = 1 ∨ k = 2 ∨ k = 3 ∨ k = 4 := by omega
  all_goals first | rfl | (go_simp; done) | (go_simp; rfl)
/-- A state without a lot. -/
def dropSt (s : St) (j : Nat) : St := { s with there := (s.there.toNat &&& (31 - 2 ^ j) : Nat) }
theorem dropSt_ok {s : St} (h : StB s) (j : Nat) : StB (dropSt s j) :=
  ⟨h.len, h.gb, h.wb, h.hb, by
    show 0 ≤ ((s.there.toNat &&& (31 - 2 ^ j) : Nat) : Int) ∧ ((s.there.toNat &&& (31 - 2 ^ j) : Nat) : Int) < 32
    have : s.there.toNat &&& (31 - 2 ^ j) ≤ 31 := Nat.le_trans Nat.and_le_right (Nat.sub_le _ _)
    generalize s.there.toNat &&& (31 - 2 ^ j) = x at *
    omega⟩

set_option maxHeartbeats 4000000 in
set_option maxRecDepth 100000 in
theorem spoils1_any {w : World} {L b bm : Nat} {c : Cargo} {A1 A2 A3 A4 : Option Addr} {c1 c2 c3 c4 but : Nat} {by' bb bl g k : Nat} {s : St} (h : LookL w L b bm c A1 A2 A3 A4 c1 c2 c3 c4 but (timesV c)) (hsm : Small c) (hs : StB s) {t : List Int}
    (hk : k < 5) (hj : by' < 5) (hbb : w.cell? ⟨bb, 0, none⟩ = some (.int .i64 by')) (hg : w.cell? ⟨g, 0, none⟩ = some (.pointer (some ⟨b, 0, none⟩))) (hl : w.cell? ⟨bl, 0, none⟩ = some (.int .i64 k)) :
    Calls Try.prog 86 #[stVal s, lotsVal t, .pointer (some ⟨bb, 0, none⟩), .pointer (some ⟨g, 0, none⟩), .pointer (some ⟨bl, 0, none⟩)] w fun e w' => e = .returned (.bool (decide (nth (timesV c (dropSt s by')) k > nth t k))) ∧ Keep (fun q => q = bm) w w' ∧ Known w' bm (timesV c) := by
  have z1 := cell_lt hl
  have z2 := cell_lt hg
  have z3 := cell_lt hbb
  have zb := h.hb
  have zm := h.hm
  have n1 := h.k.ne hl
  have n2 := h.k.ne hg
  have hk0 : (0 : Int) ≤ (k : Int) := Int.natCast_nonneg _
  have hk5 : (k : Int) < 5 := by omega
  have hj0 : (0 : Int) ≤ (by' : Int) := Int.natCast_nonneg _
  have hj5 : (by' : Int) < 5 := by omega
  have htb := hs.tb
  have hbn := bits_andNot (m := s.there.toNat) (j := by') (by omega) hj
  rw [show ((s.there.toNat : Nat) : Int) = s.there by omega] at hbn
  simp only [stVal, lotsVal, iv]
  go_enter Try.func86, Try.ntmps86
  go_upto_region 1 with (fail)
  have hB : Below w.heap.size w ((w.alloc (.cells #[.int .i64 s.hold, .int .i64 s.warm, .int .i64 (nth s.greens 0), .int .i64 (nth s.greens 1), .int .i64 (nth s.greens 2), .int .i64 (nth s.greens 3), .int .i64 (nth s.greens 4), .int .i64 s.there] 110)).alloc (.cells #[.int .i64 (nth t 0), .int .i64 (nth t 1), .int .i64 (nth t 2), .int .i64 (nth t 3), .int .i64 (nth t 4)] 108)) := ((Below.refl _ _).alloc (Nat.le_refl _) _).alloc (by simp) _
  have hS0 : OwnE 110 ((w.alloc (.cells #[.int .i64 s.hold, .int .i64 s.warm, .int .i64 (nth s.greens 0), .int .i64 (nth s.greens 1), .int .i64 (nth s.greens 2), .int .i64 (nth s.greens 3), .int .i64 (nth s.greens 4), .int .i64 s.there] 110)).alloc (.cells #[.int .i64 (nth t 0), .int .i64 (nth t 1), .int .i64 (nth t 2), .int .i64 (nth t 3), .int .i64 (nth t 4)] 108)) w.heap.size w.heap.size 8 (stRow s) := (OwnE.made8 w 110 _ _ _ _ _ _ _ _).block ((Below.refl (w.alloc (.cells #[.int .i64 s.hold, .int .i64 s.warm, .int .i64 (nth s.greens 0), .int .i64 (nth s.greens 1), .int .i64 (nth s.greens 2), .int .i64 (nth s.greens 3), .int .i64 (nth s.greens 4), .int .i64 s.there] 110)).heap.size (w.alloc (.cells #[.int .i64 s.hold, .int .i64 s.warm, .int .i64 (nth s.greens 0), .int .i64 (nth s.greens 1), .int .i64 (nth s.greens 2), .int .i64 (nth s.greens 3), .int .i64 (nth s.greens 4), .int .i64 s.there] 110))).alloc (Nat.le_refl _) (.cells #[.int .i64 (nth t 0), .int .i64 (nth t 1), .int .i64 (nth t 2), .int .i64 (nth t 3), .int .i64 (nth t 4)] 108) |>.block w.heap.size (by simp))
  have hR0 : OwnE 108 ((w.alloc (.cells #[.int .i64 s.hold, .int .i64 s.warm, .int .i64 (nth s.greens 0), .int .i64 (nth s.greens 1), .int .i64 (nth s.greens 2), .int .i64 (nth s.greens 3), .int .i64 (nth s.greens 4), .int .i64 s.there] 110)).alloc (.cells #[.int .i64 (nth t 0), .int .i64 (nth t 1), .int .i64 (nth t 2), .int .i64 (nth t 3), .int .i64 (nth t 4)] 108)) w.heap.size (w.heap.size + 1) 5 [nth t 0, nth t 1, nth t 2, nth t 3, nth t 4] := by
    have := (OwnE.made5 (w.alloc (.cells #[.int .i64 s.hold, .int .i64 s.warm, .int .i64 (nth s.greens 0), .int .i64 (nth s.greens 1), .int .i64 (nth s.greens 2), .int .i64 (nth s.greens 3), .int .i64 (nth s.greens 4), .int .i64 s.there] 110)) 108 (nth t 0) (nth t 1) (nth t 2) (nth t 3) (nth t 4)).base (base' := w.heap.size) (by simp)
    simpa using this
  have hzz : ((w.alloc (.cells #[.int .i64 s.hold, .int .i64 s.warm, .int .i64 (nth s.greens 0), .int .i64 (nth s.greens 1), .int .i64 (nth s.greens 2), .int .i64 (nth s.greens 3), .int .i64 (nth s.greens 4), .int .i64 s.there] 110)).alloc (.cells #[.int .i64 (nth t 0), .int .i64 (nth t 1), .int .i64 (nth t 2), .int .i64 (nth t 3), .int .i64 (nth t 4)] 108)).heap.size = w.heap.size + 1 + 1 := by simp
  generalize ((w.alloc (.cells #[.int .i64 s.hold, .int .i64 s.warm, .int .i64 (nth s.greens 0), .int .i64 (nth s.greens 1), .int .i64 (nth s.greens 2), .int .i64 (nth s.greens 3), .int .i64 (nth s.greens 4), .int .i64 s.there] 110)).alloc (.cells #[.int .i64 (nth t 0), .int .i64 (nth t 1), .int .i64 (nth t 2), .int .i64 (nth t 3), .int .i64 (nth t 4)] 108)) = w1 at *
  have l1 := (hB.cell (p := ⟨bl, 0, none⟩) z1).trans hl
  have l2 := (hB.cell (p := ⟨g, 0, none⟩) z2).trans hg
  have l3 := (hB.cell (p := ⟨bb, 0, none⟩) z3).trans hbb
  have s7 := hS0.cell (i := 7) (by omega)
  have f7 := hS0.frozen 7
  rw [stRow, nth8_7] at s7
  have HB := hide hB
  have HR0 := hide hR0
  have HS0 := hide hS0
  have HH := hide h
  clear hB hS0 hR0 hl hg hbb h
  apply wp_one
  case h =>
    go_region
    all_goals first | exact ⟨rfl, rfl, rfl⟩ | trace_state
  case hq =>
  have hs2 := HS0.out.set 7 (s.there.toNat &&& (31 - 2 ^ by') : Nat)
  have hkA : Keep (fun q => q = w.heap.size) w1 (w1.setCell ⟨w.heap.size, 7, none⟩ (.int .i64 (s.there.toNat &&& (31 - 2 ^ by') : Nat))).drew := (Keep.setCell _ _ _ (fun q => q = w.heap.size) rfl).trans (Keep.of_below' (Below.refl _ _).drew _)
  have hs3 : OwnE 110 (w1.setCell ⟨w.heap.size, 7, none⟩ (.int .i64 (s.there.toNat &&& (31 - 2 ^ by') : Nat))).drew w.heap.size w.heap.size 8 (stRow (dropSt s by')) := hs2.block rfl
  generalize (w1.setCell ⟨w.heap.size, 7, none⟩ (.int .i64 (s.there.toNat &&& (31 - 2 ^ by') : Nat))).drew = w2 at *
  have hz2 := hkA.size
  have hz1 := HB.out.size
  have l1 := (hkA.cell (cell_lt l1) (by omega)).trans l1
  have l2 := (hkA.cell (cell_lt l2) (by omega)).trans l2
  have l4 := HR0.out.cell hk
  rw [nth5 hk] at l4
  have l4 := (hkA.cell (cell_lt l4) (by omega)).trans l4
  have hL2 := HH.out.keep' ((Keep.of_below' HB.out (fun q => w.heap.size ≤ q)).trans (hkA.mono (fun q _ e => by omega))) (fun q e => by have := HH.out.hL; omega)
  have hL3 := hL2.keep' (Keep.of_below' (Below.refl w2.heap.size w2).drew (fun _ => False)) (fun _ h => h.elim)
  have hT := times_L hL3 hsm (dropSt s by') (dropSt_ok hs by')
  have hKK : Keep (fun q => q = bm) w w2.drew := (Keep.mono (((Keep.of_below' HB.out (fun q => w.heap.size ≤ q)).trans (hkA.mono (fun q _ e => by omega))).trans (Keep.of_below' (Below.refl w2.heap.size w2).drew _)) (fun q hq e => by omega))
  have s0 := hs3.cell (i := 0) (by omega)
  have s1 := hs3.cell (i := 1) (by omega)
  have s2 := hs3.cell (i := 2) (by omega)
  have s3 := hs3.cell (i := 3) (by omega)
  have s4 := hs3.cell (i := 4) (by omega)
  have s5 := hs3.cell (i := 5) (by omega)
  have s6 := hs3.cell (i := 6) (by omega)
  have s7 := hs3.cell (i := 7) (by omega)
  simp only [stRow, nth8_0, nth8_1, nth8_2, nth8_3, nth8_4, nth8_5, nth8_6, nth8_7] at s0 s1 s2 s3 s4 s5 s6 s7
  have HT := hide hT
  have HKK := hide hKK
  clear hs2 hkA hs3 hL2 hL3 hT hKK HS0 HR0 HB HH
  obtain ⟨S, hSd⟩ : ∃ S : World → Prop, S = (fun W' : World => W'.cell? ⟨bl, 0, none⟩ = some (.int .i64 k) ∧ W'.cell? ⟨g, 0, none⟩ = some (.pointer (some ⟨b, 0, none⟩)) ∧ W'.cell? ⟨w.heap.size + 1, k, none⟩ = some (.int .i64 (nth t k)) ∧ W'.cell? ⟨w.heap.size, 0, none⟩ = some (.int .i64 (s.hold)) ∧ W'.cell? ⟨w.heap.size, 1, none⟩ = some (.int .i64 (s.warm)) ∧ W'.cell? ⟨w.heap.size, 2, none⟩ = some (.int .i64 (nth s.greens 0)) ∧ W'.cell? ⟨w.heap.size, 3, none⟩ = some (.int .i64 (nth s.greens 1)) ∧ W'.cell? ⟨w.heap.size, 4, none⟩ = some (.int .i64 (nth s.greens 2)) ∧ W'.cell? ⟨w.heap.size, 5, none⟩ = some (.int .i64 (nth s.greens 3)) ∧ W'.cell? ⟨w.heap.size, 6, none⟩ = some (.int .i64 (nth s.greens 4)) ∧ W'.cell? ⟨w.heap.size, 7, none⟩ = some (.int .i64 ((s.there.toNat &&& (31 - 2 ^ by') : Nat)))) := ⟨_, rfl⟩
  have HSD := hide hSd
  clear hSd
  go_upto_region 2 with (fail)
  refine wp_region_held_drew (S := S) (by kernel_rfl) (by rw [HSD.out]; exact ⟨l1, l2, l4, s0, s1, s2, s3, s4, s5, s6, s7⟩) (fun hHeld => ?_)
  clear s0 s1 s2 s3 s4 s5 s6 s7 l4
  refine wpAnyH_take (i := 0) (v := ?_) rfl (by kernel_rfl) (by kernel_rfl) (by kernel_rfl) (fun _ _ _ h => h) (Or.inl ⟨by rfl, fun W hSw => ?_⟩) hHeld ?_
  rotate_left
  · rw [HSD.out] at hSw; obtain ⟨s0, s1, s2, s3, s4, s5, s6, s7, s8, s9, s10⟩ := hSw; go_simp; try rfl
  simp only [Act.put, List.setIfInBounds_toArray, List.set_cons_zero, List.set_cons_succ]
  refine wpAnyH_take (i := 1) (v := ?_) rfl (by kernel_rfl) (by kernel_rfl) (by kernel_rfl) (fun _ _ _ h => h) (Or.inl ⟨by rfl, fun W hSw => ?_⟩) hHeld ?_
  rotate_left
  · rw [HSD.out] at hSw; obtain ⟨s0, s1, s2, s3, s4, s5, s6, s7, s8, s9, s10⟩ := hSw; go_simp; try rfl
  simp only [Act.put, List.setIfInBounds_toArray, List.set_cons_zero, List.set_cons_succ]
  refine wpAnyH_take (i := 3) (v := ?_) rfl (by kernel_rfl) (by kernel_rfl) (by kernel_rfl) (fun _ _ _ h => h) (Or.inl ⟨by rfl, fun W hSw => ?_⟩) hHeld ?_
  rotate_left
  · rw [HSD.out] at hSw; obtain ⟨s0, s1, s2, s3, s4, s5, s6, s7, s8, s9, s10⟩ := hSw; go_simp; try rfl
  simp only [Act.put, List.setIfInBounds_toArray, List.set_cons_zero, List.set_cons_succ]
  refine wpAnyH_take (i := 5) (v := ?_) rfl (by kernel_rfl) (by kernel_rfl) (by kernel_rfl) (fun _ _ _ h => h) (Or.inl ⟨by rfl, fun W hSw => ?_⟩) hHeld ?_
  rotate_left
  · rw [HSD.out] at hSw; obtain ⟨s0, s1, s2, s3, s4, s5, s6, s7, s8, s9, s10⟩ := hSw; go_simp; try rfl
  simp only [Act.put, List.setIfInBounds_toArray, List.set_cons_zero, List.set_cons_succ]
  refine wpAnyH_take (i := 6) (v := ?_) rfl (by kernel_rfl) (by kernel_rfl) (by kernel_rfl) (fun _ _ _ h => h) (Or.inl ⟨by rfl, fun W hSw => ?_⟩) hHeld ?_
  rotate_left
  · rw [HSD.out] at hSw; obtain ⟨s0, s1, s2, s3, s4, s5, s6, s7, s8, s9, s10⟩ := hSw; go_simp; try rfl
  simp only [Act.put, List.setIfInBounds_toArray, List.set_cons_zero, List.set_cons_succ]
  refine wpAnyH_take (i := 7) (v := ?_) rfl (by kernel_rfl) (by kernel_rfl) (by kernel_rfl) (fun _ _ _ h => h) (Or.inl ⟨by rfl, fun W hSw => ?_⟩) hHeld ?_
  rotate_left
  · rw [HSD.out] at hSw; obtain ⟨s0, s1, s2, s3, s4, s5, s6, s7, s8, s9, s10⟩ := hSw; go_simp; try rfl
  simp only [Act.put, List.setIfInBounds_toArray, List.set_cons_zero, List.set_cons_succ]
  refine wpAnyH_ready (rs := [2]) (by kernel_rfl) (by simp) ?_
  refine AllReadyH.cons rfl (fun K hK => ?_) AllReadyH.nil
  go_simp
  go_at_call 87
  refine HT.out.mono ?_
  rintro e w3 ⟨rfl, hk3, hn3⟩
  refine hK.out _ _ (by rw [HSD.out] at hHeld ⊢; obtain ⟨s0, s1, s2, s3, s4, s5, s6, s7, s8, s9, s10⟩ := hHeld; exact ⟨(hk3.cell (cell_lt s0) (by omega)).trans s0, (hk3.cell (cell_lt s1) (by omega)).trans s1, (hk3.cell (cell_lt s2) (by omega)).trans s2, (hk3.cell (cell_lt s3) (by omega)).trans s3, (hk3.cell (cell_lt s4) (by omega)).trans s4, (hk3.cell (cell_lt s5) (by omega)).trans s5, (hk3.cell (cell_lt s6) (by omega)).trans s6, (hk3.cell (cell_lt s7) (by omega)).trans s7, (hk3.cell (cell_lt s8) (by omega)).trans s8, (hk3.cell (cell_lt s9) (by omega)).trans s9, (hk3.cell (cell_lt s10) (by omega)).trans s10⟩) (fun hHeld => ?_)
  simp only [lotsVal, iv]
  clear hK K
  try simp only [Act.put, List.setIfInBounds_toArray, List.set_cons_zero, List.set_cons_succ]
  refine wpAnyH_take (i := 4) (v := ?_) rfl (by kernel_rfl) (by kernel_rfl) (by kernel_rfl) (fun _ _ _ h => h) (Or.inl ⟨by rfl, fun W hSw => ?_⟩) hHeld ?_
  rotate_left
  · rw [HSD.out] at hSw; obtain ⟨s0, s1, s2, s3, s4, s5, s6, s7, s8, s9, s10⟩ := hSw; go_simp; rw [idx5 hk]; rfl
  simp only [Act.put, List.setIfInBounds_toArray, List.set_cons_zero, List.set_cons_succ]
  refine wpAnyH_take (i := 8) (v := ?_) rfl (by kernel_rfl) (by kernel_rfl) (by kernel_rfl) (fun _ _ _ h => h) (Or.inl ⟨by rfl, fun W hSw => ?_⟩) hHeld ?_
  rotate_left
  · rw [HSD.out] at hSw; obtain ⟨s0, s1, s2, s3, s4, s5, s6, s7, s8, s9, s10⟩ := hSw; go_simp; try rfl
  simp only [Act.put, List.setIfInBounds_toArray, List.set_cons_zero, List.set_cons_succ]
  refine wpAnyH_take (i := 9) (v := ?_) rfl (by kernel_rfl) (by kernel_rfl) (by kernel_rfl) (fun _ _ _ h => h) (Or.inl ⟨by rfl, fun W hSw => ?_⟩) hHeld ?_
  rotate_left
  · rw [HSD.out] at hSw; obtain ⟨s0, s1, s2, s3, s4, s5, s6, s7, s8, s9, s10⟩ := hSw; go_simp; try rfl
  simp only [Act.put, List.setIfInBounds_toArray, List.set_cons_zero, List.set_cons_succ]
  refine wpAnyH_done (by kernel_rfl) ?_ _
  simp only [List.getElem_toArray, List.getElem_cons_succ, List.getElem_cons_zero, List.set_cons_zero, List.set_cons_succ]
  go_wp2_with fail
  go_ret
  exact ⟨ret_b (by simp), HKK.out.trans hk3, hn3⟩
end Go.Proofs.Ytbkknliggnhpcaa
/- Contracts of turn's list, of slices.Compare and cmp.Compare. -/
namespace Go.Proofs.Ytbkknliggnhpcaa
open Go.RowKit
attribute [local go_sem ↓] Go.wp_at_zero Go.wp_at_succ

def listN (set many : Nat) : List Nat := (List.range many).filter fun i => set.testBit i
theorem listN_succ (set k : Nat) : listN set (k + 1) = listN set k ++ if set.testBit k then [k] else [] := by
  simp only [listN, List.range_succ, List.filter_append, List.filter_cons, List.filter_nil]
theorem listN_le (set k : Nat) : (listN set k).length ≤ k := by simpa [listN] using List.length_filter_le (fun i => set.testBit i) (List.range k)

set_option maxHeartbeats 1600000 in
set_option maxRecDepth 100000 in
theorem list_any {set many : Nat} (hs : set < 32) (hm : many ≤ 5) (w : World) :
    Calls Try.prog 94 #[.int .i64 set, .int .i64 many] w fun e w' =>
      ∃ A c, e = .returned (.slice A (listN set many).length c) ∧ IntsS w' w'.heap.size A (listN set many).length c (natInts (listN set many)) ∧ (∀ ad, A = some ad → w.heap.size ≤ ad.block) ∧ Below w.heap.size w w' := by
  obtain ⟨i0, hi, hz0, hz1, hz2⟩ := info_parts Try.infoInt
  go_enter Try.func94, Try.ntmps94
  go_wp2_with fail
  go_loopw [4, 5, 7] (fun v _ i wr => ∃ (j : Nat), j ≤ many ∧ i = .int .i64 j ∧ Below w.heap.size w wr ∧ wr.ownsRow w.heap.size 3 1 v (listN set j).length ((listN set j).map fun n : Nat => .int .i64 n)) (fun _ _ i _ => many - (intOf i).toNat)
  case atStart => exact ⟨0, Nat.zero_le _, rfl, Below.refl _ _, World.ownsRow_nil _ _ _ _⟩
  case round =>
    obtain ⟨j, hj, rfl, hB, hown⟩ := hrel
    have hj0 : (0 : Int) ≤ (j : Int) := Int.natCast_nonneg _
    by_cases hlt : j < many
    · have hle := listN_le set j
      have hj1 : (j : Int) < (many : Int) := by omega
      have hba := bits_and hs (show j < 5 by omega)
      have hsz := hB.size
      have HS := hide (listN_succ set j)
      cases hb : set.testBit j with
      | true =>
        rw [hb, if_pos rfl] at hba
        have e : listN set (j + 1) = listN set j ++ [j] := by rw [HS.out, hb]; rfl
        have HE := hide e
        clear e
        go_wp2_with (first
          | (at_builtin
             refine wpList_append_own _ rfl _ _ 22 rfl w.heap.size 3 i0 (.int .i64 0) 1 8 Try.underlying22 hi hz0 hz1 hz2 rfl (by decide) _ _ _ rfl (hown.alloc _) ⟨wr.heap.size, 0, none⟩ 1 1 [.int .i64 j] rfl rfl ?c1 ?c2 ?c3 ?c4 ?c5 ?_
             case c1 => exact cell_one_new _ _ _
             case c2 => simp [Value.oneCell']
             case c3 => simp [maxLen]; omega
             case c4 => omega
             case c5 => simp; omega
             intro v' w1 hown' hg _
             have hb1 := app_below hsz hown hg
             clear hg))
        clear hi hz0 hz1 hz2
        go_roundw
        case rel => exact ⟨j + 1, by omega, by go_num, hB.trans hb1, by rw [HE.out]; simpa using hown'⟩
        case measure => simp [intOf]; omega
      | false =>
        rw [hb, if_neg (by simp)] at hba
        have e : listN set (j + 1) = listN set j := by rw [HS.out, hb]; simp
        have HE := hide e
        clear e
        go_wp2_with fail
        go_roundw
        case rel => exact ⟨j + 1, by omega, by go_num, hB, by rw [HE.out]; exact hown⟩
        case measure => simp [intOf]; omega
    · obtain rfl : j = many := by omega
      go_wp2_with fail
      go_ret
      obtain ⟨A', c', rfl, hs'⟩ := IntsS.of_own (xs := natInts (listN set j)) (by rw [natInts_vals]; exact hown)
      exact ⟨A', c', rfl, hs', (fun ad e => (World.ownsRow.lt hown ad.block (by rw [e]; rfl)).1), hB⟩

def cmp1 (x y : Int) : Int := if x < y then -1 else if y < x then 1 else 0
set_option maxRecDepth 100000 in
theorem cmp_any (x y : Int) (w : World) : Calls Try.prog 110 #[.int .i64 x, .int .i64 y] w fun e w' => e = .returned (.int .i64 (cmp1 x y)) ∧ w = w' := by
  have hn : ∀ z : Int, Calls Try.prog 111 #[.int .i64 z] w fun e w' => e = .returned (.bool false) ∧ w = w' := fun z => by
    go_enter Try.func111, Try.ntmps111
    go_wp2_with fail
    go_ret
    exact ⟨ret_b (by simp), rfl⟩
  have HN := hide hn
  clear hn
  by_cases h1 : x < y
  · have HE := hide (show cmp1 x y = -1 by rw [cmp1, if_pos h1])
    go_enter Try.func110, Try.ntmps110
    go_wp2_with (go_at_call 111; refine (HN.out _).mono ?_; rintro e w' ⟨rfl, rfl⟩)
    go_ret
    exact ⟨by rw [HE.out]; rfl, rfl⟩
  · by_cases h2 : y < x
    · have HE := hide (show cmp1 x y = 1 by rw [cmp1, if_neg h1, if_pos h2])
      go_enter Try.func110, Try.ntmps110
      go_wp2_with (go_at_call 111; refine (HN.out _).mono ?_; rintro e w' ⟨rfl, rfl⟩)
      go_ret
      exact ⟨by rw [HE.out]; rfl, rfl⟩
    · have HE := hide (show cmp1 x y = 0 by rw [cmp1, if_neg h1, if_neg h2])
      go_enter Try.func110, Try.ntmps110
      go_wp2_with (go_at_call 111; refine (HN.out _).mono ?_; rintro e w' ⟨rfl, rfl⟩)
      go_ret
      exact ⟨by rw [HE.out]; rfl, rfl⟩

def cmpL : List Int → List Int → Int
  | [], [] => 0
  | [], _ :: _ => -1
  | _ :: _, [] => 1
  | x :: xs, y :: ys => if cmp1 x y ≠ 0 then cmp1 x y else cmpL xs ys
set_option maxHeartbeats 1600000 in
set_option maxRecDepth 100000 in
theorem compare_any {A B : Option Addr} {n m c1 c2 : Nat} {xs ys : List Int} {w : World} (hx : IntsS w w.heap.size A n c1 xs) (hy : IntsS w w.heap.size B m c2 ys) (hn : n ≤ 100) (hm : m ≤ 100) :
    Calls Try.prog 105 #[.slice A n c1, .slice B m c2] w fun e w' => e = .returned (.int .i64 (cmpL xs ys)) ∧ w = w' := by
  have HX := hide hx
  have HY := hide hy
  have hxl := hx.len
  have hyl := hy.len
  have HXL := hide hxl
  have HYL := hide hyl
  clear hx hy hxl hyl
  have HC := hide (fun x y => cmp_any x y w)
  go_enter Try.func105, Try.ntmps105
  go_wp2_with fail
  go_loopw [5, 6, 7, 8, 11] (fun _ _ _ _ i wr => ∃ k : Nat, k ≤ n ∧ k ≤ m ∧ i = .int .i64 k ∧ w = wr ∧ Hid (cmpL xs ys = cmpL (xs.drop k) (ys.drop k))) (fun _ _ _ _ i _ => n - (intOf i).toNat)
  case atStart => exact ⟨0, Nat.zero_le _, Nat.zero_le _, rfl, rfl, hide rfl⟩
  case round =>
    obtain ⟨k, hk, hkm, rfl, rfl, HE⟩ := hrel
    have hk0 : (0 : Int) ≤ (k : Int) := Int.natCast_nonneg _
    by_cases hlt : k < n
    · have hk1 : (k : Int) < (n : Int) := by omega
      obtain ⟨ba, oa, rfl, hba, h0⟩ := HX.out.row.ints hlt
      have e1 := drop_nth (l := xs) (j := k) (by rw [HXL.out]; exact hlt)
      by_cases hlm : k < m
      · have hk2 : (k : Int) < (m : Int) := by omega
        have hk3 : ¬ (k : Int) ≥ (m : Int) := by omega
        obtain ⟨bb, ob, rfl, hbb, h1⟩ := HY.out.row.ints hlm
        have e2 := drop_nth (l := ys) (j := k) (by rw [HYL.out]; exact hlm)
        have HE2 := hide (show cmpL xs ys = if cmp1 (nth xs k) (nth ys k) ≠ 0 then cmp1 (nth xs k) (nth ys k) else cmpL (xs.drop (k + 1)) (ys.drop (k + 1)) by rw [HE.out, e1, e2]; rfl)
        clear e1 e2 HE
        by_cases hz : cmp1 (nth xs k) (nth ys k) = 0
        · have HE3 := hide (show cmpL xs ys = cmpL (xs.drop (k + 1)) (ys.drop (k + 1)) by rw [HE2.out, if_neg (by simp [hz])])
          clear HE2
          go_wp2_with (go_at_call 110; refine (HC.out _ _).mono ?_; rintro e w' ⟨rfl, rfl⟩)
          go_roundw
          case rel => exact ⟨k + 1, by omega, by omega, by go_num, trivial, HE3⟩
          case measure => simp [intOf]; omega
        · have HE3 := hide (show cmpL xs ys = cmp1 (nth xs k) (nth ys k) by rw [HE2.out, if_pos hz])
          clear HE2
          have hz2 : (cmp1 (nth xs k) (nth ys k) == 0) = false := by simpa using hz
          go_wp2_with (go_at_call 110; refine (HC.out _ _).mono ?_; rintro e w' ⟨rfl, rfl⟩)
          go_ret
          exact ⟨by rw [HE3.out]; rfl, rfl⟩
      · obtain rfl : k = m := by omega
        have e2 : ys.drop k = [] := List.drop_eq_nil_of_le (by rw [HYL.out]; exact Nat.le_refl _)
        have HE2 := hide (show cmpL xs ys = 1 by rw [HE.out, e1, e2]; rfl)
        clear e1 HE
        have hk3 : (k : Int) ≥ (k : Int) := by omega
        go_wp2_with fail
        go_ret
        exact ⟨by rw [HE2.out]; rfl, rfl⟩
    · obtain rfl : k = n := by omega
      have e0 : cmpL xs ys = cmpL [] (ys.drop k) := by rw [HE.out, List.drop_eq_nil_of_le (by rw [HXL.out]; exact Nat.le_refl _)]
      by_cases hlm : k < m
      · have hk2 : (k : Int) < (m : Int) := by omega
        have HE2 := hide (show cmpL xs ys = -1 by rw [e0, drop_nth (by rw [HYL.out]; exact hlm)]; rfl)
        clear e0 HE
        go_wp2_with fail
        go_ret
        exact ⟨by rw [HE2.out]; rfl, rfl⟩
      · obtain rfl : k = m := by omega
        have HE2 := hide (show cmpL xs ys = 0 by rw [e0, List.drop_eq_nil_of_le (by rw [HYL.out]; exact Nat.le_refl _)]; rfl)
        clear e0 HE
        have hk2 : ¬ (k : Int) < (k : Int) := by omega
        go_wp2_with fail
        go_ret
        exact ⟨by rw [HE2.out]; rfl, rfl⟩
end Go.Proofs.Ytbkknliggnhpcaa
/- The contract of turn's fewest. -/
namespace Go.Proofs.Ytbkknliggnhpcaa
open Go.RowKit
attribute [local go_sem ↓] Go.wp_at_zero Go.wp_at_succ

/-- What is asked of each set. -/
structure FOk (P : Program) (dF : Nat) (cap : Array Value) (ans : Nat → Bool) (Cd : Nat → Prop) (K : World → Prop) (many : Nat) (w : World) : Prop where
  enter : ∀ args w, (callFunc dF args).run P w = .ok (.enter dF args) w
  cd : ∀ k, Cd k → k < w.heap.size
  keep : ∀ V V', K V → Below V.heap.size V V' → w.heap.size ≤ V.heap.size → K V'
  start : K w
  call : ∀ set W, set < 2 ^ many → w.heap.size ≤ W.heap.size → K W → Calls P dF (#[.int .i64 (set : Nat)] ++ cap) W fun e W' => e = .returned (.bool (ans set)) ∧ Keep Cd W W' ∧ K W'
def worse (l b : List Nat) : Bool := decide (b.length < l.length) || (decide (l.length = b.length) && decide (cmpL (natInts l) (natInts b) > 0))
/-- The best of the first k sets. -/
def fwTo (many : Nat) (ans : Nat → Bool) : Nat → Option (List Nat)
  | 0 => none
  | k + 1 => match fwTo many ans k with
    | none => if ans k then some (listN k many) else none
    | some b => if worse (listN k many) b then some b else if ans k then some (listN k many) else some b
theorem fwTo_len {many : Nat} {ans : Nat → Bool} : ∀ {k : Nat} {b : List Nat}, fwTo many ans k = some b → b.length ≤ many
  | 0, b, h => by cases h
  | k + 1, b, h => by
    rw [fwTo] at h
    cases ho : fwTo many ans k with
    | none =>
      rw [ho] at h
      simp only at h
      split at h
      · cases h; exact listN_le _ _
      · cases h
    | some b' =>
      rw [ho] at h
      simp only at h
      split at h
      · cases h; exact fwTo_len ho
      · split at h
        · cases h; exact listN_le _ _
        · cases h; exact fwTo_len ho
def Best (B : Nat) (wr : World) (v4 v5 : Value) : Option (List Nat) → Prop
  | none => v4 = .slice none 0 0 ∧ v5 = .bool false
  | some b => v5 = .bool true ∧ ∃ A c, v4 = .slice A b.length c ∧ IntsS wr wr.heap.size A b.length c (natInts b) ∧ (∀ ad, A = some ad → B ≤ ad.block)
theorem Row.keepS {w w' : World} {S : Nat → Prop} {B m : Nat} {A : Option Addr} {f : Nat → Value} (h : Row w w.heap.size A m f) (hk : Keep S w w') (hA : ∀ ad, A = some ad → B ≤ ad.block) (hS : ∀ k, S k → k < B) : Row w' w'.heap.size A m f := fun hm => by
  obtain ⟨b, off, e, hb, hc⟩ := h hm
  have hB := hA _ e
  refine ⟨b, off, e, Nat.lt_of_lt_of_le hb hk.size, fun j hj => (hk.cell hb (fun h => ?_)).trans (hc j hj)⟩
  have := hS b h
  exact absurd hB (by show ¬ B ≤ b; omega)
theorem Best.keep {B : Nat} {w w' : World} {v4 v5 : Value} {o : Option (List Nat)} {S : Nat → Prop} (h : Best B w v4 v5 o) (hk : Keep S w w') (hS : ∀ k, S k → k < B) : Best B w' v4 v5 o := by
  match o, h with
  | none, h => exact h
  | some b, ⟨h1, A, c, h2, h3, h4⟩ => exact ⟨h1, A, c, h2, ⟨h3.len, h3.cap, h3.max, h3.row.keepS hk h4 hS⟩, h4⟩
theorem Best.new {B : Nat} {w : World} {A : Option Addr} {c : Nat} {b : List Nat} (h : IntsS w w.heap.size A b.length c (natInts b)) (hA : ∀ ad, A = some ad → B ≤ ad.block) : Best B w (.slice A b.length c) (.bool true) (some b) := ⟨rfl, A, c, rfl, h, hA⟩

set_option maxHeartbeats 4000000 in
set_option maxRecDepth 100000 in
theorem fewest_any {w : World} {dF many : Nat} {cap : Array Value} {ans : Nat → Bool} {Cd : Nat → Prop} {K : World → Prop} (h : FOk Try.prog dF cap ans Cd K many w) (hm : many ≤ 4) :
    Calls Try.prog 91 #[.int .i64 many, .func (.func dF) #[] cap] w fun e w' => ∃ A c, e = .returned (.slice A ((fwTo many ans (2 ^ many)).getD []).length c) ∧
      IntsS w' w'.heap.size A ((fwTo many ans (2 ^ many)).getD []).length c (natInts ((fwTo many ans (2 ^ many)).getD [])) ∧ Keep Cd w w' ∧ K w' := by
  have hN : wrap64 (2 ^ many) = ((2 ^ many : Nat) : Int) := by
    have h : ∀ m : Fin 5, wrap64 (2 ^ (m : Nat)) = ((2 ^ (m : Nat) : Nat) : Int) := of_decide_eq_true (by kernel_rfl)
    exact h ⟨many, by omega⟩
  have hN16 : 2 ^ many ≤ 16 := Nat.pow_le_pow_right (by omega) hm
  have HH := hide h
  have hm0 : (0 : Int) ≤ (many : Int) := Int.natCast_nonneg _
  have HF := hide (show ∀ k, fwTo many ans (k + 1) = match fwTo many ans k with
    | none => if ans k then some (listN k many) else none
    | some b => if worse (listN k many) b then some b else if ans k then some (listN k many) else some b from fun _ => rfl)
  have hEn := h.enter
  have HF0 := hide (show fwTo many ans 0 = none from rfl)
  clear h
  go_enter Try.func91, Try.ntmps91
  go_wp2_with fail
  rw [hN]
  clear hN
  generalize hNN : 2 ^ many = N at *
  have HNN := hide hNN
  clear hNN
  go_loopw [4, 5, 6, 7, 10] (fun v4 v5 _ _ i wr => ∃ k : Nat, k ≤ N ∧ i = .int .i64 k ∧ Best w.heap.size wr v4 v5 (fwTo many ans k) ∧ Keep Cd w wr ∧ K wr) (fun _ _ _ _ i _ => N - (intOf i).toNat)
  case atStart => exact ⟨0, Nat.zero_le _, rfl, by rw [HF0.out]; exact ⟨rfl, rfl⟩, Keep.refl _ _, HH.out.start⟩
  case round =>
    obtain ⟨k, hk, rfl, hbest, hkeep, hK⟩ := hrel
    have hk0 : (0 : Int) ≤ (k : Int) := Int.natCast_nonneg _
    by_cases hlt : k < N
    · have hk1 : (k : Int) < (N : Int) := by omega
      have hz := hkeep.size
      have hl := list_any (set := k) (many := many) (by omega) (by omega) wr
      have HL := hide hl
      have HS := hide (HF.out k)
      have HB := hide hbest
      have HKP := hide hkeep
      have HK := hide hK
      clear hl hbest hkeep hK
      cases ho : fwTo many ans k with
      | none =>
        have hb := HB.out
        rw [ho] at hb
        obtain ⟨rfl, rfl⟩ := hb
        have HS := hide (HS.out.trans (by rw [ho] : _ = if ans k then some (listN k many) else none))
        cases ha : ans k with
        | true =>
          go_wp2_with (first | (go_at_call 94; refine HL.out.mono ?_; rintro e w1 ⟨A1, c1, rfl, hi1, hA1, hb1⟩; have hkb := Keep.of_below' hb1 Cd; have hK1 := HH.out.keep _ _ HK.out hb1 hz; have hz1 := hb1.size) | (refine (HH.out.call k w1 (by rw [HNN.out]; exact hlt) (by omega) hK1).mono ?_; rintro e w2 ⟨rfl, hk2, hK2⟩; clear hK1))
          go_roundw
          case rel =>
            refine ⟨k + 1, by omega, by go_num, ?_, HKP.out.trans (hkb.trans hk2), hK2⟩
            rw [HS.out, ha, if_pos rfl]
            exact Best.new ⟨hi1.len, hi1.cap, hi1.max, hi1.row.keepS hk2 hA1 (fun q hq => Nat.lt_of_lt_of_le (HH.out.cd q hq) hz)⟩ (fun ad e => Nat.le_trans hz (hA1 ad e))
          case measure => simp [intOf]; omega
        | false =>
          go_wp2_with (first | (go_at_call 94; refine HL.out.mono ?_; rintro e w1 ⟨A1, c1, rfl, hi1, hA1, hb1⟩; have hkb := Keep.of_below' hb1 Cd; have hK1 := HH.out.keep _ _ HK.out hb1 hz; have hz1 := hb1.size) | (refine (HH.out.call k w1 (by rw [HNN.out]; exact hlt) (by omega) hK1).mono ?_; rintro e w2 ⟨rfl, hk2, hK2⟩; clear hK1))
          go_roundw
          case rel =>
            refine ⟨k + 1, by omega, by go_num, ?_, HKP.out.trans (hkb.trans hk2), hK2⟩
            rw [HS.out, ha, if_neg (by simp)]
            exact ⟨rfl, rfl⟩
          case measure => simp [intOf]; omega
      | some b =>
        have hb := HB.out
        rw [ho] at hb
        obtain ⟨rfl, A, c, rfl, hb2, hb3⟩ := hb
        have HS := hide (HS.out.trans (by rw [ho] : _ = if worse (listN k many) b then some b else if ans k then some (listN k many) else some b))
        have HBB := hide (Best.new hb2 hb3)
        have HB2 := hide hb2
        clear hb2 hb3
        have hll := listN_le k many
        have hbl := fwTo_len ho
        have hgt : ((listN k many).length : Int) > (b.length : Int) ↔ b.length < (listN k many).length := by omega
        by_cases hg : b.length < (listN k many).length
        · have HW := hide (show worse (listN k many) b = true by simp [worse, hg])
          have hg1 : (b.length : Int) < ((listN k many).length : Int) := by omega
          clear hgt
          go_wp2_with (first | (go_at_call 94; refine HL.out.mono ?_; rintro e w1 ⟨A1, c1, rfl, hi1, hA1, hb1⟩; have hkb := Keep.of_below' hb1 Cd; have hK1 := HH.out.keep _ _ HK.out hb1 hz; have hz1 := hb1.size; have hcm := compare_any hi1 (HB2.out.next hb1) (by omega) (by omega)) | (go_at_call 105; refine hcm.mono ?_; rintro e w' ⟨rfl, rfl⟩) | (refine (HH.out.call k w1 (by rw [HNN.out]; exact hlt) (by omega) hK1).mono ?_; rintro e w2 ⟨rfl, hk2, hK2⟩; clear hK1))
          go_roundw
          case rel =>
            refine ⟨k + 1, by omega, by go_num, ?_, HKP.out.trans hkb, hK1⟩
            rw [HS.out, HW.out, if_pos rfl]
            exact HBB.out.keep hkb (fun q hq => HH.out.cd q hq)
          case measure => simp [intOf]; omega
        · have hg1 : ¬ (b.length : Int) < ((listN k many).length : Int) := by omega
          clear hgt
          by_cases hq : (listN k many).length = b.length
          · have hq1 : (((listN k many).length : Int) == (b.length : Int)) = true := by simp; omega
            by_cases hc : cmpL (natInts (listN k many)) (natInts b) > 0
            · have HW := hide (show worse (listN k many) b = true by simp [worse, hq, hc])
              have hc1 : 0 < cmpL (natInts (listN k many)) (natInts b) := hc
              have HQ := hide hq
              clear hq hg
              go_wp2_with (first | (go_at_call 94; refine HL.out.mono ?_; rintro e w1 ⟨A1, c1, rfl, hi1, hA1, hb1⟩; have hkb := Keep.of_below' hb1 Cd; have hK1 := HH.out.keep _ _ HK.out hb1 hz; have hz1 := hb1.size; have hcm := compare_any hi1 (HB2.out.next hb1) (by omega) (by omega)) | (go_at_call 105; refine hcm.mono ?_; rintro e w' ⟨rfl, rfl⟩) | (refine (HH.out.call k w1 (by rw [HNN.out]; exact hlt) (by omega) hK1).mono ?_; rintro e w2 ⟨rfl, hk2, hK2⟩; clear hK1))
              go_roundw
              case rel =>
                refine ⟨k + 1, by omega, by go_num, ?_, HKP.out.trans hkb, hK1⟩
                rw [HS.out, HW.out, if_pos rfl]
                exact HBB.out.keep hkb (fun q hq => HH.out.cd q hq)
              case measure => simp [intOf]; omega
            · have HW := hide (show worse (listN k many) b = false by simp [worse, hg, hq]; omega)
              have hc1 : ¬ 0 < cmpL (natInts (listN k many)) (natInts b) := hc
              have HQ := hide hq
              clear hq hg
              cases ha : ans k with
              | true =>
                go_wp2_with (first | (go_at_call 94; refine HL.out.mono ?_; rintro e w1 ⟨A1, c1, rfl, hi1, hA1, hb1⟩; have hkb := Keep.of_below' hb1 Cd; have hK1 := HH.out.keep _ _ HK.out hb1 hz; have hz1 := hb1.size; have hcm := compare_any hi1 (HB2.out.next hb1) (by omega) (by omega)) | (go_at_call 105; refine hcm.mono ?_; rintro e w' ⟨rfl, rfl⟩) | (refine (HH.out.call k w1 (by rw [HNN.out]; exact hlt) (by omega) hK1).mono ?_; rintro e w2 ⟨rfl, hk2, hK2⟩; clear hK1))
                go_roundw
                case rel =>
                  refine ⟨k + 1, by omega, by go_num, ?_, HKP.out.trans (hkb.trans hk2), hK2⟩
                  rw [HS.out, HW.out, if_neg (by simp), ha, if_pos rfl]
                  exact Best.new ⟨hi1.len, hi1.cap, hi1.max, hi1.row.keepS hk2 hA1 (fun q hq => Nat.lt_of_lt_of_le (HH.out.cd q hq) hz)⟩ (fun ad e => Nat.le_trans hz (hA1 ad e))
                case measure => simp [intOf]; omega
              | false =>
                go_wp2_with (first | (go_at_call 94; refine HL.out.mono ?_; rintro e w1 ⟨A1, c1, rfl, hi1, hA1, hb1⟩; have hkb := Keep.of_below' hb1 Cd; have hK1 := HH.out.keep _ _ HK.out hb1 hz; have hz1 := hb1.size; have hcm := compare_any hi1 (HB2.out.next hb1) (by omega) (by omega)) | (go_at_call 105; refine hcm.mono ?_; rintro e w' ⟨rfl, rfl⟩) | (refine (HH.out.call k w1 (by rw [HNN.out]; exact hlt) (by omega) hK1).mono ?_; rintro e w2 ⟨rfl, hk2, hK2⟩; clear hK1))
                go_roundw
                case rel =>
                  refine ⟨k + 1, by omega, by go_num, ?_, HKP.out.trans (hkb.trans hk2), hK2⟩
                  rw [HS.out, HW.out, if_neg (by simp), ha, if_neg (by simp)]
                  exact (HBB.out.keep hkb (fun q hq => HH.out.cd q hq)).keep hk2 (fun q hq => HH.out.cd q hq)
                case measure => simp [intOf]; omega
          · have hq1 : (((listN k many).length : Int) == (b.length : Int)) = false := by simp; omega
            have HW := hide (show worse (listN k many) b = false by simp [worse, hg, hq])
            have HQ := hide hq
            clear hq hg
            cases ha : ans k with
            | true =>
              go_wp2_with (first | (go_at_call 94; refine HL.out.mono ?_; rintro e w1 ⟨A1, c1, rfl, hi1, hA1, hb1⟩; have hkb := Keep.of_below' hb1 Cd; have hK1 := HH.out.keep _ _ HK.out hb1 hz; have hz1 := hb1.size; have hcm := compare_any hi1 (HB2.out.next hb1) (by omega) (by omega)) | (go_at_call 105; refine hcm.mono ?_; rintro e w' ⟨rfl, rfl⟩) | (refine (HH.out.call k w1 (by rw [HNN.out]; exact hlt) (by omega) hK1).mono ?_; rintro e w2 ⟨rfl, hk2, hK2⟩; clear hK1))
              go_roundw
              case rel =>
                refine ⟨k + 1, by omega, by go_num, ?_, HKP.out.trans (hkb.trans hk2), hK2⟩
                rw [HS.out, HW.out, if_neg (by simp), ha, if_pos rfl]
                exact Best.new ⟨hi1.len, hi1.cap, hi1.max, hi1.row.keepS hk2 hA1 (fun q hq => Nat.lt_of_lt_of_le (HH.out.cd q hq) hz)⟩ (fun ad e => Nat.le_trans hz (hA1 ad e))
              case measure => simp [intOf]; omega
            | false =>
              go_wp2_with (first | (go_at_call 94; refine HL.out.mono ?_; rintro e w1 ⟨A1, c1, rfl, hi1, hA1, hb1⟩; have hkb := Keep.of_below' hb1 Cd; have hK1 := HH.out.keep _ _ HK.out hb1 hz; have hz1 := hb1.size; have hcm := compare_any hi1 (HB2.out.next hb1) (by omega) (by omega)) | (go_at_call 105; refine hcm.mono ?_; rintro e w' ⟨rfl, rfl⟩) | (refine (HH.out.call k w1 (by rw [HNN.out]; exact hlt) (by omega) hK1).mono ?_; rintro e w2 ⟨rfl, hk2, hK2⟩; clear hK1))
              go_roundw
              case rel =>
                refine ⟨k + 1, by omega, by go_num, ?_, HKP.out.trans (hkb.trans hk2), hK2⟩
                rw [HS.out, HW.out, if_neg (by simp), ha, if_neg (by simp)]
                exact (HBB.out.keep hkb (fun q hq => HH.out.cd q hq)).keep hk2 (fun q hq => HH.out.cd q hq)
              case measure => simp [intOf]; omega
    · obtain rfl : k = N := by omega
      have hk1 : ¬ (k : Int) < (k : Int) := by omega
      have HB := hide hbest
      have HKP := hide hkeep
      have HK := hide hK
      clear hbest hkeep hK
      cases ho : fwTo many ans k with
      | none =>
        have hb := HB.out
        rw [ho] at hb
        obtain ⟨rfl, rfl⟩ := hb
        go_wp2_with fail
        go_ret
        simp only [HNN.out, ho, Option.getD_none]
        refine ⟨none, 0, rfl, ⟨rfl, Nat.le_refl _, by simp [maxLen], Row.nil_⟩, HKP.out, HK.out⟩
      | some b =>
        have hb := HB.out
        rw [ho] at hb
        obtain ⟨rfl, A, c, rfl, hb2, hb3⟩ := hb
        go_wp2_with fail
        go_ret
        simp only [HNN.out, ho, Option.getD_some]
        exact ⟨A, c, rfl, hb2, HKP.out, HK.out⟩
end Go.Proofs.Ytbkknliggnhpcaa
/- The contract of turn's Safe. -/
namespace Go.Proofs.Ytbkknliggnhpcaa
open Go.RowKit
attribute [local go_sem ↓] Go.wp_at_zero Go.wp_at_succ

theorem own_keep {w w' : World} {base n : Nat} {v : Value} {xs : List Value} {e : TypeId} (h : w.ownsRow base e 1 v n xs) (hk : ∀ k, base ≤ k → k < w.heap.size → w'.heap[k]? = w.heap[k]?) : w'.ownsRow base e 1 v n xs := by
  obtain ⟨h1, h2⟩ := h
  refine ⟨h1, ?_⟩
  rcases h2 with h' | ⟨g, cap, cur, h', hb, hg, r⟩
  · exact .inl h'
  · refine .inr ⟨g, cap, cur, h', hb, ?_, r⟩
    rw [hk g hb ?_]
    · exact hg
    · exact (Array.getElem?_eq_some_iff.1 hg).1
/-- A question that keeps no memory of its own. -/
theorem qok_simple {P : Program} {qF : Nat} {cap : Array Value} {ans : St → Bool} {C : World → Prop} {w : World} {L bm b : Nat} {c : Cargo} {A1 A2 A3 A4 : Option Addr} {c1 c2 c3 c4 but hold : Nat}
    (enter : ∀ args w, (callFunc qF args).run P w = .ok (.enter qF args) w) (keep : ∀ V V', C V → Keep (fun k => k = bm ∨ w.heap.size ≤ k) V V' → C V') (start : C w)
    (call : ∀ s W, s ∈ truthsS c hold but → LookL W L b bm c A1 A2 A3 A4 c1 c2 c3 c4 but (timesV c) → C W → Calls P qF (#[stVal s, lotsVal (timesV c s)] ++ cap) W fun e W' => e = .returned (.bool (ans s)) ∧ Keep (fun k => k = bm) W W' ∧ Known W' bm (timesV c)) :
    QOk P qF cap ans (fun k => k = bm) (fun _ => C) w L bm b c A1 A2 A3 A4 c1 c2 c3 c4 but hold where
  enter := enter
  cq _ h := .inl h
  keep _ _ _ h hk _ := keep _ _ h hk
  start := start
  call _ s W hs hL _ h := (call s W hs hL h).mono fun _ _ ⟨h1, h2, h3⟩ => ⟨h1, h2, h3, keep _ _ h (h2.mono fun _ _ e => .inl e)⟩

def safeAns (c : Cargo) (hour : Int) (lot : Nat) (s : St) : Bool := decide (nth (timesV c s) lot > hour)
theorem safe_q {w : World} {L b bm bl bh k hold : Nat} {hour : Int} {c : Cargo} {A1 A2 A3 A4 : Option Addr} {c1 c2 c3 c4 but : Nat} (hk : k < 5) (hl : w.cell? ⟨bl, 0, none⟩ = some (.int .i64 k)) (hh : w.cell? ⟨bh, 0, none⟩ = some (.int .i64 hour)) (hm : bl ≠ bm ∧ bh ≠ bm) :
    QOk Try.prog 79 #[.pointer (some ⟨bl, 0, none⟩), .pointer (some ⟨bh, 0, none⟩)] (safeAns c hour k) (fun k => k = bm) (fun _ V => V.cell? ⟨bl, 0, none⟩ = some (.int .i64 k) ∧ V.cell? ⟨bh, 0, none⟩ = some (.int .i64 hour) ∧ bl < w.heap.size ∧ bh < w.heap.size) w L bm b c A1 A2 A3 A4 c1 c2 c3 c4 but hold := by
  refine qok_simple (C := fun V => V.cell? ⟨bl, 0, none⟩ = some (.int .i64 k) ∧ V.cell? ⟨bh, 0, none⟩ = some (.int .i64 hour) ∧ bl < w.heap.size ∧ bh < w.heap.size) (enters_of Try.func79 (by kernel_rfl) rfl) ?_ ⟨hl, hh, cell_lt hl, cell_lt hh⟩ ?_
  · rintro V V' ⟨h1, h2, h3, h4⟩ hk
    exact ⟨(hk.cell (cell_lt h1) (by omega)).trans h1, (hk.cell (cell_lt h2) (by omega)).trans h2, h3, h4⟩
  · rintro s W _ hL ⟨h1, h2, h3, h4⟩
    refine (safe1_any (s := s) (t := timesV c s) hk h1 h2).mono ?_
    rintro e W' ⟨rfl, hb⟩
    exact ⟨rfl, Keep.of_below' hb _, hL.k.keep (Keep.of_below' hb (fun k => k = bm ∧ False)) (by simp)⟩

def safeIs (c : Cargo) (hour : Int) (i : Nat) : Bool := decide ((nth c.lots i).frm ≤ hour) && (settledM (cntB (safeAns c hour i) (truthsS c (nth c.lots i).hold.toNat 0)) (truthsS c (nth c.lots i).hold.toNat 0).length == 1)
def safeVTo (c : Cargo) (hour : Int) (k : Nat) : List Nat := (List.range k).filter (safeIs c hour)
theorem safeVTo_succ (c : Cargo) (hour : Int) (k : Nat) : safeVTo c hour (k + 1) = safeVTo c hour k ++ if safeIs c hour k then [k] else [] := by
  simp only [safeVTo, List.range_succ, List.filter_append, List.filter_cons, List.filter_nil]
def safeV (c : Cargo) (hour : Int) : List Nat × Int := if enterE c [(noneQ (c.heat.length + 1) [hour], (7 : Int))] ≠ 0 then ([], enterE c [(noneQ (c.heat.length + 1) [hour], (7 : Int))]) else (safeVTo c hour c.lots.length, 0)

set_option maxHeartbeats 4000000 in
set_option maxRecDepth 100000 in
theorem safe_any {A1 A2 A3 A4 : Option Addr} {c1 c2 c3 c4 : Nat} {c : Cargo} {w : World} (h : CargoV w w.heap.size c A1 A2 A3 A4 c1 c2 c3 c4) (hour : Int) :
    Calls Try.prog 20 #[cargoVal c A1 A2 A3 A4 c1 c2 c3 c4, .int .i64 hour] w fun e w' => ∃ A cp, e = .returned (.tuple #[.slice A (safeV c hour).1.length cp, .int .i64 (safeV c hour).2]) ∧ IntsS w' w'.heap.size A (safeV c hour).1.length cp (natInts (safeV c hour).1) ∧ Below w.heap.size w w' := by
  have hm3 := h.m3
  have hm1 := h.m1
  unfold maxLen at hm3 hm1
  go_enter Try.func20, Try.ntmps20
  go_wp2_with fail
  have hB0 : Below w.heap.size w ((w.alloc (.cells #[.slice A1 c.heat.length c1, .int .i64 c.gas, .slice A2 c.holds.length c2, .slice A3 c.lots.length c3, .slice A4 c.seen.length c4] 27)).alloc (.cells #[.int .i64 hour] 3)) := ((Below.refl _ _).alloc (Nat.le_refl _) _).alloc (by simp) _
  have hcl : ∀ o : Nat, ((w.alloc (.cells #[.slice A1 c.heat.length c1, .int .i64 c.gas, .slice A2 c.holds.length c2, .slice A3 c.lots.length c3, .slice A4 c.seen.length c4] 27)).alloc (.cells #[.int .i64 hour] 3)).cell? ⟨w.heap.size, o, none⟩ = (#[Value.slice A1 c.heat.length c1, .int .i64 c.gas, .slice A2 c.holds.length c2, .slice A3 c.lots.length c3, .slice A4 c.seen.length c4])[o]? := fun o => by
    rw [World.cell?_alloc_past _ _ _ (by simp), World.cell?_alloc_at _ _ _ _ rfl]
  have pl1 : ((w.alloc (.cells #[.slice A1 c.heat.length c1, .int .i64 c.gas, .slice A2 c.holds.length c2, .slice A3 c.lots.length c3, .slice A4 c.seen.length c4] 27)).alloc (.cells #[.int .i64 hour] 3)).cell? ⟨w.heap.size + 1, 0, none⟩ = some (.int .i64 hour) := by
    rw [World.cell?_alloc_at _ _ _ _ (by simp)]; rfl
  have hz0 : ((w.alloc (.cells #[.slice A1 c.heat.length c1, .int .i64 c.gas, .slice A2 c.holds.length c2, .slice A3 c.lots.length c3, .slice A4 c.seen.length c4] 27)).alloc (.cells #[.int .i64 hour] 3)).heap.size = w.heap.size + 1 + 1 := by simp
  generalize ((w.alloc (.cells #[.slice A1 c.heat.length c1, .int .i64 c.gas, .slice A2 c.holds.length c2, .slice A3 c.lots.length c3, .slice A4 c.seen.length c4] 27)).alloc (.cells #[.int .i64 hour] 3)) = w0 at *
  have pb0 := hcl 0
  have pb1 := hcl 1
  have pb2 := hcl 2
  have pb3 := hcl 3
  have pb4 := hcl 4
  simp only [List.getElem?_toArray, List.getElem?_cons_succ, List.getElem?_cons_zero] at pb0 pb1 pb2 pb3 pb4
  have HB0 := hide hB0
  have HCV := hide h
  clear hcl h hB0
  refine wp_post (fun a W => ∃ (p : Option Addr) (x0 x1 x2 x3 x4 x5 x6 x7 x8 x9 : Value), a = ⟨#[cargoVal c A1 A2 A3 A4 c1 c2 c3 c4, .int .i64 hour, .pointer (some ⟨w.heap.size, 0, none⟩), .pointer (some ⟨w.heap.size + 1, 0, none⟩), .slice none 0 0, .int .i64 (enterE c [(noneQ (c.heat.length + 1) [hour], (7 : Int))]), .pointer p, undef, undef, x7, x0, x1, x2, x3, x4, x5, x6, x8, x9, undef, undef, undef, undef, undef, undef, undef, undef, undef, undef, undef, undef, undef, undef, undef, undef, undef, undef, undef, undef, undef, undef, undef, undef, undef, undef, undef, undef, undef, undef], []⟩ ∧ Below w0.heap.size w0 W ∧ EntryP W w.heap.size c A1 A2 A3 A4 c1 c2 c3 c4 [(noneQ (c.heat.length + 1) [hour], (7 : Int))] p) ?reg ?imp
  case reg =>
    refine wp_region_grow2 (dst := fun i => [10, 11, 12, 13, 14, 15, 16, 9, 17, 18, 6, 5].getD i 0) (mono := fun i => decide (i < 12)) (pre := fun i => decide (i < 12))
      (Pv := fun i v W => match i with
        | 0 => v = (.agg #[.slice A1 c.heat.length c1, .int .i64 c.gas, .slice A2 c.holds.length c2, .slice A3 c.lots.length c3, .slice A4 c.seen.length c4])
        | 1 => v = (.agg #[.slice A1 c.heat.length c1, .int .i64 c.gas, .slice A2 c.holds.length c2, .slice A3 c.lots.length c3, .slice A4 c.seen.length c4])
        | 2 => v = .int .i64 hour
        | 3 => ∃ A cp, v = .slice A 1 cp ∧ IntsS W W.heap.size A 1 cp [hour]
        | 4 => v = .agg #[.bool (noneQ (c.heat.length + 1) [hour]), .int .i64 7]
        | 5 => ∃ A cp, v = .slice A 1 cp ∧ Row W W.heap.size A (1 * 2) (askedF [(noneQ (c.heat.length + 1) [hour], (7 : Int))])
        | 6 => ∃ p, v = .tuple #[.pointer p, .int .i64 (enterE c [(noneQ (c.heat.length + 1) [hour], (7 : Int))])] ∧ EntryP W w.heap.size c A1 A2 A3 A4 c1 c2 c3 c4 [(noneQ (c.heat.length + 1) [hour], (7 : Int))] p
        | 7 => ∃ p, v = .tuple #[.pointer p, .int .i64 (enterE c [(noneQ (c.heat.length + 1) [hour], (7 : Int))])] ∧ EntryP W w.heap.size c A1 A2 A3 A4 c1 c2 c3 c4 [(noneQ (c.heat.length + 1) [hour], (7 : Int))] p
        | 8 => ∃ p, v = .pointer p ∧ EntryP W w.heap.size c A1 A2 A3 A4 c1 c2 c3 c4 [(noneQ (c.heat.length + 1) [hour], (7 : Int))] p
        | 9 => v = .int .i64 (enterE c [(noneQ (c.heat.length + 1) [hour], (7 : Int))])
        | 10 => ∃ p, v = .pointer p ∧ EntryP W w.heap.size c A1 A2 A3 A4 c1 c2 c3 c4 [(noneQ (c.heat.length + 1) [hour], (7 : Int))] p
        | 11 => v = .int .i64 (enterE c [(noneQ (c.heat.length + 1) [hour], (7 : Int))])
        | _ => True) (by kernel_rfl) (by kernel_rfl) ?hst ?hstep ?hend
    case hst =>
      intro i v W W' h hb
      match i, h with
      | 0, h => exact h
      | 1, h => exact h
      | 2, h => exact h
      | 3, h => (obtain ⟨A, cp, h1, h2⟩ := h; exact ⟨A, cp, h1, h2.next hb⟩)
      | 4, h => exact h
      | 5, h => (obtain ⟨A, cp, h1, h2⟩ := h; exact ⟨A, cp, h1, (h2.below hb).more hb.size⟩)
      | 6, h => (obtain ⟨p, h1, h2⟩ := h; exact ⟨p, h1, h2.below hb⟩)
      | 7, h => (obtain ⟨p, h1, h2⟩ := h; exact ⟨p, h1, h2.below hb⟩)
      | 8, h => (obtain ⟨p, h1, h2⟩ := h; exact ⟨p, h1, h2.below hb⟩)
      | 9, h => exact h
      | 10, h => (obtain ⟨p, h1, h2⟩ := h; exact ⟨p, h1, h2.below hb⟩)
      | 11, h => exact h
      | i + 12, h => exact trivial
    case hstep =>
      intro i hi hm listed vs a W hU haft K hK
      have hb := ((Below.refl w0.heap.size w0).drew).trans hU.below
      have hz : w.heap.size < w0.heap.size := by omega
      match i, hi, hm with
      | 0, hi, hm =>
        have z2 : a.tmps[2]?.getD undef = .pointer (some ⟨w.heap.size, 0, none⟩) := hU.same 2 (by decide)
        have y0 := (hb.cell (p := ⟨w.heap.size, 0, none⟩) hz).trans pb0
        have y1 := (hb.cell (p := ⟨w.heap.size, 1, none⟩) hz).trans pb1
        have y2 := (hb.cell (p := ⟨w.heap.size, 2, none⟩) hz).trans pb2
        have y3 := (hb.cell (p := ⟨w.heap.size, 3, none⟩) hz).trans pb3
        have y4 := (hb.cell (p := ⟨w.heap.size, 4, none⟩) hz).trans pb4
        refine wpOp_value (v := (.agg #[.slice A1 c.heat.length c1, .int .i64 c.gas, .slice A2 c.holds.length c2, .slice A3 c.lots.length c3, .slice A4 c.seen.length c4])) (W' := W) rfl rfl ?_ (hK _ _ (Below.refl _ _) rfl)
        go_simp
      | 1, hi, hm =>
        have z2 : a.tmps[2]?.getD undef = .pointer (some ⟨w.heap.size, 0, none⟩) := hU.same 2 (by decide)
        have y0 := (hb.cell (p := ⟨w.heap.size, 0, none⟩) hz).trans pb0
        have y1 := (hb.cell (p := ⟨w.heap.size, 1, none⟩) hz).trans pb1
        have y2 := (hb.cell (p := ⟨w.heap.size, 2, none⟩) hz).trans pb2
        have y3 := (hb.cell (p := ⟨w.heap.size, 3, none⟩) hz).trans pb3
        have y4 := (hb.cell (p := ⟨w.heap.size, 4, none⟩) hz).trans pb4
        refine wpOp_value (v := (.agg #[.slice A1 c.heat.length c1, .int .i64 c.gas, .slice A2 c.holds.length c2, .slice A3 c.lots.length c3, .slice A4 c.seen.length c4])) (W' := W) rfl rfl ?_ (hK _ _ (Below.refl _ _) rfl)
        go_simp
      | 2, hi, hm =>
        have z3 : a.tmps[3]?.getD undef = .pointer (some ⟨w.heap.size + 1, 0, none⟩) := hU.same 3 (by decide)
        have cl := (hb.cell (p := ⟨w.heap.size + 1, 0, none⟩) (by show w.heap.size + 1 < _; omega)).trans pl1
        refine wpOp_value (v := .int .i64 hour) (W' := W) rfl rfl ?_ (hK _ _ (Below.refl _ _) rfl)
        go_simp
      | 3, hi, hm =>
        have l2 := haft _ rfl { on := 2, ground := .data } (by simp) rfl
        have p2 := hU.pv 2 l2
        have s2 : a.tmps[12]?.getD undef = vs 2 := hU.slot 2 (by decide) l2
        have hv2 : vs 2 = .int .i64 hour := p2
        rw [hv2] at s2
        refine wpOp_value (v := .slice (some ⟨W.heap.size, 0, none⟩) 1 1) (W' := W.alloc (.cells #[.int .i64 hour] 3)) rfl rfl ?_ (hK _ _ ((Below.refl _ _).alloc (Nat.le_refl _) _) ⟨_, _, rfl, (IntsS.lit1 rfl hour).more (by simp)⟩)
        go_simp
      | 4, hi, hm =>
        have l1 := haft _ rfl { on := 1, ground := .data } (by simp) rfl
        have p1 := hU.pv 1 l1
        have s1 : a.tmps[11]?.getD undef = vs 1 := hU.slot 1 (by decide) l1
        have hv1 : vs 1 = (.agg #[.slice A1 c.heat.length c1, .int .i64 c.gas, .slice A2 c.holds.length c2, .slice A3 c.lots.length c3, .slice A4 c.seen.length c4]) := p1
        rw [hv1] at s1
        have l3 := haft _ rfl { on := 3, ground := .data } (by simp) rfl
        have p3 := hU.pv 3 l3
        have s3 : a.tmps[13]?.getD undef = vs 3 := hU.slot 3 (by decide) l3
        obtain ⟨A, cp, hv3, hi⟩ := p3
        rw [hv3] at s3
        refine wpOp_enter (f := 78) (args := #[(.agg #[.slice A1 c.heat.length c1, .int .i64 c.gas, .slice A2 c.holds.length c2, .slice A3 c.lots.length c3, .slice A4 c.seen.length c4]), .slice A 1 cp]) (W' := W) rfl rfl ?_ ((hoursQ_any hi (by omega)).mono (fun e w'' h => ?_))
        · go_simp
        · obtain ⟨he, hbw⟩ := h
          exact ⟨_, he, hK _ _ hbw rfl⟩
      | 5, hi, hm =>
        have l4 := haft _ rfl { on := 4, ground := .data } (by simp) rfl
        have p4 := hU.pv 4 l4
        have s4 : a.tmps[14]?.getD undef = vs 4 := hU.slot 4 (by decide) l4
        have hv4 : vs 4 = .agg #[.bool (noneQ (c.heat.length + 1) [hour]), .int .i64 7] := p4
        rw [hv4] at s4
        refine wpOp_value (v := .slice (some ⟨W.heap.size, 0, none⟩) 1 1) (W' := W.alloc (.cells #[.bool (noneQ (c.heat.length + 1) [hour]), .int .i64 7] 104)) rfl rfl ?_ (hK _ _ ((Below.refl _ _).alloc (Nat.le_refl _) _) ⟨_, _, rfl, askedRow1 (noneQ (c.heat.length + 1) [hour], (7 : Int))⟩)
        go_simp
      | 6, hi, hm =>
        have l0 := haft _ rfl { on := 0, ground := .data } (by simp) rfl
        have p0 := hU.pv 0 l0
        have s0 : a.tmps[10]?.getD undef = vs 0 := hU.slot 0 (by decide) l0
        have hv0 : vs 0 = (.agg #[.slice A1 c.heat.length c1, .int .i64 c.gas, .slice A2 c.holds.length c2, .slice A3 c.lots.length c3, .slice A4 c.seen.length c4]) := p0
        rw [hv0] at s0
        have l5 := haft _ rfl { on := 5, ground := .data } (by simp) rfl
        have p5 := hU.pv 5 l5
        have s5 : a.tmps[15]?.getD undef = vs 5 := hU.slot 5 (by decide) l5
        obtain ⟨A, cp, hv5, hr⟩ := p5
        rw [hv5] at s5
        refine wpOp_enter (f := 68) (args := #[(.agg #[.slice A1 c.heat.length c1, .int .i64 c.gas, .slice A2 c.holds.length c2, .slice A3 c.lots.length c3, .slice A4 c.seen.length c4]), .slice A 1 cp]) (W' := W) rfl rfl ?_ ((enter_entry HCV.out (HB0.out.trans (hb.mono (by omega))) hr rfl (by omega) (fun j hj => match j, hj with | 0, _ => by simp [nth] | j + 1, hj => absurd hj (by omega))).mono (fun e w'' h => ?_))
        · go_simp
        · obtain ⟨p, he, h1, h2⟩ := h
          exact ⟨_, he, hK _ _ h2 ⟨p, rfl, h1⟩⟩
      | 7, hi, hm =>
        have l6 := haft _ rfl { on := 6, ground := .data } (by simp) rfl
        have p6 := hU.pv 6 l6
        have s6 : a.tmps[16]?.getD undef = vs 6 := hU.slot 6 (by decide) l6
        obtain ⟨p, hv6, hp⟩ := p6
        rw [hv6] at s6
        refine wpOp_value (v := .tuple #[.pointer p, .int .i64 (enterE c [(noneQ (c.heat.length + 1) [hour], (7 : Int))])]) (W' := W) rfl rfl ?_ (hK _ _ (Below.refl _ _) ⟨p, rfl, hp⟩)
        go_simp
      | 8, hi, hm =>
        have l7 := haft _ rfl { on := 7, ground := .data } (by simp) rfl
        have p7 := hU.pv 7 l7
        have s7 : a.tmps[9]?.getD undef = vs 7 := hU.slot 7 (by decide) l7
        obtain ⟨p, hv7, hp⟩ := p7
        rw [hv7] at s7
        refine wpOp_value (v := .pointer p) (W' := W) rfl rfl ?_ (hK _ _ (Below.refl _ _) ⟨p, rfl, hp⟩)
        go_simp
      | 9, hi, hm =>
        have l7 := haft _ rfl { on := 7, ground := .data } (by simp) rfl
        have p7 := hU.pv 7 l7
        have s7 : a.tmps[9]?.getD undef = vs 7 := hU.slot 7 (by decide) l7
        obtain ⟨p, hv7, hp⟩ := p7
        rw [hv7] at s7
        refine wpOp_value (v := .int .i64 (enterE c [(noneQ (c.heat.length + 1) [hour], (7 : Int))])) (W' := W) rfl rfl ?_ (hK _ _ (Below.refl _ _) rfl)
        go_simp
      | 10, hi, hm =>
        have l8 := haft _ rfl { on := 8, ground := .data } (by simp) rfl
        have p8 := hU.pv 8 l8
        have s8 : a.tmps[17]?.getD undef = vs 8 := hU.slot 8 (by decide) l8
        obtain ⟨p, hv8, hp⟩ := p8
        rw [hv8] at s8
        refine wpOp_value (v := .pointer p) (W' := W) rfl rfl ?_ (hK _ _ (Below.refl _ _) ⟨p, rfl, hp⟩)
        go_simp
      | 11, hi, hm =>
        have l9 := haft _ rfl { on := 9, ground := .data } (by simp) rfl
        have p9 := hU.pv 9 l9
        have s9 : a.tmps[18]?.getD undef = vs 9 := hU.slot 9 (by decide) l9
        have hv9 : vs 9 = .int .i64 (enterE c [(noneQ (c.heat.length + 1) [hour], (7 : Int))]) := p9
        rw [hv9] at s9
        refine wpOp_value (v := .int .i64 (enterE c [(noneQ (c.heat.length + 1) [hour], (7 : Int))])) (W' := W) rfl rfl ?_ (hK _ _ (Below.refl _ _) rfl)
        go_simp
      | i + 12, hi, hm => exact absurd (of_decide_eq_true hm) (by omega)
    case hend =>
      intro listed vs a W hG hpre
      have hb := ((Below.refl w0.heap.size w0).drew).trans hG.below
      obtain ⟨p, hvP, hp⟩ := hG.pv 10 (hpre 10 (by decide) (by decide))
      have hvE : vs 11 = .int .i64 (enterE c [(noneQ (c.heat.length + 1) [hour], (7 : Int))]) := hG.pv 11 (hpre 11 (by decide) (by decide))
      have hact := hG.act
      have hT := hG.lst hpre 0 #[true, true, true, true, true, true, true, true, true, true, true, true] rfl (by kernel_rfl) (hpre 0 (by decide) (by decide))
      subst hT
      obtain rfl : a = _ := hact
      show wpAny _ _ _ _ (leftOver #[true, true, true, true, true, true, true, true, true, true, true, true] 12) _ ⟨setAll _ _ (idxs #[true, true, true, true, true, true, true, true, true, true, true, true] 12) #[cargoVal c A1 A2 A3 A4 c1 c2 c3 c4, .int .i64 hour, .pointer (some ⟨w.heap.size, 0, none⟩), .pointer (some ⟨w.heap.size + 1, 0, none⟩), .slice none 0 0, .int .i64 0, undef, undef, undef, undef, undef, undef, undef, undef, undef, undef, undef, undef, undef, undef, undef, undef, undef, undef, undef, undef, undef, undef, undef, undef, undef, undef, undef, undef, undef, undef, undef, undef, undef, undef, undef, undef, undef, undef, undef, undef, undef, undef, undef], []⟩ _
      rw [show idxs #[true, true, true, true, true, true, true, true, true, true, true, true] 12 = [0, 1, 2, 3, 4, 5, 6, 7, 8, 9, 10, 11] by kernel_rfl]
      simp only [setAll, List.setIfInBounds_toArray, List.set_cons_succ, List.set_cons_zero, List.getD_cons_succ, List.getD_cons_zero, hvP, hvE]
      refine wpAny_done (by kernel_rfl) ?_ _
      exact ⟨rfl, p, _, _, _, _, _, _, _, _, _, _, rfl, hb, hp⟩
  case imp =>
  rintro a w1 ⟨p, x0, x1, x2, x3, x4, x5, x6, x7, x8, x9, rfl, hB1, HP⟩
  have hz1 := hB1.size
  have HB1 := hide (HB0.out.trans (hB1.mono (by omega)))
  have pl1 := (hB1.cell (p := ⟨w.heap.size + 1, 0, none⟩) (by show w.heap.size + 1 < _; omega)).trans pl1
  have pb3 := (hB1.cell (p := ⟨w.heap.size, 3, none⟩) (by show w.heap.size < _; omega)).trans pb3
  have HV1 := hide (HCV.out.below HB1.out)
  have HE := hide (show safeV c hour = if enterE c [(noneQ (c.heat.length + 1) [hour], (7 : Int))] ≠ 0 then ([], enterE c [(noneQ (c.heat.length + 1) [hour], (7 : Int))]) else (safeVTo c hour c.lots.length, 0) from rfl)
  have HP1 := hide HP
  clear hB1 HB0 pb0 pb1 pb2 pb4 HP
  unfold EntryP at HP1
  generalize enterE c [(noneQ (c.heat.length + 1) [hour], (7 : Int))] = E at *
  clear HCV
  cases hce : (E != 0) with
  | true =>
    have HNE := hide (show E ≠ 0 by simpa using hce)
    go_wp2_with fail
    go_ret2
    have hR := HE.out
    rw [if_pos HNE.out] at hR
    rw [hR]
    exact ⟨none, 0, rfl, ⟨rfl, Nat.le_refl _, by simp [maxLen], Row.nil_⟩, HB1.out⟩
  | false =>
    have hE : E = 0 := by simpa using hce
    obtain ⟨hv, b, bm, rfl, hb, hbm, hlk⟩ := HP1.out hE
    have hR := HE.out
    rw [if_neg (by simp [hE])] at hR
    have HR := hide hR
    have hbz := hlk.hb
    have hmz := hlk.hm
    have hbx : w.heap.size + 1 ≠ bm := hlk.k.ne pl1
    have hbx0 : w.heap.size ≠ bm := hlk.k.ne pb3
    have hlot5 := hv.lots
    have hholds := hv.holds
    have HLK := hide hlk
    have HV := hide hv
    clear hlk hv hR HE HP1 hce
    subst hE
    have hsw1 : w.heap.size + 1 < w1.heap.size := by omega
    obtain ⟨i0, hi, hz0', hz1', hz2'⟩ := info_parts Try.infoInt
    go_wp2_with fail
    go_loopw [4, 25] (fun v i wr => ∃ j : Nat, j ≤ c.lots.length ∧ i = .int .i64 j ∧ Keep (fun k => k = bm) w1 wr ∧ Known wr bm (timesV c) ∧ wr.ownsRow w1.heap.size 3 1 v (safeVTo c hour j).length ((safeVTo c hour j).map fun n : Nat => .int .i64 n)) (fun _ i _ => c.lots.length - (intOf i).toNat)
    case atStart => exact ⟨0, Nat.zero_le _, rfl, Keep.refl _ _, HLK.out.k, World.ownsRow_nil _ _ _ _⟩
    case round =>
      obtain ⟨j, hj, rfl, hkp, hkn, hown⟩ := hrel
      have hj0 : (0 : Int) ≤ (j : Int) := Int.natCast_nonneg _
      have hzr := hkp.size
      have HKP := hide hkp
      have HLR := hide (HLK.out.keep hkp (fun k h => .inl h) hkn)
      by_cases hlt : j < c.lots.length
      · have hj1 : (j : Int) < (c.lots.length : Int) := by omega
        have hval := HV.out.lot j hlt
        obtain ⟨bl, ol, rfl, hbl, t0, t1, t2, t3⟩ := HLR.out.v.lots.lots hlt
        have r3 := (hkp.cell (cell_lt pb3) hbx0).trans pb3
        have r1 := (hkp.cell (cell_lt pl1) hbx).trans pl1
        have HKN := hide hkn
        have HOWN := hide hown
        clear hkp hkn hown
        go_upto_region 7 with (fail)
        have hA : Below wr.heap.size wr ((wr.alloc (.cells #[.int .i64 j] 3)).alloc (.cells #[.int .i64 (nth c.lots j).hold, .int .i64 (nth c.lots j).frm, .int .i64 (nth c.lots j).green.lo, .int .i64 (nth c.lots j).green.hi] 57)) := ((Below.refl _ _).alloc (Nat.le_refl _) _).alloc (by simp) _
        have d0 : ((wr.alloc (.cells #[.int .i64 j] 3)).alloc (.cells #[.int .i64 (nth c.lots j).hold, .int .i64 (nth c.lots j).frm, .int .i64 (nth c.lots j).green.lo, .int .i64 (nth c.lots j).green.hi] 57)).cell? ⟨wr.heap.size, 0, none⟩ = some (.int .i64 j) := by
          rw [World.cell?_alloc_past _ _ _ (by simp), World.cell?_alloc_at _ _ _ _ rfl]; rfl
        have d1 : ((wr.alloc (.cells #[.int .i64 j] 3)).alloc (.cells #[.int .i64 (nth c.lots j).hold, .int .i64 (nth c.lots j).frm, .int .i64 (nth c.lots j).green.lo, .int .i64 (nth c.lots j).green.hi] 57)).cell? ⟨wr.heap.size + 1, 0, none⟩ = some (.int .i64 (nth c.lots j).hold) := by
          rw [World.cell?_alloc_at _ _ _ _ (by simp)]; rfl
        have d2 : ((wr.alloc (.cells #[.int .i64 j] 3)).alloc (.cells #[.int .i64 (nth c.lots j).hold, .int .i64 (nth c.lots j).frm, .int .i64 (nth c.lots j).green.lo, .int .i64 (nth c.lots j).green.hi] 57)).cell? ⟨wr.heap.size + 1, 1, none⟩ = some (.int .i64 (nth c.lots j).frm) := by
          rw [World.cell?_alloc_at _ _ _ _ (by simp)]; rfl
        have hz2 : ((wr.alloc (.cells #[.int .i64 j] 3)).alloc (.cells #[.int .i64 (nth c.lots j).hold, .int .i64 (nth c.lots j).frm, .int .i64 (nth c.lots j).green.lo, .int .i64 (nth c.lots j).green.hi] 57)).heap.size = wr.heap.size + 1 + 1 := by simp
        generalize ((wr.alloc (.cells #[.int .i64 j] 3)).alloc (.cells #[.int .i64 (nth c.lots j).hold, .int .i64 (nth c.lots j).frm, .int .i64 (nth c.lots j).green.lo, .int .i64 (nth c.lots j).green.hi] 57)) = w2 at *
        have r1 := (hA.cell (p := ⟨w.heap.size + 1, 0, none⟩) (cell_lt r1)).trans r1
        have HL2 := hide (HLR.out.keep' (Keep.of_below' hA (fun _ => False)) (fun _ h => h.elim))
        have HQ := hide (safe_q (L := w.heap.size) (bm := bm) (b := b) (hold := (nth c.lots j).hold.toNat) (but := 0) (c := c) (A1 := A1) (A2 := A2) (A3 := some ⟨bl, ol, none⟩) (A4 := A4) (c1 := c1) (c2 := c2) (c3 := c3) (c4 := c4) (show j < 5 by omega) d0 r1 ⟨by omega, hbx⟩)
        have hask := ask_any HL2.out HV.out (by omega) (by omega) HQ.out
        have hh : ((nth c.lots j).hold.toNat : Int) = (nth c.lots j).hold := by omega
        rw [hh] at hask
        have HASK := hide hask
        have HA := hide hA
        have HS := hide (safeVTo_succ c hour j)
        have HSI := hide (show safeIs c hour j = (decide ((nth c.lots j).frm ≤ hour) && (settledM (cntB (safeAns c hour j) (truthsS c (nth c.lots j).hold.toNat 0)) (truthsS c (nth c.lots j).hold.toNat 0).length == 1)) from rfl)
        have hle : (safeVTo c hour j).length ≤ j := by simpa [safeVTo] using List.length_filter_le (safeIs c hour) (List.range j)
        clear hask hA t0 t1 t2 t3 hh
        generalize settledM (cntB (safeAns c hour j) (truthsS c (nth c.lots j).hold.toNat 0)) (truthsS c (nth c.lots j).hold.toNat 0).length = sv at *
        by_cases hfr : (nth c.lots j).frm ≤ hour
        · by_cases hsv : sv = 1
          · have e : safeVTo c hour (j + 1) = safeVTo c hour j ++ [j] := by rw [HS.out, HSI.out]; simp [hfr, hsv]
            have HE := hide e
            clear e
            go_wp2_with (first
              | (go_at_call 70
                 refine HASK.out.mono ?_
                 rintro e w3 ⟨rfl, hk3, hn3, d3, d4, -, -⟩
                 have hz3 := hk3.size
                 have hown3 := own_keep (w' := w3) (own_keep (w' := w2) HOWN.out (fun k hk hkw => HA.out.block k hkw)) (fun k hk hkw => hk3.block k hkw (by omega)))
              | (at_builtin
                 refine wpList_append_own _ rfl _ _ 22 rfl w1.heap.size 3 i0 (.int .i64 0) 1 8 Try.underlying22 hi hz0' hz1' hz2' rfl (by decide) _ _ _ rfl (hown3.alloc _) ⟨w3.heap.size, 0, none⟩ 1 1 [.int .i64 j] rfl rfl ?c1 ?c2 ?c3 ?c4 ?c5 ?_
                 case c1 => exact cell_one_new _ _ _
                 case c2 => simp [Value.oneCell']
                 case c3 => simp [maxLen]; omega
                 case c4 => omega
                 case c5 => simp; omega
                 intro v' w4 hown' hg _
                 have hb4 := app_below (base := w1.heap.size) (by omega) hown3 hg
                 clear hg))
            go_roundw
            case rel =>
              refine ⟨j + 1, by omega, by go_num, ?_, ?_, ?_⟩
              · exact (HKP.out.trans ((Keep.of_below' HA.out (fun k => k = bm)).trans (hk3.mono (fun k _ h => by rcases h with h | h <;> exact h)))).trans' (Keep.of_below hb4) (by omega)
              · exact hn3.keep ((Keep.of_below hb4).mono (S' := fun k => w1.heap.size ≤ k) (fun k _ h => h)) (by omega)
              · rw [HE.out]; simpa using hown'
            case measure => simp [intOf]; omega
          · have e : safeVTo c hour (j + 1) = safeVTo c hour j := by rw [HS.out, HSI.out]; simp [hfr, hsv]
            have HE := hide e
            have hsv1 : (sv == 1) = false := by simpa using hsv
            clear e
            go_wp2_with (first
              | (go_at_call 70
                 refine HASK.out.mono ?_
                 rintro e w3 ⟨rfl, hk3, hn3, d3, d4, -, -⟩
                 have hz3 := hk3.size
                 have hown3 := own_keep (w' := w3) (own_keep (w' := w2) HOWN.out (fun k hk hkw => HA.out.block k hkw)) (fun k hk hkw => hk3.block k hkw (by omega))))
            go_roundw
            case rel =>
              refine ⟨j + 1, by omega, by go_num, ?_, hn3, ?_⟩
              · exact (HKP.out.trans ((Keep.of_below' HA.out (fun k => k = bm)).trans (hk3.mono (fun k _ h => by rcases h with h | h <;> exact h))))
              · rw [HE.out]; exact hown3
            case measure => simp [intOf]; omega
        · have e : safeVTo c hour (j + 1) = safeVTo c hour j := by rw [HS.out, HSI.out]; simp [hfr]
          have HE := hide e
          have hfr1 : decide ((nth c.lots j).frm ≤ hour) = false := by simpa using hfr
          clear e
          go_wp2_with fail
          go_roundw
          case rel =>
            refine ⟨j + 1, by omega, by go_num, ?_, HL2.out.k, ?_⟩
            · exact HKP.out.trans (Keep.of_below' HA.out (fun k => k = bm))
            · rw [HE.out]; exact own_keep HOWN.out (fun k hk hkw => HA.out.block k hkw)
          case measure => simp [intOf]; omega
      · obtain rfl : j = c.lots.length := by omega
        have hj1 : ¬ (c.lots.length : Int) < (c.lots.length : Int) := by omega
        have HKN := hide hkn
        have HOWN := hide hown
        clear hkp hkn hown
        go_wp2_with fail
        go_ret2
        rw [HR.out]
        obtain ⟨A', c', rfl, hs'⟩ := IntsS.of_own (xs := natInts (safeVTo c hour c.lots.length)) (by rw [natInts_vals]; exact HOWN.out)
        exact ⟨A', c', rfl, hs', HB1.out.trans (HKP.out.below (fun k h => by omega) (by omega))⟩
end Go.Proofs.Ytbkknliggnhpcaa
