/- The memory of claim's iterator of truths; places are compared; its innermost call (all lots have a place). -/
import Derived.Test.YtllmahcanipcpaaNB
import Derived.Deep.RegionHeld3
import Derived.RangeFuncBound
import Derived.RangeFuncCalls
import Derived.Deep.DeepCutAuto
import Derived.RangeFuncNested
import Derived.OwnWalkIn
import Derived.TacticsInMore
import Derived.Laws.StructEq
set_option linter.unusedVariables false
set_option linter.unusedSimpArgs false
namespace Go.Proofs.Ytllmahcanipcpaa
open Go.RowKit
attribute [local go_sem ↓] Go.wp_at_zero Go.wp_at_succ

theorem Try.keyAtPl : Try.prog.keyTypeAt 3 86 = true := by kernel_rfl
theorem plVal_lit_inj {s t : List Int} (hs : PlOk s) (ht : PlOk t) {l : Lit} (h1 : keyOf Try.prog 86 (plVal s) = some l) (h2 : keyOf Try.prog 86 (plVal t) = some l) : s = t :=
  plVal_inj hs.len ht.len (Try.keyPl.inj h1 h2)
set_option maxRecDepth 100000 in
theorem run_eq_pl {s t : List Int} (hs : PlOk s) (ht : PlOk t) (hne : s ≠ t) (w : World) : (Op.equalIn 10000 86 (plVal s) (plVal t)).run Try.prog w = .ok false w := by
  obtain ⟨ls, hls⟩ := plVal_key s hs
  obtain ⟨lt, hlt⟩ := plVal_key t ht
  obtain ⟨r, hr, hiff⟩ := run_equal_deep w (m := 3) (by omega) Try.keyAtPl Try.widePl hls hlt
  have : r = false := by
    cases r with
    | false => rfl
    | true =>
      have e := hiff.1 rfl
      subst e
      exact absurd (plVal_lit_inj hs ht hls hlt) hne
  subst this
  simp only [Op.equal, Op.maxDepth] at hr
  exact hr
def plRow (s : List Int) : List Int := [nth s 0, nth s 1, nth s 2, nth s 3]
theorem nth4_0 {a b c d : Int} : nth [a, b, c, d] 0 = a := rfl
theorem nth4_1 {a b c d : Int} : nth [a, b, c, d] 1 = b := rfl
theorem nth4_2 {a b c d : Int} : nth [a, b, c, d] 2 = c := rfl
theorem nth4_3 {a b c d : Int} : nth [a, b, c, d] 3 = d := rfl
theorem plRow_set {s : List Int} (hl : s.length = 4) {k : Nat} (hk : k < 4) (x : Int) : (plRow s).set k x = plRow (s.set k x) := by
  match s, hl with
  | [g0, g1, g2, g3], _ =>
    obtain rfl | rfl | rfl | rfl : k = 0 ∨ k = 1 ∨ k = 2 ∨ k = 3 := by omega
    all_goals rfl
/-- What never turns of the blocks: which are which. -/
structure Fix (C : Nat → Prop) (L U b bm p1 pf py pn ps pl : Nat) : Prop where
  hLU : L ≤ U
  hm : bm < U
  hb : b < U
  c : ∀ k, C k → k = bm ∨ ((L ≤ k ∧ k ≠ b) ∧ k < U ∧ k ≠ p1)
  a1 : p1 < U
  f : U ≤ pf ∧ pf ≠ ps ∧ pf ≠ pl
  y : U ≤ py ∧ py ≠ ps ∧ py ≠ pl
  n : U ≤ pn ∧ pn ≠ ps ∧ pn ≠ pl
  s : U ≤ ps
  l : U ≤ pl
  sl : ps ≠ pl
/-- The iterator's memory: the file that is looked at, the iterator's own boxes, the places s, those that came last. -/
structure ItM (W : World) (L U b bm p1 pf py pn ps pl l : Nat) (f : File) (a : FA) (but : Nat) (V : List Int → Int) (s last : List Int) : Prop where
  look : LookG W L b bm f a but V
  e1 : W.cell? ⟨p1, 0, none⟩ = some (.pointer (some ⟨b, 0, none⟩))
  ef : W.cell? ⟨pf, 0, none⟩ = some (.func (.func 78) #[.pointer (some ⟨b, 0, none⟩)] #[])
  ey : W.cell? ⟨py, 0, none⟩ = some (.func (.yield l) #[] #[])
  en : W.cell? ⟨pn, 0, none⟩ = some (.func (.func 79) #[] #[.pointer (some ⟨p1, 0, none⟩), .pointer (some ⟨ps, 0, none⟩), .pointer (some ⟨pl, 0, none⟩), .pointer (some ⟨pf, 0, none⟩), .pointer (some ⟨py, 0, none⟩), .pointer (some ⟨pn, 0, none⟩)])
  rs : OwnE 86 W U ps 4 (plRow s)
  rl : OwnE 86 W U pl 4 (plRow last)
section
variable {S C : Nat → Prop} {W W' : World} {L U b bm p1 pf py pn ps pl l : Nat} {f : File} {a : FA} {but : Nat} {V : List Int → Int} {s last : List Int}
theorem ItM.keep (h : ItM W L U b bm p1 pf py pn ps pl l f a but V s last) (F : Fix C L U b bm p1 pf py pn ps pl) (hk : Keep S W W') (hS : ∀ k, S k → k = bm ∨ C k) (hn : Known W' bm V) :
    ItM W' L U b bm p1 pf py pn ps pl l f a but V s last := by
  have hC : ∀ k, S k → k = bm ∨ ((L ≤ k ∧ k ≠ b) ∧ k < U ∧ k ≠ p1) := fun k hs => (hS k hs).elim .inl (F.c k)
  have hm := F.hm
  have hc : ∀ q o v, (q < U → q = p1) → W.cell? ⟨q, o, none⟩ = some v → W'.cell? ⟨q, o, none⟩ = some v := fun q o v h2 hv => by
    refine (hk.cell (cell_lt hv) (fun hs => ?_)).trans hv
    rcases hC q hs with h3 | ⟨_, h3, h4⟩
    · exact h.look.k.ne hv h3
    · exact h4 (h2 h3)
  have hb : ∀ q, U ≤ q → q < W.heap.size → W'.heap[q]? = W.heap[q]? := fun q h1 h2 => hk.block q h2 (fun hs => by rcases hC q hs with h3 | ⟨_, h3, _⟩ <;> omega)
  have f1 := F.f
  have f2 := F.y
  have f3 := F.n
  exact ⟨h.look.keep hk (fun k hs => (hC k hs).imp id (fun h => h.1)) hn, hc _ _ _ (fun _ => rfl) h.e1, hc _ _ _ (fun _ => by omega) h.ef,
    hc _ _ _ (fun _ => by omega) h.ey, hc _ _ _ (fun _ => by omega) h.en, h.rs.block (hb _ F.s h.rs.lt.2), h.rl.block (hb _ F.l h.rl.lt.2)⟩
theorem ItM.still (h : ItM W L U b bm p1 pf py pn ps pl l f a but V s last) (F : Fix C L U b bm p1 pf py pn ps pl) (hb : Below W.heap.size W W') : ItM W' L U b bm p1 pf py pn ps pl l f a but V s last :=
  h.keep F (Keep.of_below' hb (fun _ => False)) (fun _ h => h.elim) (h.look.k.keep (Keep.of_below' hb (fun _ => False)) (fun h => h))
/-- A store into the places, or into the last ones. -/
theorem ItM.turn {s' last' : List Int} (h : ItM W L U b bm p1 pf py pn ps pl l f a but V s last) (F : Fix C L U b bm p1 pf py pn ps pl) (hk : Keep (fun k => k = ps ∨ k = pl) W W')
    (hs : OwnE 86 W' U ps 4 (plRow s')) (hl : OwnE 86 W' U pl 4 (plRow last')) : ItM W' L U b bm p1 pf py pn ps pl l f a but V s' last' := by
  have hLU := F.hLU
  have hm := F.hm
  have hb := F.hb
  have f1 := F.f
  have f2 := F.y
  have f3 := F.n
  have f4 := F.a1
  have f6 := F.s
  have f7 := F.l
  have hc : ∀ q o v, q ≠ ps → q ≠ pl → W.cell? ⟨q, o, none⟩ = some v → W'.cell? ⟨q, o, none⟩ = some v := fun q o v h1 h2 hv => (hk.cell (cell_lt hv) (fun hs => by rcases hs with h | h <;> omega)).trans hv
  exact ⟨h.look.keep' hk (fun k hs => by rcases hs with h | h <;> omega), hc _ _ _ (by omega) (by omega) h.e1, hc _ _ _ (by omega) (by omega) h.ef,
    hc _ _ _ (by omega) (by omega) h.ey, hc _ _ _ (by omega) (by omega) h.en, hs, hl⟩
end
theorem OwnE.store4 {e : TypeId} {w : World} {base g : Nat} {xs : List Int} (h : OwnE e w base g 4 xs) (y0 y1 y2 y3 : Int) :
    OwnE e ((((w.setCell ⟨g, 0, none⟩ (.int .i64 y0)).setCell ⟨g, 1, none⟩ (.int .i64 y1)).setCell ⟨g, 2, none⟩ (.int .i64 y2)).setCell ⟨g, 3, none⟩ (.int .i64 y3)) base g 4 [y0, y1, y2, y3] := by
  have hl := h.len
  have := (((h.set 0 y0).set 1 y1).set 2 y2).set 3 y3
  match xs, hl with
  | [a, b, c, d], _ => simpa using this
theorem keep_store4 {w : World} {g : Nat} (S : Nat → Prop) (hg : S g) (y0 y1 y2 y3 : Value) :
    Keep S w ((((w.setCell ⟨g, 0, none⟩ y0).setCell ⟨g, 1, none⟩ y1).setCell ⟨g, 2, none⟩ y2).setCell ⟨g, 3, none⟩ y3) :=
  (((Keep.setCell w _ _ S hg).trans (Keep.setCell _ _ _ S hg)).trans (Keep.setCell _ _ _ S hg)).trans (Keep.setCell _ _ _ S hg)

/-- How a call of next ends: all of a list of places have come, or a round has said 'no more'. -/
def NextPost (C : Nat → Prop) (L U b bm p1 pf py pn ps pl l : Nat) (f : File) (a : FA) (but : Nat) (V : List Int → Int) (I Ix : List (List Int) → World → Prop) (pre : List (List Int)) (W : World) (todo : List (List Int)) (last : List Int) (R : List Int → Prop) (e : Ending) (W' : World) : Prop :=
  (e = .returned (.bool true) ∧ I (pre ++ todo.filter (soB f but)) W' ∧ Keep (fun k => k = bm ∨ k = ps ∨ k = pl ∨ C k) W W' ∧
    ∃ s' last', ItM W' L U b bm p1 pf py pn ps pl l f a but V s' last' ∧ R s' ∧ (last' = last ∨ last' ∈ todo) ∧ PlOk last') ∨
  (e = .returned (.bool false) ∧ (∃ q, q ≠ [] ∧ q <+: todo.filter (soB f but) ∧ Ix (pre ++ q) W') ∧ Known W' bm V ∧ Keep (fun k => k = bm ∨ k = ps ∨ k = pl ∨ C k) W W')

set_option maxHeartbeats 1000000 in
set_option maxRecDepth 100000 in
theorem next_leaf {C : Nat → Prop} {W : World} {L U b bm p1 pf py pn ps pl l : Nat} {f : File} {a : FA} {but : Nat} {V : List Int → Int} {s last : List Int} {I Ix : List (List Int) → World → Prop} {pre T : List (List Int)}
    (F : Fix C L U b bm p1 pf py pn ps pl) (hv : Valid f) (hbut : but < 32)
    (hI : ∀ pre W W', I pre W → Keep (fun k => k = bm ∨ U ≤ k) W W' → Known W' bm V → I pre W')
    (hY : ∀ pre x W1, x ∈ T → I pre W1 → LookG W1 L b bm f a but V → YieldAt Fence.wide 0 Try.prog l #[plVal x] W1 fun e W' =>
      Keep C W1 W' ∧ Known W' bm V ∧ ((e = .returned (.bool true) ∧ I (pre ++ [x]) W') ∨ (e = .returned (.bool false) ∧ Ix (pre ++ [x]) W')))
    (hs : PlB f s) (hlast : PlOk last) (hne : s ≠ last) (hmem : soB f but s = true → s ∈ T)
    (h : ItM W L U b bm p1 pf py pn ps pl l f a but V s last) (h0 : I pre W) :
    Calls Try.prog 79 #[.int .i64 (f.lots.length : Int), .pointer (some ⟨p1, 0, none⟩), .pointer (some ⟨ps, 0, none⟩), .pointer (some ⟨pl, 0, none⟩), .pointer (some ⟨pf, 0, none⟩), .pointer (some ⟨py, 0, none⟩), .pointer (some ⟨pn, 0, none⟩)] W
      (NextPost C L U b bm p1 pf py pn ps pl l f a but V I Ix pre W [s] last (fun s' => s' = s)) := by
  have hll := hv.lots
  have hq : ((f.lots.length : Int) == (f.lots.length : Int)) = true := by simp
  have e1 := h.e1
  have ef := h.ef
  have q2 := h.look.q2
  have s0 := h.rs.cell (i := 0) (by omega)
  have s1 := h.rs.cell (i := 1) (by omega)
  have s2 := h.rs.cell (i := 2) (by omega)
  have s3 := h.rs.cell (i := 3) (by omega)
  have l0 := h.rl.cell (i := 0) (by omega)
  have l1 := h.rl.cell (i := 1) (by omega)
  have l2 := h.rl.cell (i := 2) (by omega)
  have l3 := h.rl.cell (i := 3) (by omega)
  have heq := run_eq_pl hs.pl hlast hne
  have hgt : Try.prog.eqGuardType Try.prog.depth 86 = false := by kernel_rfl
  simp only [plVal, iv] at heq
  simp only [plRow, nth4_0, nth4_1, nth4_2, nth4_3] at s0 s1 s2 s3 l0 l1 l2 l3
  have HSO := hide (so_any h.look.look hv hbut hs)
  simp only [plVal, iv] at HSO
  have HH := hide h
  have HV := hide hv
  have HF := hide F
  have H0 := hide h0
  have HNE := hide hne
  have HPS := hide hs
  clear h hv F h0 hne hs
  generalize a.A3 = A3 at *
  generalize a.c3 = c3 at *
  cases hok : soB f but s with
  | false =>
    have HOK := hide hok
    clear hok
    go_enter Try.func79, Try.ntmps79
    go_wp2_with (go_at_call 78; refine HSO.out.mono ?_; rintro e w3 ⟨rfl, hb3⟩; rw [HOK.out])
    go_ret
    have hM := HH.out.still HF.out hb3
    refine .inl ⟨rfl, ?_, Keep.of_below' hb3 _, s, last, hM, rfl, .inl rfl, hlast⟩
    simp [HOK.out]
    exact hI pre W w3 H0.out (Keep.of_below' hb3 _) hM.look.k
  | true =>
    have HOK := hide hok
    have HME := hide (hmem hok)
    clear hok hmem
    go_enter Try.func79, Try.ntmps79
    go_upto_region 4 with (go_at_call 78; refine HSO.out.mono ?_; rintro e w3 ⟨rfl, hb3⟩; rw [HOK.out])
    have HM := hide (HH.out.still HF.out hb3)
    have HI3 := hide (hI pre W w3 H0.out (Keep.of_below' hb3 _) HM.out.look.k)
    have HK3 : Hid (Keep (fun k => k = bm ∨ k = ps ∨ k = pl ∨ C k) W w3) := Keep.of_below' hb3 _
    clear s0 s1 s2 s3 l0 l1 l2 l3 e1 ef q2 hb3 heq hgt
    have s0 := HM.out.rs.cell (i := 0) (by omega)
    have s1 := HM.out.rs.cell (i := 1) (by omega)
    have s2 := HM.out.rs.cell (i := 2) (by omega)
    have s3 := HM.out.rs.cell (i := 3) (by omega)
    have l0 := HM.out.rl.cell (i := 0) (by omega)
    have l1 := HM.out.rl.cell (i := 1) (by omega)
    have l2 := HM.out.rl.cell (i := 2) (by omega)
    have l3 := HM.out.rl.cell (i := 3) (by omega)
    have g0 := HM.out.rl.frozen 0
    have g1 := HM.out.rl.frozen 1
    have g2 := HM.out.rl.frozen 2
    have g3 := HM.out.rl.frozen 3
    simp only [plRow, nth4_0, nth4_1, nth4_2, nth4_3] at s0 s1 s2 s3 l0 l1 l2 l3
    go_upto_region 5 with (fail)
    have hT4 : OwnE 86 ((((w3.setCell ⟨pl, 0, none⟩ (.int .i64 (nth s 0))).setCell ⟨pl, 1, none⟩ (.int .i64 (nth s 1))).setCell ⟨pl, 2, none⟩ (.int .i64 (nth s 2))).setCell ⟨pl, 3, none⟩ (.int .i64 (nth s 3))) U pl 4 (plRow s) := HM.out.rl.store4 (nth s 0) (nth s 1) (nth s 2) (nth s 3)
    have hk4 : Keep (fun k => k = pl) w3 ((((w3.setCell ⟨pl, 0, none⟩ (.int .i64 (nth s 0))).setCell ⟨pl, 1, none⟩ (.int .i64 (nth s 1))).setCell ⟨pl, 2, none⟩ (.int .i64 (nth s 2))).setCell ⟨pl, 3, none⟩ (.int .i64 (nth s 3))) := keep_store4 (w := w3) (g := pl) (fun k => k = pl) rfl (.int .i64 (nth s 0)) (.int .i64 (nth s 1)) (.int .i64 (nth s 2)) (.int .i64 (nth s 3))
    generalize ((((w3.setCell ⟨pl, 0, none⟩ (.int .i64 (nth s 0))).setCell ⟨pl, 1, none⟩ (.int .i64 (nth s 1))).setCell ⟨pl, 2, none⟩ (.int .i64 (nth s 2))).setCell ⟨pl, 3, none⟩ (.int .i64 (nth s 3))) = w4 at *
    have HM4 := hide (HM.out.turn HF.out (hk4.mono (fun k _ h => .inr h)) (HM.out.rs.block (hk4.block _ HM.out.rs.lt.2 HF.out.sl)) hT4)
    have HI4 := hide (hI pre w3 w4 HI3.out (hk4.mono (fun k _ h => by have := HF.out.l; right; omega)) (HM4.out.look.k))
    have HK4 := hide (HK3.out.trans (hk4.mono (fun k _ h => .inr (.inr (.inl h)))))
    obtain ⟨fn, tmps, asg, body, hy, hR⟩ := hY pre s w4 HME.out HI4.out HM4.out.look
    simp only [plVal, iv] at hy
    have HR := hide hR
    have ey := HM4.out.ey
    have s0' := HM4.out.rs.cell (i := 0) (by omega)
    have s1' := HM4.out.rs.cell (i := 1) (by omega)
    have s2' := HM4.out.rs.cell (i := 2) (by omega)
    have s3' := HM4.out.rs.cell (i := 3) (by omega)
    simp only [plRow, nth4_0, nth4_1, nth4_2, nth4_3] at s0' s1' s2' s3'
    clear hT4 hk4 hR s0 s1 s2 s3 l0 l1 l2 l3 g0 g1 g2 g3 hI hY
    refine (wpIn_wide (n := 0)).1 ?_
    gi_wp2
    refine ⟨rfl, HR.out.mono ?_⟩
    rintro e W' ⟨hkC, hnW, (⟨rfl, hIW⟩ | ⟨rfl, hIxW⟩)⟩
    · gi_wp2
      go_wp2
      go_ret
      refine .inl ⟨rfl, ?_, ?_, s, s, HM4.out.keep HF.out hkC (fun k h => .inr h) hnW, rfl, .inr (by simp), HPS.out.pl⟩
      · simpa [HOK.out] using hIW
      · exact HK4.out.trans (hkC.mono (fun k _ h => .inr (.inr (.inr h))))
    · gi_wp2
      go_wp2
      go_ret
      refine .inr ⟨rfl, ⟨[s], by simp, by simp [HOK.out], hIxW⟩, hnW, ?_⟩
      exact HK4.out.trans (hkC.mono (fun k _ h => .inr (.inr (.inr h))))
end Go.Proofs.Ytllmahcanipcpaa
