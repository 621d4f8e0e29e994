/- The memory of chain's iterator of truths; loads are compared; its innermost call (all hours have a load). -/
import Derived.Test.YtkaahiddngmdbaaGreatDoorDF
import Derived.Test.YtkaahiddngmdbaaGreatDoorDR
import Derived.Deep.RegionHeld3
import Derived.Deep.DrawnRows
import Derived.RangeFuncBound
import Derived.RangeFuncCalls
import Derived.RangeFuncNested
import Derived.TacticsInMore
import Derived.Laws.StructEq
import Derived.Laws.EntriesVeiled
set_option linter.unusedVariables false
set_option linter.unusedSimpArgs false
namespace Go.Proofs.YtkaahiddngmdbaaGreatDoor
open Go.RowKit
attribute [local go_sem ↓] Go.wp_at_zero Go.wp_at_succ

def plVal (s : List Int) : Value := .agg #[iv (nth s 0), iv (nth s 1), iv (nth s 2), iv (nth s 3)]
structure PlOk (s : List Int) : Prop where
 len : s.length = 4
 wf : ∀ i, wfI (nth s i)
theorem plVal_inj {s t : List Int} (hs : s.length = 4) (ht : t.length = 4) (h : plVal s = plVal t) : s = t := by
 match s, t, hs, ht with
 | [a, b, c, d], [a', b', c', d'], _, _ => simp [plVal, nth] at h; simp; exact h
theorem Tryz.rowPl : (236 : TypeId) < Tryz.prog.types.size := of_decide_eq_true (by kernel_rfl)
theorem Tryz.widePl : (match Tryz.prog.underlying 236 with | some (.array _ _) | some (.struct _) => true | _ => false) = true := by kernel_rfl
set_option maxRecDepth 100000 in
theorem Tryz.keyPl : WideMaps.KeyLaw Tryz.prog 236 := deep_law_laid Tryz.laidOut (m := 3) (by omega) Tryz.rowPl (by kernel_rfl) Tryz.widePl
theorem Tryz.keyedPl : Maps.Keyed Tryz.prog 236 := Maps.Keyed.of_law Tryz.keyPl
theorem Tryz.cellsPl : Tryz.prog.cellsOf 236 = 4 := by kernel_rfl
theorem Tryz.keyTypePl : Tryz.prog.keyType 236 = true := by kernel_rfl
theorem lits_pl (d : Nat) {a b c e : Int} (ha : wfI a) (hb : wfI b) (hc : wfI c) (he : wfI e) :
 Tryz.prog.keyLits (d + 3) 236 [iv a, iv b, iv c, iv e] = some [.int .i64 a, .int .i64 b, .int .i64 c, .int .i64 e] := by
 have e4 : List.range 4 = [0, 1, 2, 3] := by decide
 unfold Program.keyLits
 rw [Tryz.underlying236]
 simp only [Tryz.cellsPl, Tryz.cellsInt, e4, List.length_cons, List.length_nil, List.mapM_cons, List.mapM_nil]
 simp [lits_int (d + 1) ha, lits_int (d + 1) hb, lits_int (d + 1) hc, lits_int (d + 1) he]
theorem plVal_key (s : List Int) (h : PlOk s) : ∃ l, keyOf Tryz.prog 236 (plVal s) = some l := by
 obtain ⟨d, hd⟩ := Tryz.sizeTypes
 have hu := Tryz.underlying236
 have hf : (plVal s).formed Tryz.prog 236 = true := by simp [plVal, Value.formed, hu, Tryz.cellsPl]
 have hls : Tryz.prog.keyLits (d + 3) 236 (plVal s).cells.toList = some [.int .i64 (nth s 0), .int .i64 (nth s 1), .int .i64 (nth s 2), .int .i64 (nth s 3)] := lits_pl d (h.wf 0) (h.wf 1) (h.wf 2) (h.wf 3)
 refine ⟨.string (keyBytes [.int .i64 (nth s 0), .int .i64 (nth s 1), .int .i64 (nth s 2), .int .i64 (nth s 3)]), ?_⟩
 unfold keyOf
 rw [hu]
 simp only [Tryz.keyTypePl, hf, hd, hls]
 simp

theorem Tryz.keyAtPl : Tryz.prog.keyTypeAt 3 236 = true := by kernel_rfl
theorem plVal_lit_inj {s t : List Int} (hs : PlOk s) (ht : PlOk t) {l : Lit} (h1 : keyOf Tryz.prog 236 (plVal s) = some l) (h2 : keyOf Tryz.prog 236 (plVal t) = some l) : s = t :=
 plVal_inj hs.len ht.len (Tryz.keyPl.inj h1 h2)
set_option maxRecDepth 100000 in
theorem run_eq_pl {s t : List Int} (hs : PlOk s) (ht : PlOk t) (hne : s ≠ t) (w : World) : (Op.equalIn 10000 236 (plVal s) (plVal t)).run Tryz.prog w = .ok false w := by
 obtain ⟨ls, hls⟩ := plVal_key s hs
 obtain ⟨lt, hlt⟩ := plVal_key t ht
 obtain ⟨r, hr, hiff⟩ := run_equal_deep w (m := 3) (by omega) Tryz.keyAtPl Tryz.widePl hls hlt
 have : r = false := by
  cases r with
  | false => rfl
  | true =>
   have e := hiff.1 rfl
   subst e
   exact absurd (plVal_lit_inj hs ht hls hlt) hne
 subst this
 simp only [Op.equal, Op.maxDepth] at hr
 exact hr
def plRow (s : List Int) : List Int := [nth s 0, nth s 1, nth s 2, nth s 3]
theorem nth4_0 {a b c d : Int} : nth [a, b, c, d] 0 = a := rfl
theorem nth4_1 {a b c d : Int} : nth [a, b, c, d] 1 = b := rfl
theorem nth4_2 {a b c d : Int} : nth [a, b, c, d] 2 = c := rfl
theorem nth4_3 {a b c d : Int} : nth [a, b, c, d] 3 = d := rfl
theorem plRow_set {s : List Int} (hl : s.length = 4) {k : Nat} (hk : k < 4) (x : Int) : (plRow s).set k x = plRow (s.set k x) := by
 match s, hl with
 | [g0, g1, g2, g3], _ =>
  obtain rfl | rfl | rfl | rfl : k = 0 ∨ k = 1 ∨ k = 2 ∨ k = 3 := by omega
  all_goals rfl
/-- What never turns of the blocks: which are which. -/
structure Fix (C : Nat → Prop) (L U b bm p1 py pn ps pl : Nat) : Prop where
 hLU : L ≤ U
 hm : bm < U
 hb : b < U
 c : ∀ k, C k → (L ≤ k ∧ k ≠ b) ∧ k < U ∧ k ≠ p1
 a1 : p1 < U
 y : U ≤ py ∧ py ≠ ps ∧ py ≠ pl
 n : U ≤ pn ∧ pn ≠ ps ∧ pn ≠ pl
 s : U ≤ ps
 l : U ≤ pl
 sl : ps ≠ pl
theorem OwnE.notWay {e : TypeId} {w : World} {base g n : Nat} {xs : List Int} (h : OwnE e w base g n xs) (he : e ≠ 494) : ¬ WayBlk w g := by
 rintro ⟨cs, fr, hb⟩
 obtain ⟨h1, h2⟩ := h
 rcases h2 with ⟨h', _⟩ | ⟨g', cap', cur, h', hb', hg, r⟩
 · simp at h'
 · have hgg : g' = g := by
    simp only [Value.slice.injEq, Option.some.injEq, Addr.mk.injEq, and_true, true_and] at h'
    exact h'.1.symm
   subst hgg
   rw [hg] at hb
   simp only [Option.some.injEq, Obj.cells.injEq] at hb
   exact he hb.2.1
/-- The iterator's memory: the board that is looked at, the iterator's own boxes, the loads s, those that came last. -/
structure ItM (W : World) (L U b bm p1 py pn ps pl l : Nat) (f : Board) (a : BrdA) (s last : List Int) : Prop where
 look : LookH W L b bm f a
 e1 : W.cell? ⟨p1, 0, none⟩ = some (.pointer (some ⟨b, 0, none⟩))
 ey : W.cell? ⟨py, 0, none⟩ = some (.func (.yield l) #[] #[])
 en : W.cell? ⟨pn, 0, none⟩ = some (.func (.func 301) #[] #[.pointer (some ⟨p1, 0, none⟩), .pointer (some ⟨ps, 0, none⟩), .pointer (some ⟨pl, 0, none⟩), .pointer (some ⟨py, 0, none⟩), .pointer (some ⟨pn, 0, none⟩)])
 rs : OwnE 236 W U ps 4 (plRow s)
 rl : OwnE 236 W U pl 4 (plRow last)
section
variable {S C : Nat → Prop} {W W' : World} {L U b bm p1 py pn ps pl l : Nat} {f : Board} {a : BrdA} {s last : List Int}
theorem ItM.keep (h : ItM W L U b bm p1 py pn ps pl l f a s last) (F : Fix C L U b bm p1 py pn ps pl) (hk : Keep S W W') (hS : ∀ k, S k → k = bm ∨ C k) (hn : Cache W' bm (waysV f)) :
 ItM W' L U b bm p1 py pn ps pl l f a s last := by
 have hC : ∀ k, S k → k = bm ∨ ((L ≤ k ∧ k ≠ b) ∧ k < U ∧ k ≠ p1) := fun k hs => (hS k hs).imp id (F.c k)
 have hm := F.hm
 have hbm := h.look.ne
 have hbL := h.look.hm
 have hc : ∀ q o v, (q < U → q = p1) → W.cell? ⟨q, o, none⟩ = some v → W'.cell? ⟨q, o, none⟩ = some v := fun q o v h2 hv => by
  refine (hk.cell (cell_lt hv) (fun hs => ?_)).trans hv
  rcases hC q hs with h3 | ⟨_, h3, h4⟩
  · exact h.look.k.ne hv h3
  · exact h4 (h2 h3)
 have hb : ∀ q, U ≤ q → q < W.heap.size → W'.heap[q]? = W.heap[q]? := fun q h1 h2 => hk.block q h2 (fun hs => by rcases hC q hs with h3 | ⟨_, h3, _⟩ <;> omega)
 have f2 := F.y
 have f3 := F.n
 exact ⟨h.look.keep hk (fun k hs => (hC k hs).elim (fun h => by omega) (fun h => h.1)) hn, hc _ _ _ (fun _ => rfl) h.e1,
  hc _ _ _ (fun _ => by omega) h.ey, hc _ _ _ (fun _ => by omega) h.en, h.rs.block (hb _ F.s h.rs.lt.2), h.rl.block (hb _ F.l h.rl.lt.2)⟩
theorem ItM.still (h : ItM W L U b bm p1 py pn ps pl l f a s last) (F : Fix C L U b bm p1 py pn ps pl) (hb : Below W.heap.size W W') : ItM W' L U b bm p1 py pn ps pl l f a s last :=
 h.keep F (Keep.of_below' hb (fun _ => False)) (fun _ h => h.elim) (h.look.k.below hb)
/-- A store into the loads, or into the last ones. -/
theorem ItM.turn {s' last' : List Int} (h : ItM W L U b bm p1 py pn ps pl l f a s last) (F : Fix C L U b bm p1 py pn ps pl) (hk : Keep (fun k => k = ps ∨ k = pl) W W')
 (hs : OwnE 236 W' U ps 4 (plRow s')) (hl : OwnE 236 W' U pl 4 (plRow last')) : ItM W' L U b bm p1 py pn ps pl l f a s' last' := by
 have hLU := F.hLU
 have hm := F.hm
 have hb := F.hb
 have f2 := F.y
 have f3 := F.n
 have f4 := F.a1
 have f6 := F.s
 have f7 := F.l
 have hc : ∀ q o v, q ≠ ps → q ≠ pl → W.cell? ⟨q, o, none⟩ = some v → W'.cell? ⟨q, o, none⟩ = some v := fun q o v h1 h2 hv => (hk.cell (cell_lt hv) (fun hs => by rcases hs with h | h <;> omega)).trans hv
 exact ⟨h.look.keep hk (fun k hs => by rcases hs with h | h <;> omega) (h.look.k.keep hk fun k hs => by
  rcases hs with rfl | rfl
  · exact ⟨by omega, h.rs.notWay (by decide)⟩
  · exact ⟨by omega, h.rl.notWay (by decide)⟩), hc _ _ _ (by omega) (by omega) h.e1,
  hc _ _ _ (by omega) (by omega) h.ey, hc _ _ _ (by omega) (by omega) h.en, hs, hl⟩
end
theorem OwnE.store4 {e : TypeId} {w : World} {base g : Nat} {xs : List Int} (h : OwnE e w base g 4 xs) (y0 y1 y2 y3 : Int) :
 OwnE e ((((w.setCell ⟨g, 0, none⟩ (.int .i64 y0)).setCell ⟨g, 1, none⟩ (.int .i64 y1)).setCell ⟨g, 2, none⟩ (.int .i64 y2)).setCell ⟨g, 3, none⟩ (.int .i64 y3)) base g 4 [y0, y1, y2, y3] := by
 have hl := h.len
 have := (((h.set 0 y0).set 1 y1).set 2 y2).set 3 y3
 match xs, hl with
 | [a, b, c, d], _ => simpa using this
theorem keep_store4 {w : World} {g : Nat} (S : Nat → Prop) (hg : S g) (y0 y1 y2 y3 : Value) :
 Keep S w ((((w.setCell ⟨g, 0, none⟩ y0).setCell ⟨g, 1, none⟩ y1).setCell ⟨g, 2, none⟩ y2).setCell ⟨g, 3, none⟩ y3) :=
 (((Keep.setCell w _ _ S hg).trans (Keep.setCell _ _ _ S hg)).trans (Keep.setCell _ _ _ S hg)).trans (Keep.setCell _ _ _ S hg)

/-- How a call of next ends: all of a list of loads have come, or a round has said 'no more'. -/
def NextPost (C : Nat → Prop) (L U b bm p1 py pn ps pl l : Nat) (f : Board) (a : BrdA) (I Ix : List (List Int) → World → Prop) (pre : List (List Int)) (W : World) (todo : List (List Int)) (last : List Int) (R : List Int → Prop) (e : Ending) (W' : World) : Prop :=
 (e = .returned (.bool true) ∧ I (pre ++ todo.filter (okL f)) W' ∧ Keep (fun k => k = bm ∨ k = ps ∨ k = pl ∨ C k) W W' ∧
  ∃ s' last', ItM W' L U b bm p1 py pn ps pl l f a s' last' ∧ R s' ∧ (last' = last ∨ last' ∈ todo) ∧ PlOk last') ∨
 (e = .returned (.bool false) ∧ (∃ q, q ≠ [] ∧ q <+: todo.filter (okL f) ∧ Ix (pre ++ q) W') ∧ Cache W' bm (waysV f) ∧ Keep (fun k => k = bm ∨ k = ps ∨ k = pl ∨ C k) W W')
theorem LdB.pl {f : Board} {s : List Int} (h : LdB f s) : PlOk s := ⟨h.len, fun i => (wfI_iff _).2 (by have := h.bd i; omega)⟩
theorem plRow_self {s : List Int} (h : s.length = 4) : plRow s = s := by
 match s, h with
 | [a, b, c, d], _ => rfl
theorem cslips_any (w : World) : Calls Tryz.prog 303 #[] w fun e w' => e = .returned (.agg #[.func (.func 356) #[] #[]]) ∧ Below w.heap.size w w' := by
 have bk : Blk (w.alloc (.cells #[.nilFunc] 439)) w.heap.size 439 #[.nilFunc] := Blk.made
 have HB := hide (show Below w.heap.size w (w.alloc (.cells #[.nilFunc] 439)) from (Below.refl _ _).alloc (Nat.le_refl _) _)
 go_enter Tryz.func303, Tryz.ntmps303
 go_upto_region 1 with (fail)
 generalize (w.alloc (.cells #[.nilFunc] 439)) = v0 at *
 have k0 := bk.at_ 0
 have f0 := bk.free 0
 have z := bk.lt
 go_wp2_with fail
 have b4 : Blk (v0.setCell ⟨w.heap.size, 0, none⟩ (.func (.func 356) #[] #[])) w.heap.size 439 #[.func (.func 356) #[] #[]] := bk.store 0 _
 have hb4 : Below w.heap.size w (v0.setCell ⟨w.heap.size, 0, none⟩ (.func (.func 356) #[] #[])) := HB.out.trans ((Keep.setCell _ _ _ (fun k => w.heap.size ≤ k) (Nat.le_refl _)).below (fun _ h => h) (by omega))
 generalize (v0.setCell ⟨w.heap.size, 0, none⟩ (.func (.func 356) #[] #[])) = v4 at *
 clear k0 f0 bk z
 have k0 := b4.at_ 0
 simp only [List.getElem?_toArray, List.getElem?_cons_zero] at k0
 refine bodyPost_ret (v := .agg #[.func (.func 356) #[] #[]]) (by simp [results, Tryz.results303, go_sem, k0]) rfl ⟨rfl, hb4⟩
set_option maxHeartbeats 1000000 in
set_option maxRecDepth 100000 in
theorem next_leaf {C : Nat → Prop} {W : World} {L U b bm p1 py pn ps pl l : Nat} {f : Board} {a : BrdA} {s last : List Int} {I Ix : List (List Int) → World → Prop} {pre T : List (List Int)}
 (F : Fix C L U b bm p1 py pn ps pl) (hv : ValidB f)
 (hI : ∀ pre W W', I pre W → Keep (fun k => k = bm ∨ U ≤ k) W W' → Cache W' bm (waysV f) → I pre W')
 (hY : ∀ pre x W1, x ∈ T → I pre W1 → LookH W1 L b bm f a → YieldAt Fence.wide 0 Tryz.prog l #[plVal x] W1 fun e W' =>
  Keep C W1 W' ∧ Cache W' bm (waysV f) ∧ ((e = .returned (.bool true) ∧ I (pre ++ [x]) W') ∨ (e = .returned (.bool false) ∧ Ix (pre ++ [x]) W')))
 (hs : LdB f s) (hlast : PlOk last) (hne : s ≠ last) (hmem : okL f s = true → s ∈ T)
 (h : ItM W L U b bm p1 py pn ps pl l f a s last) (h0 : I pre W) :
 Calls Tryz.prog 301 #[.int .i64 (f.hours.length : Int), .pointer (some ⟨p1, 0, none⟩), .pointer (some ⟨ps, 0, none⟩), .pointer (some ⟨pl, 0, none⟩), .pointer (some ⟨py, 0, none⟩), .pointer (some ⟨pn, 0, none⟩)] W
  (NextPost C L U b bm p1 py pn ps pl l f a I Ix pre W [s] last (fun s' => s' = s)) := by
 have hll := hv.hours
 have hlc := hv.ctrs
 have hq : ((f.hours.length : Int) == (f.hours.length : Int)) = true := by simp
 have e1 := h.e1
 obtain ⟨hgl, q0, q1, q2, q3⟩ := h.look.cells
 have s0 := h.rs.cell (i := 0) (by omega)
 have s1 := h.rs.cell (i := 1) (by omega)
 have s2 := h.rs.cell (i := 2) (by omega)
 have s3 := h.rs.cell (i := 3) (by omega)
 have l0 := h.rl.cell (i := 0) (by omega)
 have l1 := h.rl.cell (i := 1) (by omega)
 have l2 := h.rl.cell (i := 2) (by omega)
 have l3 := h.rl.cell (i := 3) (by omega)
 have g0 := h.rl.frozen 0
 have g1 := h.rl.frozen 1
 have g2 := h.rl.frozen 2
 have g3 := h.rl.frozen 3
 have heq := run_eq_pl hs.pl hlast hne
 have hgt : Tryz.prog.eqGuardType Tryz.prog.depth 236 = false := by kernel_rfl
 simp only [plVal, iv] at heq
 simp only [plRow, nth4_0, nth4_1, nth4_2, nth4_3] at s0 s1 s2 s3 l0 l1 l2 l3
 have HH := hide h
 have HV := hide hv
 have HF := hide F
 have H0 := hide h0
 have HNE := hide hne
 have HPS := hide hs
 have HME := hide hmem
 have HI := hide hI
 have HY := hide hY
 clear h hv F h0 hne hs hmem hI hY
 go_enter Tryz.func301, Tryz.ntmps301
 go_upto_region 5 with (fail)
 have hT4 : OwnE 236 ((((W.setCell ⟨pl, 0, none⟩ (.int .i64 (nth s 0))).setCell ⟨pl, 1, none⟩ (.int .i64 (nth s 1))).setCell ⟨pl, 2, none⟩ (.int .i64 (nth s 2))).setCell ⟨pl, 3, none⟩ (.int .i64 (nth s 3))) U pl 4 (plRow s) := HH.out.rl.store4 (nth s 0) (nth s 1) (nth s 2) (nth s 3)
 have hk4 : Keep (fun k => k = pl) W ((((W.setCell ⟨pl, 0, none⟩ (.int .i64 (nth s 0))).setCell ⟨pl, 1, none⟩ (.int .i64 (nth s 1))).setCell ⟨pl, 2, none⟩ (.int .i64 (nth s 2))).setCell ⟨pl, 3, none⟩ (.int .i64 (nth s 3))) := keep_store4 (w := W) (g := pl) (fun k => k = pl) rfl (.int .i64 (nth s 0)) (.int .i64 (nth s 1)) (.int .i64 (nth s 2)) (.int .i64 (nth s 3))
 generalize ((((W.setCell ⟨pl, 0, none⟩ (.int .i64 (nth s 0))).setCell ⟨pl, 1, none⟩ (.int .i64 (nth s 1))).setCell ⟨pl, 2, none⟩ (.int .i64 (nth s 2))).setCell ⟨pl, 3, none⟩ (.int .i64 (nth s 3))) = w4 at *
 have hm4 := HH.out.turn HF.out (hk4.mono (fun k _ h => .inr h)) (HH.out.rs.block (hk4.block _ HH.out.rs.lt.2 HF.out.sl)) hT4
 have hi4 := HI.out pre W w4 H0.out (hk4.mono (fun k _ h => by have := HF.out.l; right; omega)) (hm4.look.k)
 have HK4 : Hid (Keep (fun k => k = bm ∨ k = ps ∨ k = pl ∨ C k) W w4) := hide (hk4.mono (fun k _ h => .inr (.inr (.inl h))))
 clear s0 s1 s2 s3 l0 l1 l2 l3 e1 hgl q0 q1 q2 q3 g0 g1 g2 g3 hT4 hk4 heq hgt hq
 have e1 := hm4.e1
 obtain ⟨hgl, -, -, q2, -⟩ := hm4.look.cells
 go_upto_region 6 with (fail)
 clear e1 hgl q2
 go_loopw [31] (fun V31 wr => ∃ c : Nat, c ≤ f.ctrs.length ∧ V31 = .int .i64 c ∧ ItM wr L U b bm p1 py pn ps pl l f a s s ∧ I pre wr ∧ Keep (fun k => k = bm) w4 wr ∧ Hid (∀ c', c' < c → (notM f c' s slipsP || metM f c' s slipsP) = true)) (fun V31 _ => f.ctrs.length - (intOf V31).toNat)
 case atStart => exact ⟨0, by omega, rfl, hm4, hi4, Keep.refl _ _, fun c' h => by omega⟩
 case round =>
  clear hm4 hi4
  obtain ⟨c, hc, rfl, hM, hi, hk, hall⟩ := hrel
  by_cases hlt : c < f.ctrs.length
  · have i0 : (0 : Int) ≤ (c : Int) := Int.natCast_nonneg _
    have i1 : (c : Int) < (f.ctrs.length : Int) := by omega
    have e1 := hM.e1
    have s0 := hM.rs.cell (i := 0) (by omega)
    have s1 := hM.rs.cell (i := 1) (by omega)
    have s2 := hM.rs.cell (i := 2) (by omega)
    have s3 := hM.rs.cell (i := 3) (by omega)
    simp only [plRow, nth4_0, nth4_1, nth4_2, nth4_3] at s0 s1 s2 s3
    have z1 := cell_lt e1
    have z2 := cell_lt s0
    have n1 : p1 ≠ bm := hM.look.k.ne e1
    have n2 : ps ≠ bm := hM.look.k.ne s0
    have HM := hide hM
    have HIr := hide hi
    have HKr := hide hk
    have hbd : ∀ k, 0 ≤ nth [nth s 0, nth s 1, nth s 2, nth s 3] k ∧ nth [nth s 0, nth s 1, nth s 2, nth s 3] k ≤ 40 := fun k => by
     have := HPS.out.bd k
     have e : [nth s 0, nth s 1, nth s 2, nth s 3] = s := plRow_self HPS.out.len
     rw [e]; exact this
    have HBD := hide hbd
    clear hM hi hk hbd
    go_upto_region 8 with (fail)
    go_region_held3 (fun w' => w'.cell? ⟨p1, 0, none⟩ = some (.pointer (some ⟨b, 0, none⟩)) ∧ w'.cell? ⟨ps, 0, none⟩ = some (.int .i64 (nth s 0)) ∧ w'.cell? ⟨ps, 1, none⟩ = some (.int .i64 (nth s 1)) ∧ w'.cell? ⟨ps, 2, none⟩ = some (.int .i64 (nth s 2)) ∧ w'.cell? ⟨ps, 3, none⟩ = some (.int .i64 (nth s 3)))
     (first
      | exact ⟨(hk6.cell (by have := hb5.size; exact Nat.lt_of_lt_of_le z1 this) n1).trans ((hb5.cell (p := ⟨_, _, _⟩) z1).trans e1), (hk6.cell (by have := hb5.size; exact Nat.lt_of_lt_of_le z2 this) n2).trans ((hb5.cell (p := ⟨_, _, _⟩) z2).trans s0), (hk6.cell (by have := hb5.size; exact Nat.lt_of_lt_of_le z2 this) n2).trans ((hb5.cell (p := ⟨_, _, _⟩) z2).trans s1), (hk6.cell (by have := hb5.size; exact Nat.lt_of_lt_of_le z2 this) n2).trans ((hb5.cell (p := ⟨_, _, _⟩) z2).trans s2), (hk6.cell (by have := hb5.size; exact Nat.lt_of_lt_of_le z2 this) n2).trans ((hb5.cell (p := ⟨_, _, _⟩) z2).trans s3)⟩
      | exact ⟨(hb5.cell (p := ⟨_, _, _⟩) z1).trans e1, (hb5.cell (p := ⟨_, _, _⟩) z2).trans s0, (hb5.cell (p := ⟨_, _, _⟩) z2).trans s1, (hb5.cell (p := ⟨_, _, _⟩) z2).trans s2, (hb5.cell (p := ⟨_, _, _⟩) z2).trans s3⟩
      | go_keep)
     (first
      | (go_at_call 303; refine (cslips_any _).mono ?_; rintro e w5 ⟨rfl, hb5⟩)
      | (go_at_call 302; go_must (refine (fares_any (HM.out.look.drew.still hb5) HV.out hlt HBD.out).mono ?_); rintro e w6 ⟨rfl, hk6, hc6⟩))
    have hself : [nth s 0, nth s 1, nth s 2, nth s 3] = s := plRow_self HPS.out.len
    rw [hself]
    have hb5' : Below wr.heap.size wr w5 := ((Below.refl _ _).drew).trans hb5
    have HM6 := hide ((HM.out.still HF.out hb5').keep HF.out hk6 (fun k h => .inl h) hc6)
    have HI6 := hide (HI.out pre w5 w6 (HI.out pre wr w5 HIr.out (Keep.of_below' hb5' _) ((HM.out.still HF.out hb5').look.k)) (hk6.mono fun k _ h => .inl h) hc6)
    have HK6 : Hid (Keep (fun k => k = bm) w4 w6) := (HKr.out.trans (Keep.of_below' hb5' _)).trans hk6
    clear hb5 hb5' hk6 hc6 e1 s0 s1 s2 s3 hself
    rename_i hHeld
    clear hHeld
    generalize hnv : notM f c s slipsP = nv at *
    generalize hmv : metM f c s slipsP = mv at *
    by_cases hor : (nv || mv) = true
    · have hall' : Hid (∀ c', c' < c + 1 → (notM f c' s slipsP || metM f c' s slipsP) = true) := fun c' h => by
       rcases Nat.lt_or_ge c' c with h1 | h1
       · exact hall.out c' h1
       · obtain rfl : c' = c := by omega
         rw [hnv, hmv]; exact hor
      clear hnv hmv
      rcases nv with _ | _
      · rcases mv with _ | _
        · cases hor
        · go_wp2_with fail
          go_roundw
          case rel => exact ⟨c + 1, by omega, by go_num, HM6.out, HI6.out, HK6.out, hall'⟩
          case measure => simp [intOf]; omega
      · go_wp2_with fail
        go_roundw
        case rel => exact ⟨c + 1, by omega, by go_num, HM6.out, HI6.out, HK6.out, hall'⟩
        case measure => simp [intOf]; omega
    · have HNO : Hid (okL f s = false) := by
       refine hide (Bool.eq_false_iff.2 fun h => hor ?_)
       have := List.all_eq_true.1 h c (List.mem_range.2 hlt)
       rw [hnv, hmv] at this; exact this
      clear hnv hmv
      obtain rfl : nv = false := by cases nv <;> simp_all
      obtain rfl : mv = false := by cases mv <;> simp_all
      clear hor
      go_wp2_with fail
      go_ret
      refine .inl ⟨rfl, ?_, HK4.out.trans (HK6.out.mono fun k _ h => .inl h), s, s, HM6.out, rfl, .inr (by simp), HPS.out.pl⟩
      simp [HNO.out]
      exact HI6.out
  · obtain rfl : c = f.ctrs.length := by omega
    have HOK : Hid (okL f s = true) := hide (List.all_eq_true.2 fun c' h => hall.out c' (List.mem_range.1 h))
    obtain ⟨fn, tmps, asg, body, hy, hR⟩ := HY.out pre s wr (HME.out HOK.out) hi hM.look
    simp only [plVal, iv] at hy
    have HR := hide hR
    have ey := hM.ey
    have s0 := hM.rs.cell (i := 0) (by omega)
    have s1 := hM.rs.cell (i := 1) (by omega)
    have s2 := hM.rs.cell (i := 2) (by omega)
    have s3 := hM.rs.cell (i := 3) (by omega)
    simp only [plRow, nth4_0, nth4_1, nth4_2, nth4_3] at s0 s1 s2 s3
    have HM := hide hM
    have HKr : Hid (Keep (fun k => k = bm ∨ k = ps ∨ k = pl ∨ C k) W wr) := HK4.out.trans (hk.mono fun k _ h => .inl h)
    clear hR hM hi hk hall
    go_upto_region 12 with (fail)
    refine (wpIn_wide (n := 0)).1 ?_
    gi_wp2
    refine ⟨rfl, HR.out.mono ?_⟩
    rintro e W' ⟨hkC, hnW, (⟨rfl, hIW⟩ | ⟨rfl, hIxW⟩)⟩
    · gi_wp2
      go_wp2
      go_ret
      refine .inl ⟨rfl, ?_, ?_, s, s, HM.out.keep HF.out hkC (fun k h => .inr h) hnW, rfl, .inr (by simp), HPS.out.pl⟩
      · simpa [HOK.out] using hIW
      · exact HKr.out.trans (hkC.mono (fun k _ h => .inr (.inr (.inr h))))
    · gi_wp2
      go_wp2
      go_ret
      refine .inr ⟨rfl, ⟨[s], by simp, by simp [HOK.out], hIxW⟩, hnW, ?_⟩
      exact HKr.out.trans (hkC.mono (fun k _ h => .inr (.inr (.inr h))))
end Go.Proofs.YtkaahiddngmdbaaGreatDoor
