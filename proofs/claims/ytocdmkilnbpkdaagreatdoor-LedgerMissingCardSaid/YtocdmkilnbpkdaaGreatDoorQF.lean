/- Up and Some of the reference. -/
import Derived.Test.YtocdmkilnbpkdaaGreatDoorQE
import Derived.Test.YtocdmkilnbpkdaaGreatDoorZV
import Derived.OwnWalkIn
import Derived.Laws.MakeOwn
import Derived.OwnWalk
import Derived.Deep.MidRow
import Derived.TacticsInMore
import Derived.Deep.DeepCutAuto
set_option linter.unusedVariables false
set_option linter.unusedSimpArgs false
namespace Go.Proofs.YtocdmkilnbpkdaaGreatDoor
open Go.RowKit
attribute [local go_sem] Oper.semAt_some

theorem exec_load_set {o : Oper} {x : Operand} {a : Act} {W : World} {g off : Nat} {s : Nat → Bool} (ho : o.op = .load 95 x) (hx : a.eval x = .pointer (some ⟨g, off, none⟩)) (hc : W.rangeAt g off (setL s)) : (execOp a.eval o).run Tryz.prog W = .ok (.value (setV s)) W := by
 unfold execOp
 simp only [ho, hx, Instr.loadAt, Instr.sureAddr, Sem.run_bind, Sem.run_pure, Result.andThen_ok, run_loadVar_mid W g off 95 (setL s) _ hc Tryz.underlying95 rfl (size95 _)]
theorem exec_store_set {o : Oper} {x y : Operand} {a : Act} {W : World} {g off : Nat} {s : Nat → Bool} (ho : o.op = .store 95 x y) (hx : a.eval x = .pointer (some ⟨g, off, none⟩)) (hy : a.eval y = setV s) (ht : W.there g off (setL s).toArray.size) : (execOp a.eval o).run Tryz.prog W = .ok .skip (W.setCells g off (setL s)) := by
 unfold execOp
 simp only [ho, hx, hy, Instr.storeAt, Instr.sureAddr, Sem.run_bind, Sem.run_pure, Result.andThen_ok, run_storeVar_mid W g off 95 (setL s).toArray ht (size95' _) (setL_all _)]
theorem mc_get {z : Array Value} {n j : Nat} (h : j < n) : (madeCells z n)[j]? = some (z[j % z.size]!) := by
 rw [madeCells, Array.getElem?_map, Array.getElem?_eq_getElem (by simpa using h), Option.map_some, Array.getElem_range]
/-- A row of sets. -/
def SetsB (W : World) (g n : Nat) (s : Nat → Nat → Bool) : Prop := ∃ vs, Blk W g 95 vs ∧ vs.size = n * 100 ∧ ∀ k j, k < n → j < 100 → vs[k * 100 + j]? = some (.bool (s k j))
def updS (s : Nat → Nat → Bool) (k : Nat) (t : Nat → Bool) : Nat → Nat → Bool := fun i => if i = k then t else s i
section
variable {W W' : World} {g n : Nat} {s : Nat → Nat → Bool}
theorem SetsB.lt (h : SetsB W g n s) : g < W.heap.size := by obtain ⟨vs, h1, _⟩ := h; exact h1.lt
theorem SetsB.cell (h : SetsB W g n s) {k j : Nat} (hk : k < n) (hj : j < 100) : W.cell? ⟨g, k * 100 + j, none⟩ = some (.bool (s k j)) := by obtain ⟨vs, h1, _, h3⟩ := h; exact (h1.at_ _).trans (h3 k j hk hj)
theorem SetsB.range (h : SetsB W g n s) {k : Nat} (hk : k < n) : W.rangeAt g (k * 100) (setL (s k)) := fun j v hv => by
 have hj : j < 100 := by have := (List.getElem?_eq_some_iff.1 hv).1; rwa [setL_len] at this
 rw [setL_at _ hj] at hv
 rw [h.cell hk hj, hv]
theorem SetsB.there (h : SetsB W g n s) {k : Nat} (hk : k < n) (t : Nat → Bool) : W.there g (k * 100) (setL t).toArray.size := fun j hj => by
 rw [List.size_toArray, setL_len] at hj
 refine ⟨by rw [h.cell hk hj]; rfl, ?_⟩
 obtain ⟨vs, h1, _⟩ := h
 exact h1.free _
theorem SetsB.put (h : SetsB W g n s) {k : Nat} (hk : k < n) (t : Nat → Bool) : SetsB (W.setCells g (k * 100) (setL t)) g n (updS s k t) := by
 obtain ⟨vs, h1, h2, h3⟩ := h
 obtain ⟨vs', g1, g2, g3, g4⟩ := blkS_set (setL t) (k * 100) W vs h1 (by rw [setL_len, h2]; omega)
 refine ⟨vs', g1, g2.trans h2, fun q j hq hj => ?_⟩
 by_cases e : q = k
 · subst e
   rw [g4 j (by rw [setL_len]; exact hj), setL_at _ hj, updS, if_pos rfl]
 · rw [g3 _ (by rw [setL_len]; omega), h3 q j hq hj, updS, if_neg e]
theorem SetsB.keep {S : Nat → Prop} (h : SetsB W g n s) (hk : Keep S W W') (hS : ¬ S g) : SetsB W' g n s := by obtain ⟨vs, h1, h2⟩ := h; exact ⟨vs, h1.keep hk hS, h2⟩
theorem SetsB.next (h : SetsB W g n s) (hb : Below W.heap.size W W') : SetsB W' g n s := by obtain ⟨vs, h1, h2⟩ := h; exact ⟨vs, h1.next hb, h2⟩
theorem SetsB.ext {t : Nat → Nat → Bool} (h : SetsB W g n s) (e : ∀ k j, k < n → j < 100 → s k j = t k j) : SetsB W g n t := by
 obtain ⟨vs, h1, h2, h3⟩ := h
 exact ⟨vs, h1, h2, fun k j hk hj => by rw [h3 k j hk hj, e k j hk hj]⟩
set_option maxRecDepth 100000 in
theorem SetsB.made : SetsB (W.alloc (.cells (madeCells (setL fun _ => false).toArray (n * 100)) 95)) W.heap.size n (fun _ _ => false) := by
 refine ⟨_, Blk.made, size_madeCells _ _, fun k j hk hj => ?_⟩
 rw [mc_get (by omega)]
 have h1 : (setL fun _ => false).toArray.size = 100 := by rw [List.size_toArray, setL_len]
 have h2 : (k * 100 + j) % (setL fun _ => false).toArray.size < 100 := by rw [h1]; exact Nat.mod_lt _ (by omega)
 rw [getElem!_def, List.getElem?_toArray, setL_at _ h2]
end
theorem take_snoc {l : List Nat} {k : Nat} (h : k < l.length) : l.take (k + 1) = l.take k ++ [nth l k] := by rw [nth_eq h, List.take_succ_eq_append_getElem h]
theorem natInts_nth {l : List Nat} {k : Nat} (h : k < l.length) : nth (natInts l) k = ((nth l k : Nat) : Int) := by
 rw [nth_eq (by rw [natInts_length]; exact h), nth_eq h]; simp [natInts]
theorem nth_mem {l : List Nat} {k : Nat} (h : k < l.length) : nth l k ∈ l := by rw [nth_eq h]; exact List.getElem_mem h
theorem infoSet : (Tryz.prog.info? 95).map (fun i => (i.zero, i.size, i.bytes)) = some (some (setV fun _ => false), 100, 100) := by kernel_rfl
theorem underSets : Tryz.prog.underlying 96 = some (.slice 95) := by kernel_rfl
theorem sums_snoc (s : Nat → Nat → Bool) (k : Nat) : ∀ (l : List Nat) (x : Nat → Bool), sumsS x s (l ++ [k]) = sumS (sumsS x s l) (s k)
 | [], _ => rfl
 | y :: l, x => by rw [List.cons_append, sumsS, sumsS]; exact sums_snoc s k l _
/-- What the reference has behind the steps from i on. -/
def upTo (b : Book) (but : Nat → Bool) (i : Int) (k t : Nat) : Bool := decide (i < k) && setOf ((wayOf b).u (cB b but) k) t
theorem upTo_val {b : Book} (hg : Good b) {xs : List Int} {i : Nat} (hi : i < b.steps.length) {x : Nat → Bool} (hx : ∀ t, t < 100 → x t = if behindB b i = [] then true else sumsS (setOf ⟨0, (nth b.steps i).loss⟩) (fun k => setOf ((wayOf b).u (cB b (hasInt xs ·)) k)) (behindB b i) t) :
 ∀ k t, k < b.steps.length → t < 100 → updS (upTo b (hasInt xs ·) i) i (talT b xs i x b.tallies.length) k t = upTo b (hasInt xs ·) ((i : Int) - 1) k t := by
 intro k t hk ht
 unfold updS
 split
 · rename_i e
   subst e
   have h1 := setOf_val hg.way (cB_99 b (hasInt xs ·)) (h := (wayOf b).u (cB b (hasInt xs ·))) hk (fun q hq => (u_pos hg.way (cB_99 b (hasInt xs ·)) q (kid_gt hg.way hq).2).1) (t := t) (by omega)
   rw [← u_eq hg.way _ hk, ← behind_kids hg] at h1
   have h2 := setOf_tall hg (hasInt xs ·) hk b.tallies.length (Nat.le_refl _) t (by omega)
   change setOf (cB b (hasInt xs ·) k) t = _ at h2
   rw [upTo, h1, show decide (((k : Nat) : Int) - 1 < (k : Nat)) = true by simp; omega, Bool.true_and, talT, hx t ht, h2]
   rfl
 · rename_i e
   unfold upTo
   congr 1
   rw [Bool.eq_iff_iff, decide_eq_true_eq, decide_eq_true_eq]
   omega
set_option maxHeartbeats 1000000 in
set_option maxRecDepth 100000 in
theorem up12_any {b : Book} {a : BA} {w : World} {A : Option Addr} {n c : Nat} {xs : List Int} (h : BookV w w.heap.size b a) (hg : Good b) (h12 : b.tallies.length ≤ 12) (hx : IntsS w w.heap.size A n c xs) :
 Calls Tryz.prog 91 #[bookVal b a, .slice A n c] w fun e w' => ∃ g, e = .returned (.slice (some ⟨g, 0, none⟩) b.steps.length b.steps.length) ∧ w.heap.size ≤ g ∧ SetsB w' g b.steps.length (fun i => setOf ((wayOf b).u (cB b (hasInt xs ·)) i)) ∧ Below w.heap.size w w' := by
 have hz := zero95
 have h6 := hg.six
 have hpos := hg.pos
 have HX := hide (BoxB.made h)
 have HB0 := hide (show Below w.heap.size w (w.alloc (.cells (bookCells b a) 25)) from (Below.refl _ _).alloc (Nat.le_refl _) _)
 have HI0 := hide (hx.next HB0.out)
 obtain ⟨i2, hinf2, hy0, hy1, hy2⟩ := info_parts infoSet
 have hmk : ∀ W : World, (Instr.makeSlice 96 (.int .i64 (b.steps.length : Int)) (.int .i64 (b.steps.length : Int))).run Tryz.prog W = .ok (.slice (some ⟨W.heap.size, 0, none⟩) b.steps.length b.steps.length) (W.alloc (.cells (madeCells (setL fun _ => false).toArray (b.steps.length * 100)) 95)) := fun W => by
  have := run_make (P := Tryz.prog) (w := W) 96 95 i2 _ underSets hinf2 hy0 .i64 .i64 (b.steps.length : Int) (b.steps.length : Int) (by omega) (by omega) (by rw [hy2]; omega) (by omega)
  rw [this, hy1, show (b.steps.length : Int).toNat = b.steps.length by omega]
  rfl
 have HG := hide hg
 have HV0 := hide h
 have HX0 := hide hx
 clear h hg hx hinf2 hy0 hy1 hy2
 go_enter Tryz.func91, Tryz.ntmps91
 go_upto_region 1 with (fail)
 generalize w.alloc (.cells (bookCells b a) 25) = v at *
 obtain ⟨gz, x0, x1⟩ := HX.out.cells
 have hzv := HB0.out.size
 have hw1 : IntKind.i64.wrap ((b.steps.length : Int) - 1) = (b.steps.length : Int) - 1 := IntWalk.i64_in _ (by omega)
 go_upto_region 2 with (fail)
 have hb : Below v.heap.size v (v.alloc (.cells (madeCells (setL fun _ => false).toArray (b.steps.length * 100)) 95)) := (Below.refl _ _).alloc (Nat.le_refl _) _
 have no : SetsB (v.alloc (.cells (madeCells (setL fun _ => false).toArray (b.steps.length * 100)) 95)) v.heap.size b.steps.length (fun _ _ => false) := SetsB.made
 have HX1 := hide (HX.out.next hb)
 have HI1 := hide (HI0.out.next hb)
 generalize (v.alloc (.cells (madeCells (setL fun _ => false).toArray (b.steps.length * 100)) 95)) = v1 at *
 have HO := hide no
 have hz1 := no.lt
 have hzw := HX.out.k.lt
 have HB1 := hide (HB0.out.trans (hb.mono hzv))
 have HV := hide (HV0.out.below HB1.out)
 have HI := hide (HX0.out.below HB1.out)
 clear gz x0 x1 hmk no hb HX HI0 HB0 HV0 HX0 HI1
 generalize v.heap.size = g at *
 obtain ⟨gz, x0, x1⟩ := HX1.out.cells
 go_wp2_with fail
 clear gz x0 x1 hw1
 go_loopw [6, 7, 8, 9, 18, 19, 20, 21, 22, 23, 24, 25, 26, 27, 28, 29, 30, 31, 32, 33, 34, 35, 36, 37, 38, 39, 40, 41, 42, 43, 44, 45, 46, 47, 48, 49, 50, 51, 52, 53, 54, 55, 56, 57, 58] (fun v6 _ _ _ _ _ _ _ _ _ _ _ _ _ _ _ _ _ _ _ _ _ _ _ _ _ _ _ _ _ _ _ _ _ _ _ _ _ _ _ _ _ _ _ _ wr => ∃ z : Int, -1 ≤ z ∧ z < b.steps.length ∧ v6 = .int .i64 z ∧ Hid (SetsB wr g b.steps.length (upTo b (hasInt xs ·) z)) ∧ Hid (Keep (fun k => k = g) v1 wr)) (fun v6 _ _ _ _ _ _ _ _ _ _ _ _ _ _ _ _ _ _ _ _ _ _ _ _ _ _ _ _ _ _ _ _ _ _ _ _ _ _ _ _ _ _ _ _ _ => (intOf v6 + 1).toNat)
 case atStart => exact ⟨(b.steps.length : Int) - 1, by omega, by omega, rfl, hide (HO.out.ext fun k t hk _ => by simp [upTo]; omega), hide (Keep.refl _ _)⟩
 case round =>
  obtain ⟨z, hz1', hz2', rfl, HS, HK⟩ := hrel
  obtain ⟨v2, rfl⟩ : ∃ v2 : World, v2 = wr := ⟨_, rfl⟩
  by_cases h0 : 0 ≤ z
  · obtain ⟨m, rfl⟩ : ∃ m : Nat, z = (m : Int) := ⟨z.toNat, by omega⟩
    have hm : m < b.steps.length := by omega
    have hbl : Below w.heap.size v1 v2 := HK.out.below (fun k hk => by omega) (by omega)
    have hz2 := hbl.size
    have HX2 : Hid (BoxB v2 w.heap.size b a) := hide ⟨(HV.out.below hbl).more (by omega), HX1.out.k.keep HK.out (by omega)⟩
    have HI2 := hide ((HI.out.below hbl).more (show w.heap.size ≤ v2.heap.size by omega))
    clear hbl
    have HUV := hide (fun x hx => upTo_val (i := m) (x := x) HG.out (xs := xs) hm hx)
    go_upto_region 6 with (first | (go_at_call 98; refine (upTo12_any (by omega) (by omega) v2).mono ?_; rintro e w1 ⟨rfl, hb1⟩) | (refine wpList_store_mid rfl 95 (.tmp 7) (.tmp 22) rfl w1.heap.size 0 (setL (setOf ⟨0, 99⟩)).toArray rfl rfl (SetB.there SetB.made _) (size95' _) (setL_all _) ?_))
    have hbx : Below v2.heap.size v2 ((w1.alloc (.cells (setL fun _ => false).toArray 95)).setCells w1.heap.size 0 (setL (setOf ⟨0, 99⟩))) := set_below (hb1.trans ((Below.refl _ _).alloc hb1.size _)) hb1.size (by simp; have := hb1.size; omega)
    have nx : SetB ((w1.alloc (.cells (setL fun _ => false).toArray 95)).setCells w1.heap.size 0 (setL (setOf ⟨0, 99⟩))) w1.heap.size (setOf ⟨0, 99⟩) := SetB.made.whole _
    have HX3 := hide (HX2.out.next hbx)
    have HI3 := hide (HI2.out.next hbx)
    have HS3 := hide (HS.out.next hbx)
    have HK3 := hide (HK.out.trans (Keep.of_below' hbx (fun k => k = g)))
    have hgx := hb1.size
    generalize ((w1.alloc (.cells (setL fun _ => false).toArray 95)).setCells w1.heap.size 0 (setL (setOf ⟨0, 99⟩))) = v3 at *
    have HN3 := hide nx
    have hz3 := nx.lt
    clear hb1 hbx nx HX2 HI2 HS HK
    generalize w1.heap.size = gx at *
    obtain ⟨gz, x0, x1⟩ := HX3.out.cells
    go_upto_region 7 with (go_at_call 44; refine (behind12_any HX3.out.v h6 m).mono ?_; rintro e v4 ⟨lA, lc, rfl, hl, hlf, hb4⟩)
    have HX4 := hide (HX3.out.next hb4)
    have HI4 := hide (HI3.out.next hb4)
    have HS4 := hide (HS3.out.next hb4)
    have HN4 := hide (HN3.out.next hb4)
    have HK4 := hide (HK3.out.trans (Keep.of_below' hb4 (fun k => k = g)))
    have hz4 := hb4.size
    have HL := hide hl
    have HLF := hide hlf
    clear gz x0 x1 hl hlf hb4 HX3 HI3 HS3 HN3 HK3
    have hmem : ∀ k, k ∈ behindB b m → m < k ∧ k < b.steps.length := fun k hk => by
     have := behind_kids HG.out m
     rw [this] at hk
     exact kid_gt HG.out.way hk
    have HME := hide hmem
    have hbd := behTo_le b m b.steps.length
    change (behindB b m).length ≤ b.steps.length at hbd
    generalize behindB b m = l at *
    clear hmem
    by_cases hl0 : l = []
    · subst hl0
      have hc1 : ¬ ((([] : List Nat).length : Int) > 0) := by simp
      have hlen : ((([] : List Nat).length : Nat) : Int) = 0 := rfl
      have HVV := hide (HUV.out (setOf ⟨0, 99⟩) (fun t ht => by rw [if_pos rfl, setOf_iff]; simp only; omega))
      clear HUV hc1
      obtain ⟨gz, x0, x1⟩ := HX4.out.cells
      have hm0 : (0 : Int) ≤ (m : Int) := Int.natCast_nonneg _
      have hm1 : (m : Int) < (b.steps.length : Int) := by omega
      have hw9 : IntKind.i64.wrap ((m : Int) - 1) = (m : Int) - 1 := IntWalk.i64_in _ (by omega)
      have hzn := HN4.out.lt
      go_wp2_with (first | refine wpList_load_mid rfl 95 (.tmp 7) rfl gx 0 rfl (setL (setOf ⟨0, 99⟩)) _ (SetB.range HN4.out) Tryz.underlying95 rfl (size95 _) ?_)
      refine (tallied12_any HX4.out.v HG.out h12 m (setOf ⟨0, 99⟩) HI4.out).mono ?_
      rintro e v5 ⟨rfl, hb5⟩
      have hz5 := hb5.size
      generalize hTT : (talT b xs m (setOf ⟨0, 99⟩) b.tallies.length) = tt at *
      have HTT := hide hTT
      clear hTT
      have HTH := hide ((HS4.out.next hb5).there hm tt)
      go_wp2_with (first | (refine wpList_store_mid rfl 95 (.tmp 58) (.tmp 57) rfl _ _ _ rfl rfl ?h1 ?h2 ?h3 ?_; (case h1 => exact HTH.out); (case h2 => exact size95' tt); (case h3 => exact setL_all tt)))
      have HP := hide (((HS4.out.next hb5).put hm tt).ext HVV.out)
      have HKP := hide ((HK4.out.trans (Keep.of_below' hb5 (fun k => k = g))).trans (keepS_set g (setL tt) (m * 100) v5))
      generalize v5.setCells g (m * 100) (setL tt) = v6 at *
      go_roundw
      case rel => exact ⟨(m : Int) - 1, by omega, by omega, rfl, HP, HKP⟩
      case measure => simp [intOf]
    · have hlp : 0 < l.length := by
       cases l with
       | nil => exact absurd rfl hl0
       | cons _ _ => simp
      have hc1 : (((l.length : Nat) : Int) > 0) := by omega
      have HVV0 := hide (fun (x : Nat → Bool) (hx : ∀ t, t < 100 → x t = sumsS (setOf ⟨0, (nth b.steps m).loss⟩) (fun k => setOf ((wayOf b).u (cB b (hasInt xs ·)) k)) l t) => HUV.out x (fun t ht => by rw [if_neg hl0]; exact hx t ht))
      clear HUV hl0
      obtain ⟨gz, x0, x1⟩ := HX4.out.cells
      obtain ⟨g1, o1, hA1, hg1, s0, s1, s2⟩ := HX4.out.v.steps.steps hm
      rw [hA1] at x0
      clear hA1 s0 s1 x1
      have hlo := HG.out.loss m hm
      have hm0 : (0 : Int) ≤ (m : Int) := Int.natCast_nonneg _
      generalize (nth b.steps m).loss = lo at *
      go_upto_region 9 with (first | (go_at_call 98; refine (upTo12_any hlo.1 (by omega) v4).mono ?_; rintro e v5 ⟨rfl, hb5⟩) | (refine wpList_store_mid rfl 95 (.tmp 7) (.tmp 35) rfl _ _ _ rfl rfl ?h1 ?h2 ?h3 ?_; (case h1 => exact (HN4.out.next hb5).there _); (case h2 => exact size95' _); (case h3 => exact setL_all _)))
      have HX6 := hide (HX4.out.next hb5)
      have HI6 := hide (HI4.out.next hb5)
      have HS6 := hide (HS4.out.next hb5)
      have HN5 := hide (HN4.out.next hb5)
      have HL6 := hide (HL.out.next hb5)
      have HK6 := hide (HK4.out.trans (Keep.of_below' hb5 (fun k => k = g)))
      have hz5 := hb5.size
      have hgg := HS4.out.lt
      have HVA := hide (HV.out.below (HK6.out.below (B := w.heap.size) (fun k hk => by omega) (by omega)))
      have HIA := hide (HI.out.below (HK6.out.below (B := w.heap.size) (fun k hk => by omega) (by omega)))
      clear gz x0 s2 hb5 HX4 HI4 HS4 HN4 HK4 HL
      have HX0 := hide (HX6.out.cells)
      have ks := keepS_set gx (setL (setOf ⟨0, lo⟩)) 0 v5
      have HN6 := hide (HN5.out.whole (setOf ⟨0, lo⟩))
      generalize v5.setCells gx 0 (setL (setOf ⟨0, lo⟩)) = v6 at *
      have HKS := hide ks
      clear ks
      go_wp2_with fail
      go_loopw [9, 36, 37, 38, 39, 40, 41, 42, 43, 44, 45, 46, 47, 48, 49, 50] (fun v9 _ _ _ _ _ _ _ _ _ _ _ _ _ _ _ wr => ∃ k : Nat, k ≤ l.length ∧ v9 = .int .i64 (k : Nat) ∧ Hid (SetB wr gx (sumsS (setOf ⟨0, lo⟩) (fun k => setOf ((wayOf b).u (cB b (hasInt xs ·)) k)) (l.take k))) ∧ Hid (Keep (fun k => k = gx) v5 wr)) (fun v9 _ _ _ _ _ _ _ _ _ _ _ _ _ _ _ _ => l.length - (intOf v9).toNat)
      case atStart => exact ⟨0, by omega, rfl, HN6, HKS⟩
      case round =>
       obtain ⟨k, hk, rfl, HN7, HK7⟩ := hrel
       obtain ⟨v7, rfl⟩ : ∃ v7 : World, v7 = wr := ⟨_, rfl⟩
       have hk0 : (0 : Int) ≤ (k : Int) := Int.natCast_nonneg _
       have HS7 := hide (HS6.out.keep HK7.out (by omega))
       have hz7 := HK7.out.size
       by_cases hlt : k < l.length
       · have hk1 : (k : Int) < ((l.length : Nat) : Int) := by omega
         have HTK := hide (take_snoc (l := l) hlt)
         obtain ⟨lb, lof, rfl, hlb, lx⟩ := HL6.out.at_ hlt
         rw [natInts_nth hlt] at lx
         have hq := HME.out (nth l k) (nth_mem hlt)
         have lx := (HK7.out.cell (b := lb) (o := lof + k) hlb (fun e => by have := HLF.out _ rfl; simp only at this; omega)).trans lx
         generalize nth l k = q at *
         have hq0 : (0 : Int) ≤ (q : Int) := Int.natCast_nonneg _
         have hq1 : (q : Int) < (b.steps.length : Int) := by omega
         have hzl : lb < v7.heap.size := by omega
         have hzx := HN7.out.lt
         have HQ := hide hq
         have HXE := hide (show sumS (sumsS (setOf ⟨0, lo⟩) (fun k => setOf ((wayOf b).u (cB b (hasInt xs ·)) k)) (l.take k)) (setOf ((wayOf b).u (cB b (hasInt xs ·)) q)) = sumsS (setOf ⟨0, lo⟩) (fun k => setOf ((wayOf b).u (cB b (hasInt xs ·)) k)) (l.take (k + 1)) by rw [HTK.out, sums_snoc])
         have HUQ := hide (show upTo b (hasInt xs ·) m q = setOf ((wayOf b).u (cB b (hasInt xs ·)) q) by
          funext t; rw [upTo, decide_eq_true (by omega), Bool.true_and])
         generalize hX : sumsS (setOf ⟨0, lo⟩) (fun k => setOf ((wayOf b).u (cB b (hasInt xs ·)) k)) (l.take k) = X at *
         clear hX
         go_upto_region 12 with fail
         refine wp_region_rel4 (dst := fun oi => [42, 43, 44, 45, 46, 47, 48, 49, 50, 3].getD oi 0) (mono := fun oi => decide (oi < 9)) (pre := fun oi => decide (oi < 9)) (R := LKeep (fun _ => False) (fun _ => True))
          (Pv := fun oi v W => match oi with
           | 0 => v = setV (X)
           | 1 => v = .slice (some ⟨g, 0, none⟩) b.steps.length b.steps.length
           | 2 => v = .slice (some ⟨lb, lof, none⟩) l.length lc
           | 3 => v = .int .i64 (k : Nat)
           | 4 => v = .pointer (some ⟨lb, lof + k, none⟩)
           | 5 => v = .int .i64 (q : Nat)
           | 6 => v = .pointer (some ⟨g, q * 100, none⟩)
           | 7 => v = setV (setOf ((wayOf b).u (cB b (hasInt xs ·)) q))
           | 8 => v = setV (sumS (X) (setOf ((wayOf b).u (cB b (hasInt xs ·)) q)))
           | _ => True) (by kernel_rfl) (by kernel_rfl) (LKeep.refl _ _) (fun _ _ _ h h' => h.trans h') ?hsts ?hsteps ?hends
         case hsts =>
          intro oi v W W' h hk
          match oi, h with
          | 0, h => exact h
          | 1, h => exact h
          | 2, h => exact h
          | 3, h => exact h
          | 4, h => exact h
          | 5, h => exact h
          | 6, h => exact h
          | 7, h => exact h
          | 8, h => exact h
          | oi + 9, h => exact trivial
         case hsteps =>
          intro oi hoi hom listed vs ao W hU hk0 hpv haft Ko hK
          have hkk := (LKeep.drew (fun _ => False) (M := fun _ => True) v7 (fun h => h)).trans hk0
          have hk := hkk.1
          have hkm := hkk.2
          clear hkk
          match oi, hoi, hom with
          | 0, hoi, hom =>
           have z7 : ao.tmps[7]?.getD undef = .pointer (some ⟨gx, 0, none⟩) := hU.same 7 (by decide)
           refine wpOp_value (v := setV (X)) (W' := W) rfl rfl (exec_load_set rfl (by simpa [go_sem] using z7) (SetB.range (HN7.out.keep hk (fun h => h)))) (hK _ _ (LKeep.refl _ _ _) rfl)
          | 1, hoi, hom =>
           have z5 : ao.tmps[5]?.getD undef = .slice (some ⟨g, 0, none⟩) b.steps.length b.steps.length := hU.same 5 (by decide)
           refine wpOp_value (v := .slice (some ⟨g, 0, none⟩) b.steps.length b.steps.length) (W' := W) rfl rfl ?_ (hK _ _ (LKeep.refl _ _ _) rfl)
           go_simp
          | 2, hoi, hom =>
           have z8 : ao.tmps[8]?.getD undef = .slice (some ⟨lb, lof, none⟩) l.length lc := hU.same 8 (by decide)
           refine wpOp_value (v := .slice (some ⟨lb, lof, none⟩) l.length lc) (W' := W) rfl rfl ?_ (hK _ _ (LKeep.refl _ _ _) rfl)
           go_simp
          | 3, hoi, hom =>
           have z9 : ao.tmps[9]?.getD undef = .int .i64 (k : Nat) := hU.same 9 (by decide)
           refine wpOp_value (v := .int .i64 (k : Nat)) (W' := W) rfl rfl ?_ (hK _ _ (LKeep.refl _ _ _) rfl)
           go_simp
          | 4, hoi, hom =>
           have l2 := haft _ rfl ⟨2, .data⟩ (by simp) rfl
           have s2 : ao.tmps[44]?.getD undef = .slice (some ⟨lb, lof, none⟩) l.length lc := (hU.slot 2 (by decide) l2).trans (hpv 2 l2)
           have l3 := haft _ rfl ⟨3, .data⟩ (by simp) rfl
           have s3 : ao.tmps[45]?.getD undef = .int .i64 (k : Nat) := (hU.slot 3 (by decide) l3).trans (hpv 3 l3)
           refine wpOp_value (v := .pointer (some ⟨lb, lof + k, none⟩)) (W' := W) rfl rfl ?_ (hK _ _ (LKeep.refl _ _ _) rfl)
           go_simp
          | 5, hoi, hom =>
           have l4 := haft _ rfl ⟨4, .data⟩ (by simp) rfl
           have s4 : ao.tmps[46]?.getD undef = .pointer (some ⟨lb, lof + k, none⟩) := (hU.slot 4 (by decide) l4).trans (hpv 4 l4)
           have y0 := (hk.cell (b := lb) (o := lof + k) (hzl) (fun h => h)).trans (lx)
           refine wpOp_value (v := .int .i64 (q : Nat)) (W' := W) rfl rfl ?_ (hK _ _ (LKeep.refl _ _ _) rfl)
           go_simp
          | 6, hoi, hom =>
           have l1 := haft _ rfl ⟨1, .data⟩ (by simp) rfl
           have s1 : ao.tmps[43]?.getD undef = .slice (some ⟨g, 0, none⟩) b.steps.length b.steps.length := (hU.slot 1 (by decide) l1).trans (hpv 1 l1)
           have l5 := haft _ rfl ⟨5, .data⟩ (by simp) rfl
           have s5 : ao.tmps[47]?.getD undef = .int .i64 (q : Nat) := (hU.slot 5 (by decide) l5).trans (hpv 5 l5)
           refine wpOp_value (v := .pointer (some ⟨g, q * 100, none⟩)) (W' := W) rfl rfl ?_ (hK _ _ (LKeep.refl _ _ _) rfl)
           go_simp
          | 7, hoi, hom =>
           have l6 := haft _ rfl ⟨6, .data⟩ (by simp) rfl
           have s6 : ao.tmps[48]?.getD undef = .pointer (some ⟨g, q * 100, none⟩) := (hU.slot 6 (by decide) l6).trans (hpv 6 l6)
           have y9 := (HS7.out.keep hk (fun h => h)).range HQ.out.2
           rw [HUQ.out] at y9
           refine wpOp_value (v := setV (setOf ((wayOf b).u (cB b (hasInt xs ·)) q))) (W' := W) rfl rfl (exec_load_set rfl (by simpa [go_sem] using s6) y9) (hK _ _ (LKeep.refl _ _ _) rfl)
          | 8, hoi, hom =>
           have l0 := haft _ rfl ⟨0, .data⟩ (by simp) rfl
           have s0 : ao.tmps[42]?.getD undef = setV (X) := (hU.slot 0 (by decide) l0).trans (hpv 0 l0)
           have l7 := haft _ rfl ⟨7, .data⟩ (by simp) rfl
           have s7 : ao.tmps[49]?.getD undef = setV (setOf ((wayOf b).u (cB b (hasInt xs ·)) q)) := (hU.slot 7 (by decide) l7).trans (hpv 7 l7)
           refine wpOp_enter (f := 99) (args := #[setV (X), setV (setOf ((wayOf b).u (cB b (hasInt xs ·)) q))]) (W' := W) rfl rfl ?_ ((sum12_any (X) (setOf ((wayOf b).u (cB b (hasInt xs ·)) q)) W).mono (fun e w'' h => ?_))
           · go_simp
           · obtain ⟨he, hbw⟩ := h
             exact ⟨_, he, hK _ _ (LKeep.below hbw (fun h => h)) rfl⟩
          | oi + 9, hoi, hom => exact absurd (of_decide_eq_true hom) (by omega)
         case hends =>
          intro listed vs ao W hG hk0 hpv hpre
          have hkk := (LKeep.drew (fun _ => False) (M := fun _ => True) v7 (fun h => h)).trans hk0
          have hk := hkk.1
          have hkm := hkk.2
          clear hkk
          have hact := hG.act
          have hT := hG.lst hpre 0 #[true, true, true, true, true, true, true, true, true, false] rfl (by kernel_rfl) (hpre 0 (by decide) (by decide))
          rw [hG.ix hT (l := [0, 1, 2, 3, 4, 5, 6, 7, 8]) (by kernel_rfl)] at hact
          rw [hG.lo hT (k := 1) (by kernel_rfl)]
          have hv0 : vs 0 = setV (X) := hpv 0 (hpre 0 (by decide) (by decide))
          have hv1 : vs 1 = .slice (some ⟨g, 0, none⟩) b.steps.length b.steps.length := hpv 1 (hpre 1 (by decide) (by decide))
          have hv2 : vs 2 = .slice (some ⟨lb, lof, none⟩) l.length lc := hpv 2 (hpre 2 (by decide) (by decide))
          have hv3 : vs 3 = .int .i64 (k : Nat) := hpv 3 (hpre 3 (by decide) (by decide))
          have hv4 : vs 4 = .pointer (some ⟨lb, lof + k, none⟩) := hpv 4 (hpre 4 (by decide) (by decide))
          have hv5 : vs 5 = .int .i64 (q : Nat) := hpv 5 (hpre 5 (by decide) (by decide))
          have hv6 : vs 6 = .pointer (some ⟨g, q * 100, none⟩) := hpv 6 (hpre 6 (by decide) (by decide))
          have hv7 : vs 7 = setV (setOf ((wayOf b).u (cB b (hasInt xs ·)) q)) := hpv 7 (hpre 7 (by decide) (by decide))
          have hv8 : vs 8 = setV (sumS (X) (setOf ((wayOf b).u (cB b (hasInt xs ·)) q))) := hpv 8 (hpre 8 (by decide) (by decide))
          clear hpv hpre hG hk0
          obtain rfl : ao = _ := hact
          subst hT
          simp only [setAll, List.setIfInBounds_toArray, List.set_cons_succ, List.set_cons_zero, List.getD_cons_succ, List.getD_cons_zero]
          simp only [hv0, hv1, hv2, hv3, hv4, hv5, hv6, hv7, hv8]
          clear hv0 hv1 hv2 hv3 hv4 hv5 hv6 hv7 hv8
          have n9 := HN7.out.keep hk (fun h => h)
          refine wpAny_all (rs := [9]) (by kernel_rfl) (by simp) ?_
          intro i2 hi2
          obtain rfl : i2 = 9 := by simpa using hi2
          refine wpOp_skip (W' := W.setCells gx 0 (setL (sumS (X) (setOf ((wayOf b).u (cB b (hasInt xs ·)) q))))) rfl rfl (exec_store_set rfl (by simp [go_sem]) (by simp [go_sem]) (n9.there _)) ?_
          refine wpAny_done (by kernel_rfl) ?_ _
          have HN9 := hide ((n9.whole (sumS (X) (setOf ((wayOf b).u (cB b (hasInt xs ·)) q)))))
          have HKA := hide ((HK7.out.trans (hk.mono (S' := fun k => k = gx) (fun k _ h => h.elim))).trans (keepS_set gx (setL (sumS (X) (setOf ((wayOf b).u (cB b (hasInt xs ·)) q)))) 0 W))
          generalize W.setCells gx 0 (setL (sumS (X) (setOf ((wayOf b).u (cB b (hasInt xs ·)) q)))) = v9 at *
          rw [HXE.out] at HN9
          clear hk hkm n9
          go_wp2_with fail
          go_roundw
          case rel => exact ⟨k + 1, by omega, by go_num, HN9, HKA⟩
          case measure => simp [intOf]; omega
       · obtain rfl : k = l.length := by omega
         rw [List.take_length] at HN7
         have hbl := HK7.out.below (B := w.heap.size) (fun k hk => by omega) (by omega)
         have HX8 : Hid (BoxB v7 w.heap.size b a) := hide ⟨(HVA.out.below hbl).more (by omega), HX6.out.k.keep HK7.out (by omega)⟩
         have HI8 := hide ((HIA.out.below hbl).more (show w.heap.size ≤ v7.heap.size by omega))
         have HVV := hide (HVV0.out _ (fun t _ => rfl))
         have HK8 := hide (HK6.out.trans' (HK7.out.mono (fun k _ h => by omega)) (by omega))
         have HS8 := HS7
         have HN8 := HN7
         generalize hX : sumsS (setOf ⟨0, lo⟩) (fun k => setOf ((wayOf b).u (cB b (hasInt xs ·)) k)) l = X at *
         clear hX hbl hc1
         go_upto_region 13 with (fail)
         obtain ⟨gz, x0, x1⟩ := HX8.out.cells
         have hm0 : (0 : Int) ≤ (m : Int) := Int.natCast_nonneg _
         have hm1 : (m : Int) < (b.steps.length : Int) := by omega
         have hw9 : IntKind.i64.wrap ((m : Int) - 1) = (m : Int) - 1 := IntWalk.i64_in _ (by omega)
         have hzn := HN8.out.lt
         go_wp2_with (first | refine wpList_load_mid rfl 95 (.tmp 7) rfl gx 0 rfl (setL (X)) _ (SetB.range HN8.out) Tryz.underlying95 rfl (size95 _) ?_)
         refine (tallied12_any HX8.out.v HG.out h12 m (X) HI8.out).mono ?_
         rintro e v5 ⟨rfl, hb5⟩
         have hz5 := hb5.size
         generalize hTT : (talT b xs m (X) b.tallies.length) = tt at *
         have HTT := hide hTT
         clear hTT
         have HTH := hide ((HS8.out.next hb5).there hm tt)
         go_wp2_with (first | (refine wpList_store_mid rfl 95 (.tmp 58) (.tmp 57) rfl _ _ _ rfl rfl ?h1 ?h2 ?h3 ?_; (case h1 => exact HTH.out); (case h2 => exact size95' tt); (case h3 => exact setL_all tt)))
         have HP := hide (((HS8.out.next hb5).put hm tt).ext HVV.out)
         have HKP := hide ((HK8.out.trans (Keep.of_below' hb5 (fun k => k = g))).trans (keepS_set g (setL tt) (m * 100) v5))
         generalize v5.setCells g (m * 100) (setL tt) = v6 at *
         go_roundw
         case rel => exact ⟨(m : Int) - 1, by omega, by omega, rfl, HP, HKP⟩
         case measure => simp [intOf]
  · obtain rfl : z = -1 := by omega
    have HF := hide (HS.out.ext (t := fun i => setOf ((wayOf b).u (cB b (hasInt xs ·)) i)) fun k t _ _ => by rw [upTo, decide_eq_true (by omega), Bool.true_and])
    have hbz := HB1.out.trans (HK.out.below (fun k hk => by omega) (by omega))
    go_wp2_with fail
    go_ret
    exact ⟨g, rfl, hzv, HF.out, hbz⟩
theorem ends_ok {p : Span} (h : 0 ≤ p.lo ∧ p.hi ≤ 99) : decide (0 ≤ (endsTo (setOf p) 100).hi) = neB p := by
 by_cases hn : p.lo ≤ p.hi
 · rw [ends_set ⟨h.1, hn, h.2⟩, neB, decide_eq_true hn, decide_eq_true (by omega)]
 · rw [ends_none hn, neB, decide_eq_false hn]; rfl
set_option maxHeartbeats 1000000 in
set_option maxRecDepth 100000 in
theorem some12_any {b : Book} {a : BA} {w : World} {A : Option Addr} {n c : Nat} {xs : List Int} (h : BookV w w.heap.size b a) (hg : Good b) (h12 : b.tallies.length ≤ 12) (hx : IntsS w w.heap.size A n c xs) :
 Calls Tryz.prog 52 #[bookVal b a, .slice A n c] w fun e w' => e = .returned (.bool (someB b (hasInt xs ·))) ∧ Below w.heap.size w w' := by
 have HX := hide (BoxB.made h)
 have HB0 := hide (show Below w.heap.size w (w.alloc (.cells (bookCells b a) 25)) from (Below.refl _ _).alloc (Nat.le_refl _) _)
 have HI0 := hide (hx.next HB0.out)
 have HG := hide hg
 have hpos := hg.pos
 have h6 := hg.six
 clear h hx hg
 go_enter Tryz.func52, Tryz.ntmps52
 go_upto_region 1 with (fail)
 generalize w.alloc (.cells (bookCells b a) 25) = v at *
 obtain ⟨gz, x0, x1⟩ := HX.out.cells
 have hp1 : (0 : Int) < (b.steps.length : Int) := by omega
 go_wp2_with fail
 refine (up12_any HX.out.v HG.out h12 HI0.out).mono ?_
 rintro e v1 ⟨g, rfl, hg, hs, hb1⟩
 have HU := hide (hs.range hpos)
 have HBB := hide (HB0.out.trans (hb1.mono HB0.out.size))
 clear hs
 rw [Nat.zero_mul] at HU
 have HE := hide (show endsV (setOf ((wayOf b).u (cB b (hasInt xs ·)) 0)) = .tuple #[spanVal (endsTo (setOf ((wayOf b).u (cB b (hasInt xs ·)) 0)) 100), .bool (someB b (hasInt xs ·))] by
  rw [endsV, ends_ok (u_pos HG.out.way (cB_99 b (hasInt xs ·)) 0 hpos)]; rfl)
 generalize endsTo (setOf ((wayOf b).u (cB b (hasInt xs ·)) 0)) 100 = es at *
 generalize hsb : someB b (hasInt xs ·) = sb at *
 have HSB := hide hsb
 clear hsb
 generalize setOf ((wayOf b).u (cB b (hasInt xs ·)) 0) = s at *
 obtain ⟨e1, e2⟩ := es
 go_wp2_with (first | refine wpList_load_mid rfl 95 (.tmp 11) rfl g 0 rfl (setL s) _ HU.out Tryz.underlying95 rfl (size95 _) ?_ | (go_at_call 69; refine (ends12_any s v1).mono ?_; rintro e v2 ⟨rfl, hb2⟩; rw [HE.out]))
 go_ret
 exact ⟨by rw [HSB.out]; rfl, HBB.out.trans ((hb2.trans ((Below.refl _ _).alloc hb2.size _)).mono HBB.out.size)⟩
end Go.Proofs.YtocdmkilnbpkdaaGreatDoor
