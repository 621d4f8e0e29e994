/- Awake of the law. -/
import Derived.Test.YtocdmkilnbpkdaaGreatDoorXB
import Derived.Test.YtocdmkilnbpkdaaGreatDoorZW
import Derived.Test.YtocdmkilnbpkdaaGreatDoorZN
import Derived.OwnWalkIn
import Derived.Laws.StructEq
import Derived.TacticsInMore
import Derived.Deep.DeepCutAuto
set_option linter.unusedVariables false
set_option linter.unusedSimpArgs false
namespace Go.Proofs.YtocdmkilnbpkdaaGreatDoor
open Go.RowKit
attribute [local go_sem] Oper.semAt_some

theorem wanted_no {ops : Array Oper} {a : Act} {o : Oper} {j : Nat} {d : Tmp} {b : Bool} (hg : o.guard = some (j, !b)) (hd : (ops[j]?).bind (·.dst) = some d) (h : a.tmps[d]?.getD undef = .bool b) : Region.wanted o (yielded ops a.tmps) = false := by
 unfold Region.wanted
 rw [hg]
 simp only [yielded_of hd h]
 cases b <;> rfl
theorem wanted_yes {ops : Array Oper} {a : Act} {o : Oper} {j : Nat} {d : Tmp} {b : Bool} (hg : o.guard = some (j, b)) (hd : (ops[j]?).bind (·.dst) = some d) (h : a.tmps[d]?.getD undef = .bool b) : Region.wanted o (yielded ops a.tmps) = true := by
 unfold Region.wanted
 rw [hg]
 simp only [yielded_of hd h]
 cases b <;> rfl
theorem wpOp_enterW {P : Program} {ops : Array Oper} {Q : Exit → Act → World → Prop} {i : Nat} {o : Oper} {K : Act → World → Prop} {a : Act} {W W' : World} {f : FuncId} {args : Array Value} (ho : ops[i]? = some o) (hg : Region.wanted o (yielded ops a.tmps) = true) (hr : (execOp a.eval o).run P W = .ok (.enter f args) W')
 (hc : Calls P f args W' fun e w'' => ∃ v, e = .returned v ∧ K (a.put o.dst v) w'') : wpOp P ops Q i K a W := by
 unfold wpOp
 simp only [ho, hg, if_true]
 left
 unfold Oper.wp
 rw [hr]
 exact hc.mono (fun e w'' ⟨v, he, hk⟩ => by rw [he]; exact hk)
theorem blk_ints {w : World} {g B n : Nat} {vs : Array Value} {xs : List Int} (h : Blk w g 3 vs) (hB : g < B) (hl : xs.length = n) (hm : n ≤ 1000) (hf : ∀ j, j < n → vs[j]? = some (.int .i64 (nth xs j))) : IntsS w B (some ⟨g, 0, none⟩) n n xs :=
 ⟨hl, Nat.le_refl _, by simp only [maxLen]; omega, fun _ => ⟨_, _, rfl, hB, fun j hj => by rw [Nat.zero_add, h.at_ j]; exact hf j hj⟩⟩
attribute [local go_sem] span_equal10
theorem IntsS.lit4 {w : World} {b : Nat} (hb : w.heap.size = b) (x y z t : Int) : IntsS (w.alloc (.cells #[.int .i64 x, .int .i64 y, .int .i64 z, .int .i64 t] 3)) (b + 1) (some ⟨b, 0, none⟩) 4 4 [x, y, z, t] :=
 blk_ints (Blk.made' hb) (by omega) rfl (by decide) (fun j hj => by
  match j, hj with
  | 0, _ | 1, _ | 2, _ | 3, _ => rfl)
theorem wp_region_rel3 {P : Program} {ops : Array Oper} {Q : Exit → Act → World → Prop} {a0 : Act} {w : World} {dst : Nat → Tmp} {mono pre : Nat → Bool} {R : World → World → Prop} {Pv : Nat → Value → World → Prop} {id : Nat} (hm : P.follows .mixedOrders = true) (hok : growOk ops dst mono pre a0.tmps.size = true) (hR0 : ∀ W, R W W) (hRt : ∀ W W' W'', R W W' → R W' W'' → R W W'') (hst : ∀ i v W W', Pv i v W → R W W' → Pv i v W')
 (hstep : ∀ i, i < ops.size → mono i = true → ∀ listed vs a W, GrownU ops.size a0 W dst NoPv listed vs a W → R w.drew W → (∀ i, listed.getD i false = true → Pv i (vs i) W) → (∀ o, ops[i]? = some o → ∀ e ∈ o.after, Region.binds .any e = true → listed.getD e.on false = true) →
  ∀ K : Act → World → Prop, (∀ v W', R W W' → Pv i v W' → K (a.put (some (dst i)) v) W') → wpOp P ops Q i K a W)
 (hend : ∀ listed vs a W, Grown ops.size a0 W dst mono NoPv listed vs a W → GrownU ops.size a0 W dst NoPv listed vs a W → R w.drew W → (∀ i, listed.getD i false = true → Pv i (vs i) W) → (∀ i, i < ops.size → pre i = true → listed.getD i false = true) → wpAny P .any ops Q (leftOver listed ops.size) listed a W) :
 (Code.region id ops true).wp P Q a0 w :=
 wp_region_rel hm hok hR0 hRt hst hstep (fun l v a W h hr hp hq => hend l v a W h (h.user (grow_facts hok).1 (grow_facts hok).2) hr hp hq)
section
variable {b : Book} {a : BA} {w : World}
theorem handsX {s lo hi : Int} (h : BookV w w.heap.size b a) (hx : okS b s (handsB b (fun _ => false) s.toNat) = ⟨lo, hi⟩) (he : enterK b s = 0) :
 Calls Tryz.prog 19 #[bookVal b a, .int .i64 s] w fun e w' => e = .returned (.tuple #[.agg #[.int .i64 lo, .int .i64 hi], .int .i64 0]) ∧ Below w.heap.size w w' := by
 have := hands_any (s := s) h
 rw [hx, he] at this
 exact this
theorem lostX {s lo hi : Int} (h : BookV w w.heap.size b a) (hx : okS b s (lostB b s.toNat) = ⟨lo, hi⟩) (he : enterK b s = 0) :
 Calls Tryz.prog 21 #[bookVal b a, .int .i64 s] w fun e w' => e = .returned (.tuple #[.agg #[.int .i64 lo, .int .i64 hi], .int .i64 0]) ∧ Below w.heap.size w w' := by
 have := losts_any (s := s) h
 rw [hx, he] at this
 exact this
theorem missX {l l' : List Nat} {ys ys' : List Int} {n n' : Nat} {er : Int} (h : BookV w w.heap.size b a) (hx : missV b = (l, l', er)) (h1 : l.length = n) (h2 : l'.length = n') (h3 : natInts l = ys) (h4 : natInts l' = ys') :
 Calls Tryz.prog 24 #[bookVal b a] w fun e w' => ∃ A c A' c', e = .returned (.tuple #[.slice A n c, .slice A' n' c', .int .i64 er]) ∧ IntsS w' w'.heap.size A n c ys ∧ IntsS w' w'.heap.size A' n' c' ys' ∧ Below w.heap.size w w' := by
 have := missing_any h
 rw [hx] at this
 subst h1 h2 h3 h4
 exact this
theorem whereX {x y z : Int} (h : BookV w w.heap.size b a) (hx : whereV b = (x, y, z)) :
 Calls Tryz.prog 27 #[bookVal b a] w fun e w' => e = .returned (.tuple #[.int .i64 x, .int .i64 y, .int .i64 z]) ∧ Below w.heap.size w w' := by
 have := where_any h
 rw [hx] at this
 exact this
theorem firstX {l : List Int} {n : Nat} {er : Int} (h : BookV w w.heap.size b a) (hx : firstV b = (l, er)) (h1 : l.length = n) :
 Calls Tryz.prog 29 #[bookVal b a] w fun e w' => ∃ A c, e = .returned (.tuple #[.slice A n c, .int .i64 er]) ∧ IntsS w' w'.heap.size A n c l ∧ Below w.heap.size w w' := by
 have := first_any h
 rw [hx] at this
 subst h1
 exact this
theorem wrongX {l : List Nat} {ys : List Int} {n : Nat} {er : Int} (h : BookV w w.heap.size b a) (hx : wrongV b = (l, er)) (h1 : l.length = n) (h2 : natInts l = ys) :
 Calls Tryz.prog 31 #[bookVal b a] w fun e w' => ∃ A c, e = .returned (.tuple #[.slice A n c, .int .i64 er]) ∧ IntsS w' w'.heap.size A n c ys ∧ Below w.heap.size w w' := by
 have := wrong_any h
 rw [hx] at this
 subst h1 h2
 exact this
theorem writeX {s : ByteArray} {er : Int} (h : BookV w w.heap.size b a) (hx : writeV b = (s, er)) :
 Calls Tryz.prog 33 #[bookVal b a] w fun e w' => e = .returned (.tuple #[.string s, .int .i64 er]) ∧ Below w.heap.size w w' := by
 have := write_any h
 rw [hx] at this
 exact this
theorem readX {s : List UInt8} {er m : Int} (hm : w.cell? ⟨0, 0, none⟩ = some (.int .i64 m)) (hw : 0 < w.heap.size) (hx : readR s = (b, er)) :
 Calls Tryz.prog 35 #[.string ⟨s.toArray⟩] w fun e w' => ∃ a, e = .returned (.tuple #[bookVal b a, .int .i64 er]) ∧ BookV w' w'.heap.size b a ∧ Below w.heap.size w w' := by
 refine (read_any (s := s) hm hw).mono ?_
 rintro e w' ⟨hb, a, he, hv⟩
 rw [hx] at he hv
 exact ⟨a, he, hv, hb⟩
theorem IntsS.nextX {w' : World} {A : Option Addr} {n c : Nat} {ys : List Int} (h : IntsS w w.heap.size A n c ys) (hb : Below w.heap.size w w') : IntsS w' w'.heap.size A n c ys := h.next hb
end
set_option maxHeartbeats 8000000 in
set_option maxRecDepth 100000 in
theorem awake12_any {m : Int} {w : World} (hm : w.cell? ⟨0, 0, none⟩ = some (.int .i64 m)) (hw0 : 0 < w.heap.size) :
 Calls Tryz.prog 23 #[] w fun e w' => e = .returned (.bool true) ∧ Below w.heap.size w w' := by
 have hgt : Tryz.prog.eqGuardType Tryz.prog.depth 30 = false := by kernel_rfl
 have HG := hide hm
 have HB := hide (Below.refl w.heap.size w)
 have hz0 := hw0
 clear hm
 go_enter Tryz.func23, Tryz.ntmps23
 go_wp2_with fail
 refine (book12_any (more := []) (A := none) (c := 0) (B := w.heap.size) Row.nil_ (Nat.le_refl _) (by decide)).mono ?_
 rintro e k1 ⟨aB, rfl, hVB, hb⟩
 replace HG := hide ((hb.cell (p := ⟨0, 0, none⟩) hz0).trans HG.out)
 replace HB := hide (HB.out.trans (hb.mono HB.out.size))
 have VB := hide (hVB)
 clear hb
 replace hz0 : 0 < k1.heap.size := by have := HB.out.size; omega
 clear hVB
 go_wp2_with fail
 refine (tally12_any 1 38 0 _).mono ?_
 rintro e k2 ⟨rfl, hb⟩
 replace HG := hide ((hb.cell (p := ⟨0, 0, none⟩) hz0).trans HG.out)
 replace HB := hide (HB.out.trans (hb.mono HB.out.size))
 replace VB := hide (VB.out.next hb)
 clear hb
 replace hz0 : 0 < k2.heap.size := by have := HB.out.size; omega
 have hb : Below k2.heap.size k2 (k2.alloc (.cells #[.int .i64 1, .int .i64 38, .int .i64 0] 50)) := (Below.refl _ _).alloc (Nat.le_refl _) _
 replace HG := hide ((hb.cell (p := ⟨0, 0, none⟩) hz0).trans HG.out)
 replace HB := hide (HB.out.trans (hb.mono HB.out.size))
 replace VB := hide (VB.out.next hb)
 have RM : Hid (Blk (k2.alloc (.cells #[.int .i64 1, .int .i64 38, .int .i64 0] 50)) k2.heap.size 50 #[.int .i64 1, .int .i64 38, .int .i64 0]) := hide (Blk.made)
 generalize hkk : k2.heap.size = zC at RM
 clear hb
 go_wp2_with fail
 generalize (k2.alloc (.cells #[.int .i64 1, .int .i64 38, .int .i64 0] 50)) = k3 at *
 try rw [hkk]
 clear hkk
 replace hz0 : 0 < k3.heap.size := by have := HB.out.size; omega
 refine (book12_any (more := [⟨1, 38, 0⟩]) (A := some ⟨zC, 0, none⟩) (c := 1) (B := k3.heap.size) (fun _ => ⟨zC, 0, rfl, RM.out.lt, fun j hj => by have := RM.out.at_ j; rw [Nat.zero_add, this]; match j, hj with | 0, _ | 1, _ | 2, _ => rfl⟩) (Nat.le_refl _) (by decide)).mono ?_
 rintro e k4 ⟨aC, rfl, hVC, hb⟩
 replace HG := hide ((hb.cell (p := ⟨0, 0, none⟩) hz0).trans HG.out)
 replace HB := hide (HB.out.trans (hb.mono HB.out.size))
 replace VB := hide (VB.out.next hb)
 replace RM := hide (RM.out.next hb)
 have VC := hide (hVC)
 clear hb
 replace hz0 : 0 < k4.heap.size := by have := HB.out.size; omega
 clear RM
 clear hVC
 go_wp2_with fail
 refine (tally12_any 3 30 2 _).mono ?_
 rintro e k5 ⟨rfl, hb⟩
 replace HG := hide ((hb.cell (p := ⟨0, 0, none⟩) hz0).trans HG.out)
 replace HB := hide (HB.out.trans (hb.mono HB.out.size))
 replace VB := hide (VB.out.next hb)
 replace VC := hide (VC.out.next hb)
 clear hb
 replace hz0 : 0 < k5.heap.size := by have := HB.out.size; omega
 have hb : Below k5.heap.size k5 (k5.alloc (.cells #[.int .i64 3, .int .i64 30, .int .i64 2] 50)) := (Below.refl _ _).alloc (Nat.le_refl _) _
 replace HG := hide ((hb.cell (p := ⟨0, 0, none⟩) hz0).trans HG.out)
 replace HB := hide (HB.out.trans (hb.mono HB.out.size))
 replace VB := hide (VB.out.next hb)
 replace VC := hide (VC.out.next hb)
 have RM : Hid (Blk (k5.alloc (.cells #[.int .i64 3, .int .i64 30, .int .i64 2] 50)) k5.heap.size 50 #[.int .i64 3, .int .i64 30, .int .i64 2]) := hide (Blk.made)
 generalize hkk : k5.heap.size = zW at RM
 clear hb
 go_wp2_with fail
 generalize (k5.alloc (.cells #[.int .i64 3, .int .i64 30, .int .i64 2] 50)) = k6 at *
 try rw [hkk]
 clear hkk
 replace hz0 : 0 < k6.heap.size := by have := HB.out.size; omega
 refine (book12_any (more := [⟨3, 30, 2⟩]) (A := some ⟨zW, 0, none⟩) (c := 1) (B := k6.heap.size) (fun _ => ⟨zW, 0, rfl, RM.out.lt, fun j hj => by have := RM.out.at_ j; rw [Nat.zero_add, this]; match j, hj with | 0, _ | 1, _ | 2, _ => rfl⟩) (Nat.le_refl _) (by decide)).mono ?_
 rintro e k7 ⟨aW, rfl, hVW, hb⟩
 replace HG := hide ((hb.cell (p := ⟨0, 0, none⟩) hz0).trans HG.out)
 replace HB := hide (HB.out.trans (hb.mono HB.out.size))
 replace VB := hide (VB.out.next hb)
 replace VC := hide (VC.out.next hb)
 replace RM := hide (RM.out.next hb)
 have VW := hide (hVW)
 clear hb
 replace hz0 : 0 < k7.heap.size := by have := HB.out.size; omega
 clear RM
 clear hVW
 have hy1 : Below k7.heap.size k7 (k7.alloc (.cells (bookCells bB aB) 25)) := (Below.refl _ _).alloc (Nat.le_refl _) _
 have hy2 : Below (k7.alloc (.cells (bookCells bB aB) 25)).heap.size (k7.alloc (.cells (bookCells bB aB) 25)) ((k7.alloc (.cells (bookCells bB aB) 25)).alloc (.cells (bookCells bC aC) 25)) := (Below.refl _ _).alloc (Nat.le_refl _) _
 have hy3 : Below ((k7.alloc (.cells (bookCells bB aB) 25)).alloc (.cells (bookCells bC aC) 25)).heap.size ((k7.alloc (.cells (bookCells bB aB) 25)).alloc (.cells (bookCells bC aC) 25)) (((k7.alloc (.cells (bookCells bB aB) 25)).alloc (.cells (bookCells bC aC) 25)).alloc (.cells (bookCells bW aW) 25)) := (Below.refl _ _).alloc (Nat.le_refl _) _
 have hb := hy1.trans ((hy2.mono hy1.size).trans (hy3.mono (Nat.le_trans hy1.size hy2.size)))
 have B1 : Hid (BoxB (((k7.alloc (.cells (bookCells bB aB) 25)).alloc (.cells (bookCells bC aC) 25)).alloc (.cells (bookCells bW aW) 25)) k7.heap.size bB aB) := hide (((BoxB.made VB.out).next hy2).next hy3)
 have B2 : Hid (BoxB (((k7.alloc (.cells (bookCells bB aB) 25)).alloc (.cells (bookCells bC aC) 25)).alloc (.cells (bookCells bW aW) 25)) (k7.heap.size + 1) bC aC) := hide (by rw [show k7.heap.size + 1 = (k7.alloc (.cells (bookCells bB aB) 25)).heap.size by simp]; exact (BoxB.made (VC.out.next hy1)).next hy3)
 have B3 : Hid (BoxB (((k7.alloc (.cells (bookCells bB aB) 25)).alloc (.cells (bookCells bC aC) 25)).alloc (.cells (bookCells bW aW) 25)) (k7.heap.size + 1 + 1) bW aW) := hide (by rw [show k7.heap.size + 1 + 1 = ((k7.alloc (.cells (bookCells bB aB) 25)).alloc (.cells (bookCells bC aC) 25)).heap.size by simp]; exact BoxB.made ((VW.out.next hy1).next hy2))
 replace HG := hide ((hb.cell (p := ⟨0, 0, none⟩) hz0).trans HG.out)
 replace HB := hide (HB.out.trans (hb.mono HB.out.size))
 clear hy1 hy2 hy3 hb VB VC VW
 go_wp2_with fail
 generalize (((k7.alloc (.cells (bookCells bB aB) 25)).alloc (.cells (bookCells bC aC) 25)).alloc (.cells (bookCells bW aW) 25)) = k8 at *
 generalize k7.heap.size = g at *
 replace hz0 : 0 < k8.heap.size := by have := HB.out.size; omega
 refine (handsX (s := 0) B1.out.v ex_hands.1.1 ex_hands.1.2).mono ?_
 rintro e k9 ⟨rfl, hb⟩
 replace HG := hide ((hb.cell (p := ⟨0, 0, none⟩) hz0).trans HG.out)
 replace HB := hide (HB.out.trans (hb.mono HB.out.size))
 replace B1 := hide (B1.out.next hb)
 replace B2 := hide (B2.out.next hb)
 replace B3 := hide (B3.out.next hb)
 clear hb
 replace hz0 : 0 < k9.heap.size := by have := HB.out.size; omega
 have hb : Below k9.heap.size k9 (k9.alloc (.cells #[.int .i64 39, .int .i64 41] 30)) := (Below.refl _ _).alloc (Nat.le_refl _) _
 replace HG := hide ((hb.cell (p := ⟨0, 0, none⟩) hz0).trans HG.out)
 replace HB := hide (HB.out.trans (hb.mono HB.out.size))
 replace B1 := hide (B1.out.next hb)
 replace B2 := hide (B2.out.next hb)
 replace B3 := hide (B3.out.next hb)
 have S1 : Hid (Blk (k9.alloc (.cells #[.int .i64 39, .int .i64 41] 30)) k9.heap.size 30 #[.int .i64 39, .int .i64 41]) := hide (Blk.made)
 clear hb
 have hzn : k9.heap.size < (k9.alloc (.cells #[.int .i64 39, .int .i64 41] 30)).heap.size := by simp
 obtain ⟨zq, x0, x1⟩ := B2.out.cells
 go_wp2_with fail
 generalize k9.alloc (.cells #[.int .i64 39, .int .i64 41] 30) = k10 at *
 generalize k9.heap.size = s1 at *
 replace hz0 : 0 < k10.heap.size := by have := HB.out.size; omega
 clear x0 x1 zq hzn
 refine (handsX (s := 3) B2.out.v ex_hands.2.1 ex_hands.2.2).mono ?_
 rintro e k11 ⟨rfl, hb⟩
 replace HG := hide ((hb.cell (p := ⟨0, 0, none⟩) hz0).trans HG.out)
 replace HB := hide (HB.out.trans (hb.mono HB.out.size))
 replace B1 := hide (B1.out.next hb)
 replace B2 := hide (B2.out.next hb)
 replace B3 := hide (B3.out.next hb)
 replace S1 := hide (S1.out.next hb)
 clear hb
 replace hz0 : 0 < k11.heap.size := by have := HB.out.size; omega
 have hb : Below k11.heap.size k11 (k11.alloc (.cells #[.int .i64 19, .int .i64 20] 30)) := (Below.refl _ _).alloc (Nat.le_refl _) _
 replace HG := hide ((hb.cell (p := ⟨0, 0, none⟩) hz0).trans HG.out)
 replace HB := hide (HB.out.trans (hb.mono HB.out.size))
 replace B1 := hide (B1.out.next hb)
 replace B2 := hide (B2.out.next hb)
 replace B3 := hide (B3.out.next hb)
 replace S1 := hide (S1.out.next hb)
 have S2 : Hid (Blk (k11.alloc (.cells #[.int .i64 19, .int .i64 20] 30)) k11.heap.size 30 #[.int .i64 19, .int .i64 20]) := hide (Blk.made)
 clear hb
 have hzn : k11.heap.size < (k11.alloc (.cells #[.int .i64 19, .int .i64 20] 30)).heap.size := by simp
 obtain ⟨zq, x0, x1⟩ := B1.out.cells
 go_wp2_with fail
 generalize k11.alloc (.cells #[.int .i64 19, .int .i64 20] 30) = k12 at *
 generalize k11.heap.size = s2 at *
 replace hz0 : 0 < k12.heap.size := by have := HB.out.size; omega
 clear x0 x1 zq hzn
 refine (lostX (s := 1) B1.out.v ex_lost.1.1 ex_lost.1.2).mono ?_
 rintro e k13 ⟨rfl, hb⟩
 replace HG := hide ((hb.cell (p := ⟨0, 0, none⟩) hz0).trans HG.out)
 replace HB := hide (HB.out.trans (hb.mono HB.out.size))
 replace B1 := hide (B1.out.next hb)
 replace B2 := hide (B2.out.next hb)
 replace B3 := hide (B3.out.next hb)
 replace S1 := hide (S1.out.next hb)
 replace S2 := hide (S2.out.next hb)
 clear hb
 replace hz0 : 0 < k13.heap.size := by have := HB.out.size; omega
 have hb : Below k13.heap.size k13 (k13.alloc (.cells #[.int .i64 0, .int .i64 4] 30)) := (Below.refl _ _).alloc (Nat.le_refl _) _
 replace HG := hide ((hb.cell (p := ⟨0, 0, none⟩) hz0).trans HG.out)
 replace HB := hide (HB.out.trans (hb.mono HB.out.size))
 replace B1 := hide (B1.out.next hb)
 replace B2 := hide (B2.out.next hb)
 replace B3 := hide (B3.out.next hb)
 replace S1 := hide (S1.out.next hb)
 replace S2 := hide (S2.out.next hb)
 have S3 : Hid (Blk (k13.alloc (.cells #[.int .i64 0, .int .i64 4] 30)) k13.heap.size 30 #[.int .i64 0, .int .i64 4]) := hide (Blk.made)
 clear hb
 have hzn : k13.heap.size < (k13.alloc (.cells #[.int .i64 0, .int .i64 4] 30)).heap.size := by simp
 obtain ⟨zq, x0, x1⟩ := B2.out.cells
 go_wp2_with fail
 generalize k13.alloc (.cells #[.int .i64 0, .int .i64 4] 30) = k14 at *
 generalize k13.heap.size = s3 at *
 replace hz0 : 0 < k14.heap.size := by have := HB.out.size; omega
 clear x0 x1 zq hzn
 refine (lostX (s := 1) B2.out.v ex_lost.2.1 ex_lost.2.2).mono ?_
 rintro e k15 ⟨rfl, hb⟩
 replace HG := hide ((hb.cell (p := ⟨0, 0, none⟩) hz0).trans HG.out)
 replace HB := hide (HB.out.trans (hb.mono HB.out.size))
 replace B1 := hide (B1.out.next hb)
 replace B2 := hide (B2.out.next hb)
 replace B3 := hide (B3.out.next hb)
 replace S1 := hide (S1.out.next hb)
 replace S2 := hide (S2.out.next hb)
 replace S3 := hide (S3.out.next hb)
 clear hb
 replace hz0 : 0 < k15.heap.size := by have := HB.out.size; omega
 have hb : Below k15.heap.size k15 (k15.alloc (.cells #[.int .i64 3, .int .i64 4] 30)) := (Below.refl _ _).alloc (Nat.le_refl _) _
 replace HG := hide ((hb.cell (p := ⟨0, 0, none⟩) hz0).trans HG.out)
 replace HB := hide (HB.out.trans (hb.mono HB.out.size))
 replace B1 := hide (B1.out.next hb)
 replace B2 := hide (B2.out.next hb)
 replace B3 := hide (B3.out.next hb)
 replace S1 := hide (S1.out.next hb)
 replace S2 := hide (S2.out.next hb)
 replace S3 := hide (S3.out.next hb)
 have S4 : Hid (Blk (k15.alloc (.cells #[.int .i64 3, .int .i64 4] 30)) k15.heap.size 30 #[.int .i64 3, .int .i64 4]) := hide (Blk.made)
 clear hb
 have hzn : k15.heap.size < (k15.alloc (.cells #[.int .i64 3, .int .i64 4] 30)).heap.size := by simp
 obtain ⟨zq, x0, x1⟩ := B1.out.cells
 go_wp2_with fail
 generalize k15.alloc (.cells #[.int .i64 3, .int .i64 4] 30) = k16 at *
 generalize k15.heap.size = s4 at *
 replace hz0 : 0 < k16.heap.size := by have := HB.out.size; omega
 clear x0 x1 zq hzn
 refine (missX (n := 0) (n' := 2) (ys := []) (ys' := [0, 1]) B1.out.v ex_miss.1 rfl rfl rfl rfl).mono ?_
 rintro e k17 ⟨A1, p1, A2, p2, rfl, hi1, hi2, hb⟩
 replace HG := hide ((hb.cell (p := ⟨0, 0, none⟩) hz0).trans HG.out)
 replace HB := hide (HB.out.trans (hb.mono HB.out.size))
 replace B1 := hide (B1.out.next hb)
 replace B2 := hide (B2.out.next hb)
 replace B3 := hide (B3.out.next hb)
 replace S1 := hide (S1.out.next hb)
 replace S2 := hide (S2.out.next hb)
 replace S3 := hide (S3.out.next hb)
 replace S4 := hide (S4.out.next hb)
 have M1 := hide (hi1)
 have M2 := hide (hi2)
 clear hb
 replace hz0 : 0 < k17.heap.size := by have := HB.out.size; omega
 clear hi1 hi2
 obtain ⟨zq, x0, x1⟩ := B2.out.cells
 go_wp2_with fail
 clear x0 x1 zq
 refine (missX (n := 2) (n' := 2) (ys := [0, 1]) (ys' := [0, 1]) B2.out.v ex_miss.2 rfl rfl rfl rfl).mono ?_
 rintro e k18 ⟨A3, p3, A4, p4, rfl, hi3, hi4, hb⟩
 replace HG := hide ((hb.cell (p := ⟨0, 0, none⟩) hz0).trans HG.out)
 replace HB := hide (HB.out.trans (hb.mono HB.out.size))
 replace B1 := hide (B1.out.next hb)
 replace B2 := hide (B2.out.next hb)
 replace B3 := hide (B3.out.next hb)
 replace S1 := hide (S1.out.next hb)
 replace S2 := hide (S2.out.next hb)
 replace S3 := hide (S3.out.next hb)
 replace S4 := hide (S4.out.next hb)
 replace M1 := hide (M1.out.next hb)
 replace M2 := hide (M2.out.next hb)
 have M3 := hide (hi3)
 have M4 := hide (hi4)
 clear hb
 replace hz0 : 0 < k18.heap.size := by have := HB.out.size; omega
 clear hi3 hi4
 obtain ⟨zq, x0, x1⟩ := B2.out.cells
 go_wp2_with fail
 clear x0 x1 zq
 refine (whereX B2.out.v ex_where.1).mono ?_
 rintro e k19 ⟨rfl, hb⟩
 replace HG := hide ((hb.cell (p := ⟨0, 0, none⟩) hz0).trans HG.out)
 replace HB := hide (HB.out.trans (hb.mono HB.out.size))
 replace B1 := hide (B1.out.next hb)
 replace B2 := hide (B2.out.next hb)
 replace B3 := hide (B3.out.next hb)
 replace S1 := hide (S1.out.next hb)
 replace S2 := hide (S2.out.next hb)
 replace S3 := hide (S3.out.next hb)
 replace S4 := hide (S4.out.next hb)
 replace M1 := hide (M1.out.next hb)
 replace M2 := hide (M2.out.next hb)
 replace M3 := hide (M3.out.next hb)
 replace M4 := hide (M4.out.next hb)
 clear hb
 replace hz0 : 0 < k19.heap.size := by have := HB.out.size; omega
 obtain ⟨zq, x0, x1⟩ := B1.out.cells
 go_wp2_with fail
 clear x0 x1 zq
 refine (whereX B1.out.v ex_where.2).mono ?_
 rintro e k20 ⟨rfl, hb⟩
 replace HG := hide ((hb.cell (p := ⟨0, 0, none⟩) hz0).trans HG.out)
 replace HB := hide (HB.out.trans (hb.mono HB.out.size))
 replace B1 := hide (B1.out.next hb)
 replace B2 := hide (B2.out.next hb)
 replace B3 := hide (B3.out.next hb)
 replace S1 := hide (S1.out.next hb)
 replace S2 := hide (S2.out.next hb)
 replace S3 := hide (S3.out.next hb)
 replace S4 := hide (S4.out.next hb)
 replace M1 := hide (M1.out.next hb)
 replace M2 := hide (M2.out.next hb)
 replace M3 := hide (M3.out.next hb)
 replace M4 := hide (M4.out.next hb)
 clear hb
 replace hz0 : 0 < k20.heap.size := by have := HB.out.size; omega
 obtain ⟨zq, x0, x1⟩ := B1.out.cells
 go_wp2_with fail
 clear x0 x1 zq
 refine (firstX (n := 4) B1.out.v ex_first.1 rfl).mono ?_
 rintro e k21 ⟨A5, p5, rfl, hi5, hb⟩
 replace HG := hide ((hb.cell (p := ⟨0, 0, none⟩) hz0).trans HG.out)
 replace HB := hide (HB.out.trans (hb.mono HB.out.size))
 replace B1 := hide (B1.out.next hb)
 replace B2 := hide (B2.out.next hb)
 replace B3 := hide (B3.out.next hb)
 replace S1 := hide (S1.out.next hb)
 replace S2 := hide (S2.out.next hb)
 replace S3 := hide (S3.out.next hb)
 replace S4 := hide (S4.out.next hb)
 replace M1 := hide (M1.out.next hb)
 replace M2 := hide (M2.out.next hb)
 replace M3 := hide (M3.out.next hb)
 replace M4 := hide (M4.out.next hb)
 have M5 := hide (hi5)
 clear hb
 replace hz0 : 0 < k21.heap.size := by have := HB.out.size; omega
 clear hi5
 obtain ⟨zq, x0, x1⟩ := B3.out.cells
 go_wp2_with fail
 clear x0 x1 zq
 refine (wrongX (n := 1) (ys := [3]) B3.out.v ex_wrong rfl rfl).mono ?_
 rintro e k22 ⟨A6, p6, rfl, hi6, hb⟩
 replace HG := hide ((hb.cell (p := ⟨0, 0, none⟩) hz0).trans HG.out)
 replace HB := hide (HB.out.trans (hb.mono HB.out.size))
 replace B1 := hide (B1.out.next hb)
 replace B2 := hide (B2.out.next hb)
 replace B3 := hide (B3.out.next hb)
 replace S1 := hide (S1.out.next hb)
 replace S2 := hide (S2.out.next hb)
 replace S3 := hide (S3.out.next hb)
 replace S4 := hide (S4.out.next hb)
 replace M1 := hide (M1.out.next hb)
 replace M2 := hide (M2.out.next hb)
 replace M3 := hide (M3.out.next hb)
 replace M4 := hide (M4.out.next hb)
 replace M5 := hide (M5.out.next hb)
 have M6 := hide (hi6)
 clear hb
 replace hz0 : 0 < k22.heap.size := by have := HB.out.size; omega
 clear hi6
 obtain ⟨zq, x0, x1⟩ := B2.out.cells
 go_wp2_with fail
 clear x0 x1 zq
 refine (writeX B2.out.v ex_write).mono ?_
 rintro e k23 ⟨rfl, hb⟩
 replace HG := hide ((hb.cell (p := ⟨0, 0, none⟩) hz0).trans HG.out)
 replace HB := hide (HB.out.trans (hb.mono HB.out.size))
 replace B1 := hide (B1.out.next hb)
 replace B2 := hide (B2.out.next hb)
 replace B3 := hide (B3.out.next hb)
 replace S1 := hide (S1.out.next hb)
 replace S2 := hide (S2.out.next hb)
 replace S3 := hide (S3.out.next hb)
 replace S4 := hide (S4.out.next hb)
 replace M1 := hide (M1.out.next hb)
 replace M2 := hide (M2.out.next hb)
 replace M3 := hide (M3.out.next hb)
 replace M4 := hide (M4.out.next hb)
 replace M5 := hide (M5.out.next hb)
 replace M6 := hide (M6.out.next hb)
 clear hb
 replace hz0 : 0 < k23.heap.size := by have := HB.out.size; omega
 go_wp2_with fail
 refine (readX (s := textX) HG.out hz0 ex_read).mono ?_
 rintro e k24 ⟨aR, rfl, hVR, hb⟩
 replace HG := hide ((hb.cell (p := ⟨0, 0, none⟩) hz0).trans HG.out)
 replace HB := hide (HB.out.trans (hb.mono HB.out.size))
 replace B1 := hide (B1.out.next hb)
 replace B2 := hide (B2.out.next hb)
 replace B3 := hide (B3.out.next hb)
 replace S1 := hide (S1.out.next hb)
 replace S2 := hide (S2.out.next hb)
 replace S3 := hide (S3.out.next hb)
 replace S4 := hide (S4.out.next hb)
 replace M1 := hide (M1.out.next hb)
 replace M2 := hide (M2.out.next hb)
 replace M3 := hide (M3.out.next hb)
 replace M4 := hide (M4.out.next hb)
 replace M5 := hide (M5.out.next hb)
 replace M6 := hide (M6.out.next hb)
 clear hb
 replace hz0 : 0 < k24.heap.size := by have := HB.out.size; omega
 have hb : Below k24.heap.size k24 (k24.alloc (.cells (bookCells bC aR) 25)) := (Below.refl _ _).alloc (Nat.le_refl _) _
 replace HG := hide ((hb.cell (p := ⟨0, 0, none⟩) hz0).trans HG.out)
 replace HB := hide (HB.out.trans (hb.mono HB.out.size))
 replace B1 := hide (B1.out.next hb)
 replace B2 := hide (B2.out.next hb)
 replace B3 := hide (B3.out.next hb)
 replace S1 := hide (S1.out.next hb)
 replace S2 := hide (S2.out.next hb)
 replace S3 := hide (S3.out.next hb)
 replace S4 := hide (S4.out.next hb)
 replace M1 := hide (M1.out.next hb)
 replace M2 := hide (M2.out.next hb)
 replace M3 := hide (M3.out.next hb)
 replace M4 := hide (M4.out.next hb)
 replace M5 := hide (M5.out.next hb)
 replace M6 := hide (M6.out.next hb)
 have BR : Hid (BoxB (k24.alloc (.cells (bookCells bC aR) 25)) k24.heap.size bC aR) := hide (BoxB.made hVR)
 clear hb
 clear hVR
 have hzn : k24.heap.size < (k24.alloc (.cells (bookCells bC aR) 25)).heap.size := by simp
 obtain ⟨zq, x0, x1⟩ := B3.out.cells
 go_wp2_with fail
 generalize k24.alloc (.cells (bookCells bC aR) 25) = k25 at *
 generalize k24.heap.size = gBR at *
 replace hz0 : 0 < k25.heap.size := by have := HB.out.size; omega
 clear x0 x1 zq hzn
 refine (firstX (n := 0) B3.out.v ex_first.2 rfl).mono ?_
 rintro e k26 ⟨A7, p7, rfl, hi7, hb⟩
 replace HG := hide ((hb.cell (p := ⟨0, 0, none⟩) hz0).trans HG.out)
 replace HB := hide (HB.out.trans (hb.mono HB.out.size))
 replace B1 := hide (B1.out.next hb)
 replace B2 := hide (B2.out.next hb)
 replace B3 := hide (B3.out.next hb)
 replace S1 := hide (S1.out.next hb)
 replace S2 := hide (S2.out.next hb)
 replace S3 := hide (S3.out.next hb)
 replace S4 := hide (S4.out.next hb)
 replace M1 := hide (M1.out.next hb)
 replace M2 := hide (M2.out.next hb)
 replace M3 := hide (M3.out.next hb)
 replace M4 := hide (M4.out.next hb)
 replace M5 := hide (M5.out.next hb)
 replace M6 := hide (M6.out.next hb)
 replace BR := hide (BR.out.next hb)
 have M7 := hide (hi7)
 clear hb
 replace hz0 : 0 < k26.heap.size := by have := HB.out.size; omega
 clear hi7
 go_wp2_with fail
 refine (readX (s := badX) HG.out hz0 ex_bad).mono ?_
 rintro e k27 ⟨aQ, rfl, hVQ, hb⟩
 replace HG := hide ((hb.cell (p := ⟨0, 0, none⟩) hz0).trans HG.out)
 replace HB := hide (HB.out.trans (hb.mono HB.out.size))
 replace B1 := hide (B1.out.next hb)
 replace B2 := hide (B2.out.next hb)
 replace B3 := hide (B3.out.next hb)
 replace S1 := hide (S1.out.next hb)
 replace S2 := hide (S2.out.next hb)
 replace S3 := hide (S3.out.next hb)
 replace S4 := hide (S4.out.next hb)
 replace M1 := hide (M1.out.next hb)
 replace M2 := hide (M2.out.next hb)
 replace M3 := hide (M3.out.next hb)
 replace M4 := hide (M4.out.next hb)
 replace M5 := hide (M5.out.next hb)
 replace M6 := hide (M6.out.next hb)
 replace BR := hide (BR.out.next hb)
 replace M7 := hide (M7.out.next hb)
 clear hb
 replace hz0 : 0 < k27.heap.size := by have := HB.out.size; omega
 have hb : Below k27.heap.size k27 (k27.alloc (.cells (bookCells ⟨[], []⟩ aQ) 25)) := (Below.refl _ _).alloc (Nat.le_refl _) _
 replace HG := hide ((hb.cell (p := ⟨0, 0, none⟩) hz0).trans HG.out)
 replace HB := hide (HB.out.trans (hb.mono HB.out.size))
 replace B1 := hide (B1.out.next hb)
 replace B2 := hide (B2.out.next hb)
 replace B3 := hide (B3.out.next hb)
 replace S1 := hide (S1.out.next hb)
 replace S2 := hide (S2.out.next hb)
 replace S3 := hide (S3.out.next hb)
 replace S4 := hide (S4.out.next hb)
 replace M1 := hide (M1.out.next hb)
 replace M2 := hide (M2.out.next hb)
 replace M3 := hide (M3.out.next hb)
 replace M4 := hide (M4.out.next hb)
 replace M5 := hide (M5.out.next hb)
 replace M6 := hide (M6.out.next hb)
 replace BR := hide (BR.out.next hb)
 replace M7 := hide (M7.out.next hb)
 have BQ : Hid (BoxB (k27.alloc (.cells (bookCells ⟨[], []⟩ aQ) 25)) k27.heap.size ⟨[], []⟩ aQ) := hide (BoxB.made hVQ)
 clear hb
 clear hVQ
 have sa1 := S1.out.at_ 0
 have sb1 := S1.out.at_ 1
 have sz1 := S1.out.lt
 have sa2 := S2.out.at_ 0
 have sb2 := S2.out.at_ 1
 have sz2 := S2.out.lt
 have sa3 := S3.out.at_ 0
 have sb3 := S3.out.at_ 1
 have sz3 := S3.out.lt
 have sa4 := S4.out.at_ 0
 have sb4 := S4.out.at_ 1
 have sz4 := S4.out.lt
 simp only [List.getElem?_toArray, List.getElem?_cons_zero, List.getElem?_cons_succ] at sa1 sb1 sa2 sb2 sa3 sb3 sa4 sb4
 go_wp2_with fail
 generalize k27.alloc (.cells (bookCells ⟨[], []⟩ aQ) 25) = k28 at *
 generalize k27.heap.size = gBQ at *
 replace hz0 : 0 < k28.heap.size := by have := HB.out.size; omega
 have XE := hide ex_equal
 have xb1 := BR.out.cells.1
 have xb2 := BR.out.cells.2.1
 have xb3 := BR.out.cells.2.2
 have xc1 := B2.out.cells.1
 have xc2 := B2.out.cells.2.1
 have xc3 := B2.out.cells.2.2
 have XR := hide BR.out.v
 have XC := hide B2.out.v
 generalize bC = bq at *
 simp only [List.append_eq, List.cons_append, List.nil_append]
 refine wp_post (fun a W => a.tmps[0]?.getD undef = .bool true ∧ a.defers = [] ∧ Keep (fun _ => False) k28 W) ?reg ?imp
 case reg =>
  refine wp_region_rel3 (dst := fun oi => [115, 116, 117, 118, 119, 120, 121, 122, 123, 124, 125, 126, 127, 128, 129, 130, 131, 132, 133, 134, 135, 136, 137, 138, 139, 140, 141, 142, 143, 144, 145, 146, 147, 148, 149, 150, 151, 152, 153, 154, 155, 156, 157, 158, 159, 160, 161, 162, 163, 164, 165, 166, 167, 168, 169, 170, 171, 172, 173, 174, 175, 176, 177, 178, 179, 180, 181, 182, 183, 184, 185, 186, 187, 188, 189, 190, 191, 192, 193, 194, 195, 196, 197, 198, 199, 200, 201, 202, 203, 204, 205, 206, 207, 208, 209, 210, 211, 212, 213, 214, 215, 216, 217, 218, 219, 220, 221, 222, 223, 224, 225, 226, 227, 228, 229, 230, 0].getD oi 0) (mono := fun oi => decide (oi < 117)) (pre := fun oi => decide (oi < 117)) (R := LKeep (fun _ => False) (fun _ => True))
   (Pv := fun oi v W => match oi with
    | 0 => v = .int .i64 0
    | 1 => v = .bool true
    | 2 => v = .bool true
    | 3 => v = .int .i64 0
    | 4 => v = .bool true
    | 5 => v = .bool true
    | 6 => v = .bool true
    | 7 => v = .int .i64 0
    | 8 => v = .bool true
    | 9 => v = .bool true
    | 10 => v = .bool true
    | 11 => v = .int .i64 0
    | 12 => v = .bool true
    | 13 => v = .bool true
    | 14 => v = .bool true
    | 15 => v = .int .i64 0
    | 16 => v = .bool true
    | 17 => v = .bool true
    | 18 => v = .bool true
    | 19 => v = .int .i64 0
    | 20 => v = .bool true
    | 21 => v = .bool true
    | 22 => v = .bool true
    | 23 => v = .int .i64 0
    | 24 => v = .bool true
    | 25 => v = .bool true
    | 26 => v = .bool true
    | 27 => v = .int .i64 9
    | 28 => v = .bool true
    | 29 => v = .bool true
    | 30 => v = .bool true
    | 31 => v = .int .i64 0
    | 32 => v = .bool true
    | 33 => v = .bool true
    | 34 => v = .bool true
    | 35 => v = .int .i64 0
    | 36 => v = .bool true
    | 37 => v = .bool true
    | 38 => v = .bool true
    | 39 => v = .int .i64 0
    | 40 => v = .bool true
    | 41 => v = .bool true
    | 42 => v = .bool true
    | 43 => v = .int .i64 0
    | 44 => v = .bool true
    | 45 => v = .bool true
    | 46 => v = .bool true
    | 47 => v = .int .i64 8
    | 48 => v = .bool true
    | 49 => v = .bool true
    | 50 => v = .bool true
    | 51 => v = .int .i64 6
    | 52 => v = .bool true
    | 53 => v = .bool true
    | 54 => v = .bool true
    | 55 => v = .agg #[.int .i64 39, .int .i64 41]
    | 56 => v = .agg #[.int .i64 39, .int .i64 41]
    | 57 => v = .bool true
    | 58 => v = .bool true
    | 59 => v = .bool true
    | 60 => v = .agg #[.int .i64 19, .int .i64 20]
    | 61 => v = .agg #[.int .i64 19, .int .i64 20]
    | 62 => v = .bool true
    | 63 => v = .bool true
    | 64 => v = .bool true
    | 65 => v = .agg #[.int .i64 0, .int .i64 4]
    | 66 => v = .agg #[.int .i64 0, .int .i64 4]
    | 67 => v = .bool true
    | 68 => v = .bool true
    | 69 => v = .bool true
    | 70 => v = .agg #[.int .i64 3, .int .i64 4]
    | 71 => v = .agg #[.int .i64 3, .int .i64 4]
    | 72 => v = .bool true
    | 73 => v = .bool true
    | 74 => v = .bool true
    | 75 => v = .slice A1 0 p1
    | 76 => v = .int .i64 (0 : Nat)
    | 77 => v = .bool true
    | 78 => v = .bool true
    | 79 => v = .bool true
    | 80 => v = .slice A2 2 p2
    | 81 => ∃ gl cp, v = .slice gl 2 cp ∧ IntsS W W.heap.size gl 2 cp ([0, 1])
    | 82 => v = .bool true
    | 83 => v = .bool true
    | 84 => v = .bool true
    | 85 => v = .slice A3 2 p3
    | 86 => ∃ gl cp, v = .slice gl 2 cp ∧ IntsS W W.heap.size gl 2 cp ([0, 1])
    | 87 => v = .bool true
    | 88 => v = .bool true
    | 89 => v = .bool true
    | 90 => v = .int .i64 1
    | 91 => v = .bool true
    | 92 => v = .bool true
    | 93 => v = .bool true
    | 94 => v = .int .i64 3
    | 95 => v = .bool true
    | 96 => v = .bool true
    | 97 => v = .bool true
    | 98 => v = .slice A5 4 p5
    | 99 => ∃ gl cp, v = .slice gl 4 cp ∧ IntsS W W.heap.size gl 4 cp ([39, 34, 15, 18])
    | 100 => v = .bool true
    | 101 => v = .bool true
    | 102 => v = .bool true
    | 103 => v = .slice A6 1 p6
    | 104 => ∃ gl cp, v = .slice gl 1 cp ∧ IntsS W W.heap.size gl 1 cp ([3])
    | 105 => v = .bool true
    | 106 => v = .bool true
    | 107 => v = .bool true
    | 108 => v = .string ⟨textX.toArray⟩
    | 109 => v = .bool true
    | 110 => v = .bool true
    | 111 => v = .bool true
    | 112 => v = .agg #[.slice aR.A1 bq.steps.length aR.c1, .slice aR.A2 bq.tallies.length aR.c2]
    | 113 => v = .agg #[.slice aC.A1 bq.steps.length aC.c1, .slice aC.A2 bq.tallies.length aC.c2]
    | 114 => v = .bool true
    | 115 => v = .bool true
    | 116 => v = .bool true
    | _ => True) (by kernel_rfl) (by kernel_rfl) (LKeep.refl _ _) (fun _ _ _ h h' => h.trans h') ?hst ?hstep ?hend
  case hst =>
   intro oi v W W' h hk
   match oi, h with
   | 0, h => exact h
   | 1, h => exact h
   | 2, h => exact h
   | 3, h => exact h
   | 4, h => exact h
   | 5, h => exact h
   | 6, h => exact h
   | 7, h => exact h
   | 8, h => exact h
   | 9, h => exact h
   | 10, h => exact h
   | 11, h => exact h
   | 12, h => exact h
   | 13, h => exact h
   | 14, h => exact h
   | 15, h => exact h
   | 16, h => exact h
   | 17, h => exact h
   | 18, h => exact h
   | 19, h => exact h
   | 20, h => exact h
   | 21, h => exact h
   | 22, h => exact h
   | 23, h => exact h
   | 24, h => exact h
   | 25, h => exact h
   | 26, h => exact h
   | 27, h => exact h
   | 28, h => exact h
   | 29, h => exact h
   | 30, h => exact h
   | 31, h => exact h
   | 32, h => exact h
   | 33, h => exact h
   | 34, h => exact h
   | 35, h => exact h
   | 36, h => exact h
   | 37, h => exact h
   | 38, h => exact h
   | 39, h => exact h
   | 40, h => exact h
   | 41, h => exact h
   | 42, h => exact h
   | 43, h => exact h
   | 44, h => exact h
   | 45, h => exact h
   | 46, h => exact h
   | 47, h => exact h
   | 48, h => exact h
   | 49, h => exact h
   | 50, h => exact h
   | 51, h => exact h
   | 52, h => exact h
   | 53, h => exact h
   | 54, h => exact h
   | 55, h => exact h
   | 56, h => exact h
   | 57, h => exact h
   | 58, h => exact h
   | 59, h => exact h
   | 60, h => exact h
   | 61, h => exact h
   | 62, h => exact h
   | 63, h => exact h
   | 64, h => exact h
   | 65, h => exact h
   | 66, h => exact h
   | 67, h => exact h
   | 68, h => exact h
   | 69, h => exact h
   | 70, h => exact h
   | 71, h => exact h
   | 72, h => exact h
   | 73, h => exact h
   | 74, h => exact h
   | 75, h => exact h
   | 76, h => exact h
   | 77, h => exact h
   | 78, h => exact h
   | 79, h => exact h
   | 80, h => exact h
   | 81, h => obtain ⟨gl, cp, h1, h2⟩ := h; exact ⟨gl, cp, h1, h2.next (hk.1.below (B := W.heap.size) (fun k h => h.elim) (Nat.le_refl _))⟩
   | 82, h => exact h
   | 83, h => exact h
   | 84, h => exact h
   | 85, h => exact h
   | 86, h => obtain ⟨gl, cp, h1, h2⟩ := h; exact ⟨gl, cp, h1, h2.next (hk.1.below (B := W.heap.size) (fun k h => h.elim) (Nat.le_refl _))⟩
   | 87, h => exact h
   | 88, h => exact h
   | 89, h => exact h
   | 90, h => exact h
   | 91, h => exact h
   | 92, h => exact h
   | 93, h => exact h
   | 94, h => exact h
   | 95, h => exact h
   | 96, h => exact h
   | 97, h => exact h
   | 98, h => exact h
   | 99, h => obtain ⟨gl, cp, h1, h2⟩ := h; exact ⟨gl, cp, h1, h2.next (hk.1.below (B := W.heap.size) (fun k h => h.elim) (Nat.le_refl _))⟩
   | 100, h => exact h
   | 101, h => exact h
   | 102, h => exact h
   | 103, h => exact h
   | 104, h => obtain ⟨gl, cp, h1, h2⟩ := h; exact ⟨gl, cp, h1, h2.next (hk.1.below (B := W.heap.size) (fun k h => h.elim) (Nat.le_refl _))⟩
   | 105, h => exact h
   | 106, h => exact h
   | 107, h => exact h
   | 108, h => exact h
   | 109, h => exact h
   | 110, h => exact h
   | 111, h => exact h
   | 112, h => exact h
   | 113, h => exact h
   | 114, h => exact h
   | 115, h => exact h
   | 116, h => exact h
   | oi + 117, h => exact trivial
  case hstep =>
   intro oi hoi hom listed vs ao W hU hk0 hpv haft Ko hK
   have hkk := (LKeep.drew (fun _ => False) (M := fun _ => True) k28 (fun h => h)).trans hk0
   have hk := hkk.1
   have hkm := hkk.2
   clear hkk
   match oi, hoi, hom with
   | 0, hoi, hom =>
    have z5 : ao.tmps[5]?.getD undef = .int .i64 0 := hU.same 5 (by decide)
    refine wpOp_value (v := .int .i64 0) (W' := W) rfl rfl ?_ (hK _ _ (LKeep.refl _ _ _) rfl)
    go_simp
   | 1, hoi, hom =>
    have l0 := haft _ rfl ⟨0, .data⟩ (by simp) rfl
    have s0 : ao.tmps[115]?.getD undef = .int .i64 0 := (hU.slot 0 (by decide) l0).trans (hpv 0 l0)
    refine wpOp_value (v := .bool true) (W' := W) rfl rfl ?_ (hK _ _ (LKeep.refl _ _ _) rfl)
    go_simp
   | 2, hoi, hom =>
    have l1 := haft _ rfl ⟨1, .data⟩ (by simp) rfl
    have s1 : ao.tmps[116]?.getD undef = .bool true := (hU.slot 1 (by decide) l1).trans (hpv 1 l1)
    refine wpOp_value (v := .bool true) (W' := W) rfl rfl ?_ (hK _ _ (LKeep.refl _ _ _) rfl)
    go_simp
   | 3, hoi, hom =>
    have l2 := haft _ rfl ⟨2, .guard⟩ (by simp) rfl
    have s2 : ao.tmps[117]?.getD undef = .bool true := (hU.slot 2 (by decide) l2).trans (hpv 2 l2)
    have z7 : ao.tmps[7]?.getD undef = .int .i64 0 := hU.same 7 (by decide)
    refine wpOp_wanted (v := .int .i64 0) (W' := W) rfl ?_ ?_ (hK _ _ (LKeep.refl _ _ _) rfl)
    · refine wanted_yes (j := 2) (d := 117) ?_ ?_ s2 <;> rfl
    go_simp
   | 4, hoi, hom =>
    have l2 := haft _ rfl ⟨2, .guard⟩ (by simp) rfl
    have s2 : ao.tmps[117]?.getD undef = .bool true := (hU.slot 2 (by decide) l2).trans (hpv 2 l2)
    have l3 := haft _ rfl ⟨3, .data⟩ (by simp) rfl
    have s3 : ao.tmps[118]?.getD undef = .int .i64 0 := (hU.slot 3 (by decide) l3).trans (hpv 3 l3)
    refine wpOp_wanted (v := .bool true) (W' := W) rfl ?_ ?_ (hK _ _ (LKeep.refl _ _ _) rfl)
    · refine wanted_yes (j := 2) (d := 117) ?_ ?_ s2 <;> rfl
    go_simp
   | 5, hoi, hom =>
    have l2 := haft _ rfl ⟨2, .data⟩ (by simp) rfl
    have s2 : ao.tmps[117]?.getD undef = .bool true := (hU.slot 2 (by decide) l2).trans (hpv 2 l2)
    have l4 := haft _ rfl ⟨4, .data⟩ (by simp) rfl
    have s4 : ao.tmps[119]?.getD undef = .bool true := (hU.slot 4 (by decide) l4).trans (hpv 4 l4)
    refine wpOp_value (v := .bool true) (W' := W) rfl rfl ?_ (hK _ _ (LKeep.refl _ _ _) rfl)
    go_simp
   | 6, hoi, hom =>
    have l5 := haft _ rfl ⟨5, .data⟩ (by simp) rfl
    have s5 : ao.tmps[120]?.getD undef = .bool true := (hU.slot 5 (by decide) l5).trans (hpv 5 l5)
    refine wpOp_value (v := .bool true) (W' := W) rfl rfl ?_ (hK _ _ (LKeep.refl _ _ _) rfl)
    go_simp
   | 7, hoi, hom =>
    have l6 := haft _ rfl ⟨6, .guard⟩ (by simp) rfl
    have s6 : ao.tmps[121]?.getD undef = .bool true := (hU.slot 6 (by decide) l6).trans (hpv 6 l6)
    have z9 : ao.tmps[9]?.getD undef = .int .i64 0 := hU.same 9 (by decide)
    refine wpOp_wanted (v := .int .i64 0) (W' := W) rfl ?_ ?_ (hK _ _ (LKeep.refl _ _ _) rfl)
    · refine wanted_yes (j := 6) (d := 121) ?_ ?_ s6 <;> rfl
    go_simp
   | 8, hoi, hom =>
    have l6 := haft _ rfl ⟨6, .guard⟩ (by simp) rfl
    have s6 : ao.tmps[121]?.getD undef = .bool true := (hU.slot 6 (by decide) l6).trans (hpv 6 l6)
    have l7 := haft _ rfl ⟨7, .data⟩ (by simp) rfl
    have s7 : ao.tmps[122]?.getD undef = .int .i64 0 := (hU.slot 7 (by decide) l7).trans (hpv 7 l7)
    refine wpOp_wanted (v := .bool true) (W' := W) rfl ?_ ?_ (hK _ _ (LKeep.refl _ _ _) rfl)
    · refine wanted_yes (j := 6) (d := 121) ?_ ?_ s6 <;> rfl
    go_simp
   | 9, hoi, hom =>
    have l6 := haft _ rfl ⟨6, .data⟩ (by simp) rfl
    have s6 : ao.tmps[121]?.getD undef = .bool true := (hU.slot 6 (by decide) l6).trans (hpv 6 l6)
    have l8 := haft _ rfl ⟨8, .data⟩ (by simp) rfl
    have s8 : ao.tmps[123]?.getD undef = .bool true := (hU.slot 8 (by decide) l8).trans (hpv 8 l8)
    refine wpOp_value (v := .bool true) (W' := W) rfl rfl ?_ (hK _ _ (LKeep.refl _ _ _) rfl)
    go_simp
   | 10, hoi, hom =>
    have l9 := haft _ rfl ⟨9, .data⟩ (by simp) rfl
    have s9 : ao.tmps[124]?.getD undef = .bool true := (hU.slot 9 (by decide) l9).trans (hpv 9 l9)
    refine wpOp_value (v := .bool true) (W' := W) rfl rfl ?_ (hK _ _ (LKeep.refl _ _ _) rfl)
    go_simp
   | 11, hoi, hom =>
    have l10 := haft _ rfl ⟨10, .guard⟩ (by simp) rfl
    have s10 : ao.tmps[125]?.getD undef = .bool true := (hU.slot 10 (by decide) l10).trans (hpv 10 l10)
    have z11 : ao.tmps[11]?.getD undef = .int .i64 0 := hU.same 11 (by decide)
    refine wpOp_wanted (v := .int .i64 0) (W' := W) rfl ?_ ?_ (hK _ _ (LKeep.refl _ _ _) rfl)
    · refine wanted_yes (j := 10) (d := 125) ?_ ?_ s10 <;> rfl
    go_simp
   | 12, hoi, hom =>
    have l10 := haft _ rfl ⟨10, .guard⟩ (by simp) rfl
    have s10 : ao.tmps[125]?.getD undef = .bool true := (hU.slot 10 (by decide) l10).trans (hpv 10 l10)
    have l11 := haft _ rfl ⟨11, .data⟩ (by simp) rfl
    have s11 : ao.tmps[126]?.getD undef = .int .i64 0 := (hU.slot 11 (by decide) l11).trans (hpv 11 l11)
    refine wpOp_wanted (v := .bool true) (W' := W) rfl ?_ ?_ (hK _ _ (LKeep.refl _ _ _) rfl)
    · refine wanted_yes (j := 10) (d := 125) ?_ ?_ s10 <;> rfl
    go_simp
   | 13, hoi, hom =>
    have l10 := haft _ rfl ⟨10, .data⟩ (by simp) rfl
    have s10 : ao.tmps[125]?.getD undef = .bool true := (hU.slot 10 (by decide) l10).trans (hpv 10 l10)
    have l12 := haft _ rfl ⟨12, .data⟩ (by simp) rfl
    have s12 : ao.tmps[127]?.getD undef = .bool true := (hU.slot 12 (by decide) l12).trans (hpv 12 l12)
    refine wpOp_value (v := .bool true) (W' := W) rfl rfl ?_ (hK _ _ (LKeep.refl _ _ _) rfl)
    go_simp
   | 14, hoi, hom =>
    have l13 := haft _ rfl ⟨13, .data⟩ (by simp) rfl
    have s13 : ao.tmps[128]?.getD undef = .bool true := (hU.slot 13 (by decide) l13).trans (hpv 13 l13)
    refine wpOp_value (v := .bool true) (W' := W) rfl rfl ?_ (hK _ _ (LKeep.refl _ _ _) rfl)
    go_simp
   | 15, hoi, hom =>
    have l14 := haft _ rfl ⟨14, .guard⟩ (by simp) rfl
    have s14 : ao.tmps[129]?.getD undef = .bool true := (hU.slot 14 (by decide) l14).trans (hpv 14 l14)
    have z14 : ao.tmps[14]?.getD undef = .int .i64 0 := hU.same 14 (by decide)
    refine wpOp_wanted (v := .int .i64 0) (W' := W) rfl ?_ ?_ (hK _ _ (LKeep.refl _ _ _) rfl)
    · refine wanted_yes (j := 14) (d := 129) ?_ ?_ s14 <;> rfl
    go_simp
   | 16, hoi, hom =>
    have l14 := haft _ rfl ⟨14, .guard⟩ (by simp) rfl
    have s14 : ao.tmps[129]?.getD undef = .bool true := (hU.slot 14 (by decide) l14).trans (hpv 14 l14)
    have l15 := haft _ rfl ⟨15, .data⟩ (by simp) rfl
    have s15 : ao.tmps[130]?.getD undef = .int .i64 0 := (hU.slot 15 (by decide) l15).trans (hpv 15 l15)
    refine wpOp_wanted (v := .bool true) (W' := W) rfl ?_ ?_ (hK _ _ (LKeep.refl _ _ _) rfl)
    · refine wanted_yes (j := 14) (d := 129) ?_ ?_ s14 <;> rfl
    go_simp
   | 17, hoi, hom =>
    have l14 := haft _ rfl ⟨14, .data⟩ (by simp) rfl
    have s14 : ao.tmps[129]?.getD undef = .bool true := (hU.slot 14 (by decide) l14).trans (hpv 14 l14)
    have l16 := haft _ rfl ⟨16, .data⟩ (by simp) rfl
    have s16 : ao.tmps[131]?.getD undef = .bool true := (hU.slot 16 (by decide) l16).trans (hpv 16 l16)
    refine wpOp_value (v := .bool true) (W' := W) rfl rfl ?_ (hK _ _ (LKeep.refl _ _ _) rfl)
    go_simp
   | 18, hoi, hom =>
    have l17 := haft _ rfl ⟨17, .data⟩ (by simp) rfl
    have s17 : ao.tmps[132]?.getD undef = .bool true := (hU.slot 17 (by decide) l17).trans (hpv 17 l17)
    refine wpOp_value (v := .bool true) (W' := W) rfl rfl ?_ (hK _ _ (LKeep.refl _ _ _) rfl)
    go_simp
   | 19, hoi, hom =>
    have l18 := haft _ rfl ⟨18, .guard⟩ (by simp) rfl
    have s18 : ao.tmps[133]?.getD undef = .bool true := (hU.slot 18 (by decide) l18).trans (hpv 18 l18)
    have z17 : ao.tmps[17]?.getD undef = .int .i64 0 := hU.same 17 (by decide)
    refine wpOp_wanted (v := .int .i64 0) (W' := W) rfl ?_ ?_ (hK _ _ (LKeep.refl _ _ _) rfl)
    · refine wanted_yes (j := 18) (d := 133) ?_ ?_ s18 <;> rfl
    go_simp
   | 20, hoi, hom =>
    have l18 := haft _ rfl ⟨18, .guard⟩ (by simp) rfl
    have s18 : ao.tmps[133]?.getD undef = .bool true := (hU.slot 18 (by decide) l18).trans (hpv 18 l18)
    have l19 := haft _ rfl ⟨19, .data⟩ (by simp) rfl
    have s19 : ao.tmps[134]?.getD undef = .int .i64 0 := (hU.slot 19 (by decide) l19).trans (hpv 19 l19)
    refine wpOp_wanted (v := .bool true) (W' := W) rfl ?_ ?_ (hK _ _ (LKeep.refl _ _ _) rfl)
    · refine wanted_yes (j := 18) (d := 133) ?_ ?_ s18 <;> rfl
    go_simp
   | 21, hoi, hom =>
    have l18 := haft _ rfl ⟨18, .data⟩ (by simp) rfl
    have s18 : ao.tmps[133]?.getD undef = .bool true := (hU.slot 18 (by decide) l18).trans (hpv 18 l18)
    have l20 := haft _ rfl ⟨20, .data⟩ (by simp) rfl
    have s20 : ao.tmps[135]?.getD undef = .bool true := (hU.slot 20 (by decide) l20).trans (hpv 20 l20)
    refine wpOp_value (v := .bool true) (W' := W) rfl rfl ?_ (hK _ _ (LKeep.refl _ _ _) rfl)
    go_simp
   | 22, hoi, hom =>
    have l21 := haft _ rfl ⟨21, .data⟩ (by simp) rfl
    have s21 : ao.tmps[136]?.getD undef = .bool true := (hU.slot 21 (by decide) l21).trans (hpv 21 l21)
    refine wpOp_value (v := .bool true) (W' := W) rfl rfl ?_ (hK _ _ (LKeep.refl _ _ _) rfl)
    go_simp
   | 23, hoi, hom =>
    have l22 := haft _ rfl ⟨22, .guard⟩ (by simp) rfl
    have s22 : ao.tmps[137]?.getD undef = .bool true := (hU.slot 22 (by decide) l22).trans (hpv 22 l22)
    have z20 : ao.tmps[20]?.getD undef = .int .i64 0 := hU.same 20 (by decide)
    refine wpOp_wanted (v := .int .i64 0) (W' := W) rfl ?_ ?_ (hK _ _ (LKeep.refl _ _ _) rfl)
    · refine wanted_yes (j := 22) (d := 137) ?_ ?_ s22 <;> rfl
    go_simp
   | 24, hoi, hom =>
    have l22 := haft _ rfl ⟨22, .guard⟩ (by simp) rfl
    have s22 : ao.tmps[137]?.getD undef = .bool true := (hU.slot 22 (by decide) l22).trans (hpv 22 l22)
    have l23 := haft _ rfl ⟨23, .data⟩ (by simp) rfl
    have s23 : ao.tmps[138]?.getD undef = .int .i64 0 := (hU.slot 23 (by decide) l23).trans (hpv 23 l23)
    refine wpOp_wanted (v := .bool true) (W' := W) rfl ?_ ?_ (hK _ _ (LKeep.refl _ _ _) rfl)
    · refine wanted_yes (j := 22) (d := 137) ?_ ?_ s22 <;> rfl
    go_simp
   | 25, hoi, hom =>
    have l22 := haft _ rfl ⟨22, .data⟩ (by simp) rfl
    have s22 : ao.tmps[137]?.getD undef = .bool true := (hU.slot 22 (by decide) l22).trans (hpv 22 l22)
    have l24 := haft _ rfl ⟨24, .data⟩ (by simp) rfl
    have s24 : ao.tmps[139]?.getD undef = .bool true := (hU.slot 24 (by decide) l24).trans (hpv 24 l24)
    refine wpOp_value (v := .bool true) (W' := W) rfl rfl ?_ (hK _ _ (LKeep.refl _ _ _) rfl)
    go_simp
   | 26, hoi, hom =>
    have l25 := haft _ rfl ⟨25, .data⟩ (by simp) rfl
    have s25 : ao.tmps[140]?.getD undef = .bool true := (hU.slot 25 (by decide) l25).trans (hpv 25 l25)
    refine wpOp_value (v := .bool true) (W' := W) rfl rfl ?_ (hK _ _ (LKeep.refl _ _ _) rfl)
    go_simp
   | 27, hoi, hom =>
    have l26 := haft _ rfl ⟨26, .guard⟩ (by simp) rfl
    have s26 : ao.tmps[141]?.getD undef = .bool true := (hU.slot 26 (by decide) l26).trans (hpv 26 l26)
    have z23 : ao.tmps[23]?.getD undef = .int .i64 9 := hU.same 23 (by decide)
    refine wpOp_wanted (v := .int .i64 9) (W' := W) rfl ?_ ?_ (hK _ _ (LKeep.refl _ _ _) rfl)
    · refine wanted_yes (j := 26) (d := 141) ?_ ?_ s26 <;> rfl
    go_simp
   | 28, hoi, hom =>
    have l26 := haft _ rfl ⟨26, .guard⟩ (by simp) rfl
    have s26 : ao.tmps[141]?.getD undef = .bool true := (hU.slot 26 (by decide) l26).trans (hpv 26 l26)
    have l27 := haft _ rfl ⟨27, .data⟩ (by simp) rfl
    have s27 : ao.tmps[142]?.getD undef = .int .i64 9 := (hU.slot 27 (by decide) l27).trans (hpv 27 l27)
    refine wpOp_wanted (v := .bool true) (W' := W) rfl ?_ ?_ (hK _ _ (LKeep.refl _ _ _) rfl)
    · refine wanted_yes (j := 26) (d := 141) ?_ ?_ s26 <;> rfl
    go_simp
   | 29, hoi, hom =>
    have l26 := haft _ rfl ⟨26, .data⟩ (by simp) rfl
    have s26 : ao.tmps[141]?.getD undef = .bool true := (hU.slot 26 (by decide) l26).trans (hpv 26 l26)
    have l28 := haft _ rfl ⟨28, .data⟩ (by simp) rfl
    have s28 : ao.tmps[143]?.getD undef = .bool true := (hU.slot 28 (by decide) l28).trans (hpv 28 l28)
    refine wpOp_value (v := .bool true) (W' := W) rfl rfl ?_ (hK _ _ (LKeep.refl _ _ _) rfl)
    go_simp
   | 30, hoi, hom =>
    have l29 := haft _ rfl ⟨29, .data⟩ (by simp) rfl
    have s29 : ao.tmps[144]?.getD undef = .bool true := (hU.slot 29 (by decide) l29).trans (hpv 29 l29)
    refine wpOp_value (v := .bool true) (W' := W) rfl rfl ?_ (hK _ _ (LKeep.refl _ _ _) rfl)
    go_simp
   | 31, hoi, hom =>
    have l30 := haft _ rfl ⟨30, .guard⟩ (by simp) rfl
    have s30 : ao.tmps[145]?.getD undef = .bool true := (hU.slot 30 (by decide) l30).trans (hpv 30 l30)
    have z25 : ao.tmps[25]?.getD undef = .int .i64 0 := hU.same 25 (by decide)
    refine wpOp_wanted (v := .int .i64 0) (W' := W) rfl ?_ ?_ (hK _ _ (LKeep.refl _ _ _) rfl)
    · refine wanted_yes (j := 30) (d := 145) ?_ ?_ s30 <;> rfl
    go_simp
   | 32, hoi, hom =>
    have l30 := haft _ rfl ⟨30, .guard⟩ (by simp) rfl
    have s30 : ao.tmps[145]?.getD undef = .bool true := (hU.slot 30 (by decide) l30).trans (hpv 30 l30)
    have l31 := haft _ rfl ⟨31, .data⟩ (by simp) rfl
    have s31 : ao.tmps[146]?.getD undef = .int .i64 0 := (hU.slot 31 (by decide) l31).trans (hpv 31 l31)
    refine wpOp_wanted (v := .bool true) (W' := W) rfl ?_ ?_ (hK _ _ (LKeep.refl _ _ _) rfl)
    · refine wanted_yes (j := 30) (d := 145) ?_ ?_ s30 <;> rfl
    go_simp
   | 33, hoi, hom =>
    have l30 := haft _ rfl ⟨30, .data⟩ (by simp) rfl
    have s30 : ao.tmps[145]?.getD undef = .bool true := (hU.slot 30 (by decide) l30).trans (hpv 30 l30)
    have l32 := haft _ rfl ⟨32, .data⟩ (by simp) rfl
    have s32 : ao.tmps[147]?.getD undef = .bool true := (hU.slot 32 (by decide) l32).trans (hpv 32 l32)
    refine wpOp_value (v := .bool true) (W' := W) rfl rfl ?_ (hK _ _ (LKeep.refl _ _ _) rfl)
    go_simp
   | 34, hoi, hom =>
    have l33 := haft _ rfl ⟨33, .data⟩ (by simp) rfl
    have s33 : ao.tmps[148]?.getD undef = .bool true := (hU.slot 33 (by decide) l33).trans (hpv 33 l33)
    refine wpOp_value (v := .bool true) (W' := W) rfl rfl ?_ (hK _ _ (LKeep.refl _ _ _) rfl)
    go_simp
   | 35, hoi, hom =>
    have l34 := haft _ rfl ⟨34, .guard⟩ (by simp) rfl
    have s34 : ao.tmps[149]?.getD undef = .bool true := (hU.slot 34 (by decide) l34).trans (hpv 34 l34)
    have z27 : ao.tmps[27]?.getD undef = .int .i64 0 := hU.same 27 (by decide)
    refine wpOp_wanted (v := .int .i64 0) (W' := W) rfl ?_ ?_ (hK _ _ (LKeep.refl _ _ _) rfl)
    · refine wanted_yes (j := 34) (d := 149) ?_ ?_ s34 <;> rfl
    go_simp
   | 36, hoi, hom =>
    have l34 := haft _ rfl ⟨34, .guard⟩ (by simp) rfl
    have s34 : ao.tmps[149]?.getD undef = .bool true := (hU.slot 34 (by decide) l34).trans (hpv 34 l34)
    have l35 := haft _ rfl ⟨35, .data⟩ (by simp) rfl
    have s35 : ao.tmps[150]?.getD undef = .int .i64 0 := (hU.slot 35 (by decide) l35).trans (hpv 35 l35)
    refine wpOp_wanted (v := .bool true) (W' := W) rfl ?_ ?_ (hK _ _ (LKeep.refl _ _ _) rfl)
    · refine wanted_yes (j := 34) (d := 149) ?_ ?_ s34 <;> rfl
    go_simp
   | 37, hoi, hom =>
    have l34 := haft _ rfl ⟨34, .data⟩ (by simp) rfl
    have s34 : ao.tmps[149]?.getD undef = .bool true := (hU.slot 34 (by decide) l34).trans (hpv 34 l34)
    have l36 := haft _ rfl ⟨36, .data⟩ (by simp) rfl
    have s36 : ao.tmps[151]?.getD undef = .bool true := (hU.slot 36 (by decide) l36).trans (hpv 36 l36)
    refine wpOp_value (v := .bool true) (W' := W) rfl rfl ?_ (hK _ _ (LKeep.refl _ _ _) rfl)
    go_simp
   | 38, hoi, hom =>
    have l37 := haft _ rfl ⟨37, .data⟩ (by simp) rfl
    have s37 : ao.tmps[152]?.getD undef = .bool true := (hU.slot 37 (by decide) l37).trans (hpv 37 l37)
    refine wpOp_value (v := .bool true) (W' := W) rfl rfl ?_ (hK _ _ (LKeep.refl _ _ _) rfl)
    go_simp
   | 39, hoi, hom =>
    have l38 := haft _ rfl ⟨38, .guard⟩ (by simp) rfl
    have s38 : ao.tmps[153]?.getD undef = .bool true := (hU.slot 38 (by decide) l38).trans (hpv 38 l38)
    have z29 : ao.tmps[29]?.getD undef = .int .i64 0 := hU.same 29 (by decide)
    refine wpOp_wanted (v := .int .i64 0) (W' := W) rfl ?_ ?_ (hK _ _ (LKeep.refl _ _ _) rfl)
    · refine wanted_yes (j := 38) (d := 153) ?_ ?_ s38 <;> rfl
    go_simp
   | 40, hoi, hom =>
    have l38 := haft _ rfl ⟨38, .guard⟩ (by simp) rfl
    have s38 : ao.tmps[153]?.getD undef = .bool true := (hU.slot 38 (by decide) l38).trans (hpv 38 l38)
    have l39 := haft _ rfl ⟨39, .data⟩ (by simp) rfl
    have s39 : ao.tmps[154]?.getD undef = .int .i64 0 := (hU.slot 39 (by decide) l39).trans (hpv 39 l39)
    refine wpOp_wanted (v := .bool true) (W' := W) rfl ?_ ?_ (hK _ _ (LKeep.refl _ _ _) rfl)
    · refine wanted_yes (j := 38) (d := 153) ?_ ?_ s38 <;> rfl
    go_simp
   | 41, hoi, hom =>
    have l38 := haft _ rfl ⟨38, .data⟩ (by simp) rfl
    have s38 : ao.tmps[153]?.getD undef = .bool true := (hU.slot 38 (by decide) l38).trans (hpv 38 l38)
    have l40 := haft _ rfl ⟨40, .data⟩ (by simp) rfl
    have s40 : ao.tmps[155]?.getD undef = .bool true := (hU.slot 40 (by decide) l40).trans (hpv 40 l40)
    refine wpOp_value (v := .bool true) (W' := W) rfl rfl ?_ (hK _ _ (LKeep.refl _ _ _) rfl)
    go_simp
   | 42, hoi, hom =>
    have l41 := haft _ rfl ⟨41, .data⟩ (by simp) rfl
    have s41 : ao.tmps[156]?.getD undef = .bool true := (hU.slot 41 (by decide) l41).trans (hpv 41 l41)
    refine wpOp_value (v := .bool true) (W' := W) rfl rfl ?_ (hK _ _ (LKeep.refl _ _ _) rfl)
    go_simp
   | 43, hoi, hom =>
    have l42 := haft _ rfl ⟨42, .guard⟩ (by simp) rfl
    have s42 : ao.tmps[157]?.getD undef = .bool true := (hU.slot 42 (by decide) l42).trans (hpv 42 l42)
    have z31 : ao.tmps[31]?.getD undef = .int .i64 0 := hU.same 31 (by decide)
    refine wpOp_wanted (v := .int .i64 0) (W' := W) rfl ?_ ?_ (hK _ _ (LKeep.refl _ _ _) rfl)
    · refine wanted_yes (j := 42) (d := 157) ?_ ?_ s42 <;> rfl
    go_simp
   | 44, hoi, hom =>
    have l42 := haft _ rfl ⟨42, .guard⟩ (by simp) rfl
    have s42 : ao.tmps[157]?.getD undef = .bool true := (hU.slot 42 (by decide) l42).trans (hpv 42 l42)
    have l43 := haft _ rfl ⟨43, .data⟩ (by simp) rfl
    have s43 : ao.tmps[158]?.getD undef = .int .i64 0 := (hU.slot 43 (by decide) l43).trans (hpv 43 l43)
    refine wpOp_wanted (v := .bool true) (W' := W) rfl ?_ ?_ (hK _ _ (LKeep.refl _ _ _) rfl)
    · refine wanted_yes (j := 42) (d := 157) ?_ ?_ s42 <;> rfl
    go_simp
   | 45, hoi, hom =>
    have l42 := haft _ rfl ⟨42, .data⟩ (by simp) rfl
    have s42 : ao.tmps[157]?.getD undef = .bool true := (hU.slot 42 (by decide) l42).trans (hpv 42 l42)
    have l44 := haft _ rfl ⟨44, .data⟩ (by simp) rfl
    have s44 : ao.tmps[159]?.getD undef = .bool true := (hU.slot 44 (by decide) l44).trans (hpv 44 l44)
    refine wpOp_value (v := .bool true) (W' := W) rfl rfl ?_ (hK _ _ (LKeep.refl _ _ _) rfl)
    go_simp
   | 46, hoi, hom =>
    have l45 := haft _ rfl ⟨45, .data⟩ (by simp) rfl
    have s45 : ao.tmps[160]?.getD undef = .bool true := (hU.slot 45 (by decide) l45).trans (hpv 45 l45)
    refine wpOp_value (v := .bool true) (W' := W) rfl rfl ?_ (hK _ _ (LKeep.refl _ _ _) rfl)
    go_simp
   | 47, hoi, hom =>
    have l46 := haft _ rfl ⟨46, .guard⟩ (by simp) rfl
    have s46 : ao.tmps[161]?.getD undef = .bool true := (hU.slot 46 (by decide) l46).trans (hpv 46 l46)
    have z33 : ao.tmps[33]?.getD undef = .int .i64 8 := hU.same 33 (by decide)
    refine wpOp_wanted (v := .int .i64 8) (W' := W) rfl ?_ ?_ (hK _ _ (LKeep.refl _ _ _) rfl)
    · refine wanted_yes (j := 46) (d := 161) ?_ ?_ s46 <;> rfl
    go_simp
   | 48, hoi, hom =>
    have l46 := haft _ rfl ⟨46, .guard⟩ (by simp) rfl
    have s46 : ao.tmps[161]?.getD undef = .bool true := (hU.slot 46 (by decide) l46).trans (hpv 46 l46)
    have l47 := haft _ rfl ⟨47, .data⟩ (by simp) rfl
    have s47 : ao.tmps[162]?.getD undef = .int .i64 8 := (hU.slot 47 (by decide) l47).trans (hpv 47 l47)
    refine wpOp_wanted (v := .bool true) (W' := W) rfl ?_ ?_ (hK _ _ (LKeep.refl _ _ _) rfl)
    · refine wanted_yes (j := 46) (d := 161) ?_ ?_ s46 <;> rfl
    go_simp
   | 49, hoi, hom =>
    have l46 := haft _ rfl ⟨46, .data⟩ (by simp) rfl
    have s46 : ao.tmps[161]?.getD undef = .bool true := (hU.slot 46 (by decide) l46).trans (hpv 46 l46)
    have l48 := haft _ rfl ⟨48, .data⟩ (by simp) rfl
    have s48 : ao.tmps[163]?.getD undef = .bool true := (hU.slot 48 (by decide) l48).trans (hpv 48 l48)
    refine wpOp_value (v := .bool true) (W' := W) rfl rfl ?_ (hK _ _ (LKeep.refl _ _ _) rfl)
    go_simp
   | 50, hoi, hom =>
    have l49 := haft _ rfl ⟨49, .data⟩ (by simp) rfl
    have s49 : ao.tmps[164]?.getD undef = .bool true := (hU.slot 49 (by decide) l49).trans (hpv 49 l49)
    refine wpOp_value (v := .bool true) (W' := W) rfl rfl ?_ (hK _ _ (LKeep.refl _ _ _) rfl)
    go_simp
   | 51, hoi, hom =>
    have l50 := haft _ rfl ⟨50, .guard⟩ (by simp) rfl
    have s50 : ao.tmps[165]?.getD undef = .bool true := (hU.slot 50 (by decide) l50).trans (hpv 50 l50)
    have z35 : ao.tmps[35]?.getD undef = .int .i64 6 := hU.same 35 (by decide)
    refine wpOp_wanted (v := .int .i64 6) (W' := W) rfl ?_ ?_ (hK _ _ (LKeep.refl _ _ _) rfl)
    · refine wanted_yes (j := 50) (d := 165) ?_ ?_ s50 <;> rfl
    go_simp
   | 52, hoi, hom =>
    have l50 := haft _ rfl ⟨50, .guard⟩ (by simp) rfl
    have s50 : ao.tmps[165]?.getD undef = .bool true := (hU.slot 50 (by decide) l50).trans (hpv 50 l50)
    have l51 := haft _ rfl ⟨51, .data⟩ (by simp) rfl
    have s51 : ao.tmps[166]?.getD undef = .int .i64 6 := (hU.slot 51 (by decide) l51).trans (hpv 51 l51)
    refine wpOp_wanted (v := .bool true) (W' := W) rfl ?_ ?_ (hK _ _ (LKeep.refl _ _ _) rfl)
    · refine wanted_yes (j := 50) (d := 165) ?_ ?_ s50 <;> rfl
    go_simp
   | 53, hoi, hom =>
    have l50 := haft _ rfl ⟨50, .data⟩ (by simp) rfl
    have s50 : ao.tmps[165]?.getD undef = .bool true := (hU.slot 50 (by decide) l50).trans (hpv 50 l50)
    have l52 := haft _ rfl ⟨52, .data⟩ (by simp) rfl
    have s52 : ao.tmps[167]?.getD undef = .bool true := (hU.slot 52 (by decide) l52).trans (hpv 52 l52)
    refine wpOp_value (v := .bool true) (W' := W) rfl rfl ?_ (hK _ _ (LKeep.refl _ _ _) rfl)
    go_simp
   | 54, hoi, hom =>
    have l53 := haft _ rfl ⟨53, .data⟩ (by simp) rfl
    have s53 : ao.tmps[168]?.getD undef = .bool true := (hU.slot 53 (by decide) l53).trans (hpv 53 l53)
    refine wpOp_value (v := .bool true) (W' := W) rfl rfl ?_ (hK _ _ (LKeep.refl _ _ _) rfl)
    go_simp
   | 55, hoi, hom =>
    have l54 := haft _ rfl ⟨54, .guard⟩ (by simp) rfl
    have s54 : ao.tmps[169]?.getD undef = .bool true := (hU.slot 54 (by decide) l54).trans (hpv 54 l54)
    have z4 : ao.tmps[4]?.getD undef = .pointer (some ⟨s1, 0, none⟩) := hU.same 4 (by decide)
    have y0 := (hk.cell (b := s1) (o := 0) (sz1) (fun h => h)).trans (sa1)
    have y1 := (hk.cell (b := s1) (o := 1) (sz1) (fun h => h)).trans (sb1)
    refine wpOp_wanted (v := .agg #[.int .i64 39, .int .i64 41]) (W' := W) rfl ?_ ?_ (hK _ _ (LKeep.refl _ _ _) rfl)
    · refine wanted_yes (j := 54) (d := 169) ?_ ?_ s54 <;> rfl
    go_simp
   | 56, hoi, hom =>
    have l54 := haft _ rfl ⟨54, .guard⟩ (by simp) rfl
    have s54 : ao.tmps[169]?.getD undef = .bool true := (hU.slot 54 (by decide) l54).trans (hpv 54 l54)
    refine wpOp_enterW (f := 40) (args := #[.int .i64 39, .int .i64 41]) (W' := W) rfl ?_ ?_ ((span12_any 39 41 W).mono (fun e w'' h => ?_))
    · refine wanted_yes (j := 54) (d := 169) ?_ ?_ s54 <;> rfl
    · go_simp
    · obtain ⟨he, hbw⟩ := h
      exact ⟨_, he, hK _ _ (LKeep.below hbw (fun h => h)) rfl⟩
   | 57, hoi, hom =>
    have l54 := haft _ rfl ⟨54, .guard⟩ (by simp) rfl
    have s54 : ao.tmps[169]?.getD undef = .bool true := (hU.slot 54 (by decide) l54).trans (hpv 54 l54)
    have l55 := haft _ rfl ⟨55, .data⟩ (by simp) rfl
    have s55 : ao.tmps[170]?.getD undef = .agg #[.int .i64 39, .int .i64 41] := (hU.slot 55 (by decide) l55).trans (hpv 55 l55)
    have l56 := haft _ rfl ⟨56, .data⟩ (by simp) rfl
    have s56 : ao.tmps[171]?.getD undef = .agg #[.int .i64 39, .int .i64 41] := (hU.slot 56 (by decide) l56).trans (hpv 56 l56)
    refine wpOp_wanted (v := .bool true) (W' := W) rfl ?_ ?_ (hK _ _ (LKeep.refl _ _ _) rfl)
    · refine wanted_yes (j := 54) (d := 169) ?_ ?_ s54 <;> rfl
    go_simp
   | 58, hoi, hom =>
    have l54 := haft _ rfl ⟨54, .data⟩ (by simp) rfl
    have s54 : ao.tmps[169]?.getD undef = .bool true := (hU.slot 54 (by decide) l54).trans (hpv 54 l54)
    have l57 := haft _ rfl ⟨57, .data⟩ (by simp) rfl
    have s57 : ao.tmps[172]?.getD undef = .bool true := (hU.slot 57 (by decide) l57).trans (hpv 57 l57)
    refine wpOp_value (v := .bool true) (W' := W) rfl rfl ?_ (hK _ _ (LKeep.refl _ _ _) rfl)
    go_simp
   | 59, hoi, hom =>
    have l58 := haft _ rfl ⟨58, .data⟩ (by simp) rfl
    have s58 : ao.tmps[173]?.getD undef = .bool true := (hU.slot 58 (by decide) l58).trans (hpv 58 l58)
    refine wpOp_value (v := .bool true) (W' := W) rfl rfl ?_ (hK _ _ (LKeep.refl _ _ _) rfl)
    go_simp
   | 60, hoi, hom =>
    have l59 := haft _ rfl ⟨59, .guard⟩ (by simp) rfl
    have s59 : ao.tmps[174]?.getD undef = .bool true := (hU.slot 59 (by decide) l59).trans (hpv 59 l59)
    have z6 : ao.tmps[6]?.getD undef = .pointer (some ⟨s2, 0, none⟩) := hU.same 6 (by decide)
    have y0 := (hk.cell (b := s2) (o := 0) (sz2) (fun h => h)).trans (sa2)
    have y1 := (hk.cell (b := s2) (o := 1) (sz2) (fun h => h)).trans (sb2)
    refine wpOp_wanted (v := .agg #[.int .i64 19, .int .i64 20]) (W' := W) rfl ?_ ?_ (hK _ _ (LKeep.refl _ _ _) rfl)
    · refine wanted_yes (j := 59) (d := 174) ?_ ?_ s59 <;> rfl
    go_simp
   | 61, hoi, hom =>
    have l59 := haft _ rfl ⟨59, .guard⟩ (by simp) rfl
    have s59 : ao.tmps[174]?.getD undef = .bool true := (hU.slot 59 (by decide) l59).trans (hpv 59 l59)
    refine wpOp_enterW (f := 40) (args := #[.int .i64 19, .int .i64 20]) (W' := W) rfl ?_ ?_ ((span12_any 19 20 W).mono (fun e w'' h => ?_))
    · refine wanted_yes (j := 59) (d := 174) ?_ ?_ s59 <;> rfl
    · go_simp
    · obtain ⟨he, hbw⟩ := h
      exact ⟨_, he, hK _ _ (LKeep.below hbw (fun h => h)) rfl⟩
   | 62, hoi, hom =>
    have l59 := haft _ rfl ⟨59, .guard⟩ (by simp) rfl
    have s59 : ao.tmps[174]?.getD undef = .bool true := (hU.slot 59 (by decide) l59).trans (hpv 59 l59)
    have l60 := haft _ rfl ⟨60, .data⟩ (by simp) rfl
    have s60 : ao.tmps[175]?.getD undef = .agg #[.int .i64 19, .int .i64 20] := (hU.slot 60 (by decide) l60).trans (hpv 60 l60)
    have l61 := haft _ rfl ⟨61, .data⟩ (by simp) rfl
    have s61 : ao.tmps[176]?.getD undef = .agg #[.int .i64 19, .int .i64 20] := (hU.slot 61 (by decide) l61).trans (hpv 61 l61)
    refine wpOp_wanted (v := .bool true) (W' := W) rfl ?_ ?_ (hK _ _ (LKeep.refl _ _ _) rfl)
    · refine wanted_yes (j := 59) (d := 174) ?_ ?_ s59 <;> rfl
    go_simp
   | 63, hoi, hom =>
    have l59 := haft _ rfl ⟨59, .data⟩ (by simp) rfl
    have s59 : ao.tmps[174]?.getD undef = .bool true := (hU.slot 59 (by decide) l59).trans (hpv 59 l59)
    have l62 := haft _ rfl ⟨62, .data⟩ (by simp) rfl
    have s62 : ao.tmps[177]?.getD undef = .bool true := (hU.slot 62 (by decide) l62).trans (hpv 62 l62)
    refine wpOp_value (v := .bool true) (W' := W) rfl rfl ?_ (hK _ _ (LKeep.refl _ _ _) rfl)
    go_simp
   | 64, hoi, hom =>
    have l63 := haft _ rfl ⟨63, .data⟩ (by simp) rfl
    have s63 : ao.tmps[178]?.getD undef = .bool true := (hU.slot 63 (by decide) l63).trans (hpv 63 l63)
    refine wpOp_value (v := .bool true) (W' := W) rfl rfl ?_ (hK _ _ (LKeep.refl _ _ _) rfl)
    go_simp
   | 65, hoi, hom =>
    have l64 := haft _ rfl ⟨64, .guard⟩ (by simp) rfl
    have s64 : ao.tmps[179]?.getD undef = .bool true := (hU.slot 64 (by decide) l64).trans (hpv 64 l64)
    have z8 : ao.tmps[8]?.getD undef = .pointer (some ⟨s3, 0, none⟩) := hU.same 8 (by decide)
    have y0 := (hk.cell (b := s3) (o := 0) (sz3) (fun h => h)).trans (sa3)
    have y1 := (hk.cell (b := s3) (o := 1) (sz3) (fun h => h)).trans (sb3)
    refine wpOp_wanted (v := .agg #[.int .i64 0, .int .i64 4]) (W' := W) rfl ?_ ?_ (hK _ _ (LKeep.refl _ _ _) rfl)
    · refine wanted_yes (j := 64) (d := 179) ?_ ?_ s64 <;> rfl
    go_simp
   | 66, hoi, hom =>
    have l64 := haft _ rfl ⟨64, .guard⟩ (by simp) rfl
    have s64 : ao.tmps[179]?.getD undef = .bool true := (hU.slot 64 (by decide) l64).trans (hpv 64 l64)
    refine wpOp_enterW (f := 40) (args := #[.int .i64 0, .int .i64 4]) (W' := W) rfl ?_ ?_ ((span12_any 0 4 W).mono (fun e w'' h => ?_))
    · refine wanted_yes (j := 64) (d := 179) ?_ ?_ s64 <;> rfl
    · go_simp
    · obtain ⟨he, hbw⟩ := h
      exact ⟨_, he, hK _ _ (LKeep.below hbw (fun h => h)) rfl⟩
   | 67, hoi, hom =>
    have l64 := haft _ rfl ⟨64, .guard⟩ (by simp) rfl
    have s64 : ao.tmps[179]?.getD undef = .bool true := (hU.slot 64 (by decide) l64).trans (hpv 64 l64)
    have l65 := haft _ rfl ⟨65, .data⟩ (by simp) rfl
    have s65 : ao.tmps[180]?.getD undef = .agg #[.int .i64 0, .int .i64 4] := (hU.slot 65 (by decide) l65).trans (hpv 65 l65)
    have l66 := haft _ rfl ⟨66, .data⟩ (by simp) rfl
    have s66 : ao.tmps[181]?.getD undef = .agg #[.int .i64 0, .int .i64 4] := (hU.slot 66 (by decide) l66).trans (hpv 66 l66)
    refine wpOp_wanted (v := .bool true) (W' := W) rfl ?_ ?_ (hK _ _ (LKeep.refl _ _ _) rfl)
    · refine wanted_yes (j := 64) (d := 179) ?_ ?_ s64 <;> rfl
    go_simp
   | 68, hoi, hom =>
    have l64 := haft _ rfl ⟨64, .data⟩ (by simp) rfl
    have s64 : ao.tmps[179]?.getD undef = .bool true := (hU.slot 64 (by decide) l64).trans (hpv 64 l64)
    have l67 := haft _ rfl ⟨67, .data⟩ (by simp) rfl
    have s67 : ao.tmps[182]?.getD undef = .bool true := (hU.slot 67 (by decide) l67).trans (hpv 67 l67)
    refine wpOp_value (v := .bool true) (W' := W) rfl rfl ?_ (hK _ _ (LKeep.refl _ _ _) rfl)
    go_simp
   | 69, hoi, hom =>
    have l68 := haft _ rfl ⟨68, .data⟩ (by simp) rfl
    have s68 : ao.tmps[183]?.getD undef = .bool true := (hU.slot 68 (by decide) l68).trans (hpv 68 l68)
    refine wpOp_value (v := .bool true) (W' := W) rfl rfl ?_ (hK _ _ (LKeep.refl _ _ _) rfl)
    go_simp
   | 70, hoi, hom =>
    have l69 := haft _ rfl ⟨69, .guard⟩ (by simp) rfl
    have s69 : ao.tmps[184]?.getD undef = .bool true := (hU.slot 69 (by decide) l69).trans (hpv 69 l69)
    have z10 : ao.tmps[10]?.getD undef = .pointer (some ⟨s4, 0, none⟩) := hU.same 10 (by decide)
    have y0 := (hk.cell (b := s4) (o := 0) (sz4) (fun h => h)).trans (sa4)
    have y1 := (hk.cell (b := s4) (o := 1) (sz4) (fun h => h)).trans (sb4)
    refine wpOp_wanted (v := .agg #[.int .i64 3, .int .i64 4]) (W' := W) rfl ?_ ?_ (hK _ _ (LKeep.refl _ _ _) rfl)
    · refine wanted_yes (j := 69) (d := 184) ?_ ?_ s69 <;> rfl
    go_simp
   | 71, hoi, hom =>
    have l69 := haft _ rfl ⟨69, .guard⟩ (by simp) rfl
    have s69 : ao.tmps[184]?.getD undef = .bool true := (hU.slot 69 (by decide) l69).trans (hpv 69 l69)
    refine wpOp_enterW (f := 40) (args := #[.int .i64 3, .int .i64 4]) (W' := W) rfl ?_ ?_ ((span12_any 3 4 W).mono (fun e w'' h => ?_))
    · refine wanted_yes (j := 69) (d := 184) ?_ ?_ s69 <;> rfl
    · go_simp
    · obtain ⟨he, hbw⟩ := h
      exact ⟨_, he, hK _ _ (LKeep.below hbw (fun h => h)) rfl⟩
   | 72, hoi, hom =>
    have l69 := haft _ rfl ⟨69, .guard⟩ (by simp) rfl
    have s69 : ao.tmps[184]?.getD undef = .bool true := (hU.slot 69 (by decide) l69).trans (hpv 69 l69)
    have l70 := haft _ rfl ⟨70, .data⟩ (by simp) rfl
    have s70 : ao.tmps[185]?.getD undef = .agg #[.int .i64 3, .int .i64 4] := (hU.slot 70 (by decide) l70).trans (hpv 70 l70)
    have l71 := haft _ rfl ⟨71, .data⟩ (by simp) rfl
    have s71 : ao.tmps[186]?.getD undef = .agg #[.int .i64 3, .int .i64 4] := (hU.slot 71 (by decide) l71).trans (hpv 71 l71)
    refine wpOp_wanted (v := .bool true) (W' := W) rfl ?_ ?_ (hK _ _ (LKeep.refl _ _ _) rfl)
    · refine wanted_yes (j := 69) (d := 184) ?_ ?_ s69 <;> rfl
    go_simp
   | 73, hoi, hom =>
    have l69 := haft _ rfl ⟨69, .data⟩ (by simp) rfl
    have s69 : ao.tmps[184]?.getD undef = .bool true := (hU.slot 69 (by decide) l69).trans (hpv 69 l69)
    have l72 := haft _ rfl ⟨72, .data⟩ (by simp) rfl
    have s72 : ao.tmps[187]?.getD undef = .bool true := (hU.slot 72 (by decide) l72).trans (hpv 72 l72)
    refine wpOp_value (v := .bool true) (W' := W) rfl rfl ?_ (hK _ _ (LKeep.refl _ _ _) rfl)
    go_simp
   | 74, hoi, hom =>
    have l73 := haft _ rfl ⟨73, .data⟩ (by simp) rfl
    have s73 : ao.tmps[188]?.getD undef = .bool true := (hU.slot 73 (by decide) l73).trans (hpv 73 l73)
    refine wpOp_value (v := .bool true) (W' := W) rfl rfl ?_ (hK _ _ (LKeep.refl _ _ _) rfl)
    go_simp
   | 75, hoi, hom =>
    have l74 := haft _ rfl ⟨74, .guard⟩ (by simp) rfl
    have s74 : ao.tmps[189]?.getD undef = .bool true := (hU.slot 74 (by decide) l74).trans (hpv 74 l74)
    have z12 : ao.tmps[12]?.getD undef = .slice A1 0 p1 := hU.same 12 (by decide)
    refine wpOp_wanted (v := .slice A1 0 p1) (W' := W) rfl ?_ ?_ (hK _ _ (LKeep.refl _ _ _) rfl)
    · refine wanted_yes (j := 74) (d := 189) ?_ ?_ s74 <;> rfl
    go_simp
   | 76, hoi, hom =>
    have l74 := haft _ rfl ⟨74, .guard⟩ (by simp) rfl
    have s74 : ao.tmps[189]?.getD undef = .bool true := (hU.slot 74 (by decide) l74).trans (hpv 74 l74)
    have l75 := haft _ rfl ⟨75, .data⟩ (by simp) rfl
    have s75 : ao.tmps[190]?.getD undef = .slice A1 0 p1 := (hU.slot 75 (by decide) l75).trans (hpv 75 l75)
    refine wpOp_wanted (v := .int .i64 (0 : Nat)) (W' := W) rfl ?_ ?_ (hK _ _ (LKeep.refl _ _ _) rfl)
    · refine wanted_yes (j := 74) (d := 189) ?_ ?_ s74 <;> rfl
    go_simp
   | 77, hoi, hom =>
    have l74 := haft _ rfl ⟨74, .guard⟩ (by simp) rfl
    have s74 : ao.tmps[189]?.getD undef = .bool true := (hU.slot 74 (by decide) l74).trans (hpv 74 l74)
    have l76 := haft _ rfl ⟨76, .data⟩ (by simp) rfl
    have s76 : ao.tmps[191]?.getD undef = .int .i64 (0 : Nat) := (hU.slot 76 (by decide) l76).trans (hpv 76 l76)
    refine wpOp_wanted (v := .bool true) (W' := W) rfl ?_ ?_ (hK _ _ (LKeep.refl _ _ _) rfl)
    · refine wanted_yes (j := 74) (d := 189) ?_ ?_ s74 <;> rfl
    go_simp
   | 78, hoi, hom =>
    have l74 := haft _ rfl ⟨74, .data⟩ (by simp) rfl
    have s74 : ao.tmps[189]?.getD undef = .bool true := (hU.slot 74 (by decide) l74).trans (hpv 74 l74)
    have l77 := haft _ rfl ⟨77, .data⟩ (by simp) rfl
    have s77 : ao.tmps[192]?.getD undef = .bool true := (hU.slot 77 (by decide) l77).trans (hpv 77 l77)
    refine wpOp_value (v := .bool true) (W' := W) rfl rfl ?_ (hK _ _ (LKeep.refl _ _ _) rfl)
    go_simp
   | 79, hoi, hom =>
    have l78 := haft _ rfl ⟨78, .data⟩ (by simp) rfl
    have s78 : ao.tmps[193]?.getD undef = .bool true := (hU.slot 78 (by decide) l78).trans (hpv 78 l78)
    refine wpOp_value (v := .bool true) (W' := W) rfl rfl ?_ (hK _ _ (LKeep.refl _ _ _) rfl)
    go_simp
   | 80, hoi, hom =>
    have l79 := haft _ rfl ⟨79, .guard⟩ (by simp) rfl
    have s79 : ao.tmps[194]?.getD undef = .bool true := (hU.slot 79 (by decide) l79).trans (hpv 79 l79)
    have z13 : ao.tmps[13]?.getD undef = .slice A2 2 p2 := hU.same 13 (by decide)
    refine wpOp_wanted (v := .slice A2 2 p2) (W' := W) rfl ?_ ?_ (hK _ _ (LKeep.refl _ _ _) rfl)
    · refine wanted_yes (j := 79) (d := 194) ?_ ?_ s79 <;> rfl
    go_simp
   | 81, hoi, hom =>
    have l79 := haft _ rfl ⟨79, .guard⟩ (by simp) rfl
    have s79 : ao.tmps[194]?.getD undef = .bool true := (hU.slot 79 (by decide) l79).trans (hpv 79 l79)
    refine wpOp_wanted (v := .slice (some ⟨W.heap.size, 0, none⟩) 2 2) (W' := (W.alloc (.cells #[.int .i64 0, .int .i64 1] 3))) rfl ?_ ?_ (hK _ _ (LKeep.below ((Below.refl _ _).alloc (Nat.le_refl _) _) (fun h => h)) ⟨_, _, rfl, (IntsS.lit2 rfl 0 1).more (by simp)⟩)
    · refine wanted_yes (j := 79) (d := 194) ?_ ?_ s79 <;> rfl
    go_simp
   | 82, hoi, hom =>
    have l79 := haft _ rfl ⟨79, .guard⟩ (by simp) rfl
    have s79 : ao.tmps[194]?.getD undef = .bool true := (hU.slot 79 (by decide) l79).trans (hpv 79 l79)
    have l80 := haft _ rfl ⟨80, .data⟩ (by simp) rfl
    have s80 : ao.tmps[195]?.getD undef = .slice A2 2 p2 := (hU.slot 80 (by decide) l80).trans (hpv 80 l80)
    have l81 := haft _ rfl { on := 81, ground := .data } (by simp) rfl
    obtain ⟨gl81, cp81, hv81, hi81⟩ := hpv 81 l81
    have s81 : ao.tmps[196]?.getD undef = vs 81 := hU.slot 81 (by decide) l81
    rw [hv81] at s81
    have hc : Calls Tryz.prog 26 #[.slice A2 2 p2, .slice gl81 2 cp81] W fun e w => e = .returned (.bool true) ∧ Dr W w := (ints_any (M2.out.next (hk.below (B := k28.heap.size) (fun k h => h.elim) (Nat.le_refl _))) hi81).mono (fun e w h => by rw [show intsB [0, 1] [0, 1] = true from by decide] at h; exact h)
    refine wpOp_enterW (f := 26) (args := #[.slice A2 2 p2, .slice gl81 2 cp81]) (W' := W) rfl ?_ ?_ ((hc).mono (fun e w'' h => ?_))
    · refine wanted_yes (j := 79) (d := 194) ?_ ?_ s79 <;> rfl
    · go_simp
    · obtain ⟨he, hd⟩ := h
      exact ⟨_, he, hK _ _ (LKeep.below (hd.below _) (fun h => h)) rfl⟩
   | 83, hoi, hom =>
    have l79 := haft _ rfl ⟨79, .data⟩ (by simp) rfl
    have s79 : ao.tmps[194]?.getD undef = .bool true := (hU.slot 79 (by decide) l79).trans (hpv 79 l79)
    have l82 := haft _ rfl ⟨82, .data⟩ (by simp) rfl
    have s82 : ao.tmps[197]?.getD undef = .bool true := (hU.slot 82 (by decide) l82).trans (hpv 82 l82)
    refine wpOp_value (v := .bool true) (W' := W) rfl rfl ?_ (hK _ _ (LKeep.refl _ _ _) rfl)
    go_simp
   | 84, hoi, hom =>
    have l83 := haft _ rfl ⟨83, .data⟩ (by simp) rfl
    have s83 : ao.tmps[198]?.getD undef = .bool true := (hU.slot 83 (by decide) l83).trans (hpv 83 l83)
    refine wpOp_value (v := .bool true) (W' := W) rfl rfl ?_ (hK _ _ (LKeep.refl _ _ _) rfl)
    go_simp
   | 85, hoi, hom =>
    have l84 := haft _ rfl ⟨84, .guard⟩ (by simp) rfl
    have s84 : ao.tmps[199]?.getD undef = .bool true := (hU.slot 84 (by decide) l84).trans (hpv 84 l84)
    have z15 : ao.tmps[15]?.getD undef = .slice A3 2 p3 := hU.same 15 (by decide)
    refine wpOp_wanted (v := .slice A3 2 p3) (W' := W) rfl ?_ ?_ (hK _ _ (LKeep.refl _ _ _) rfl)
    · refine wanted_yes (j := 84) (d := 199) ?_ ?_ s84 <;> rfl
    go_simp
   | 86, hoi, hom =>
    have l84 := haft _ rfl ⟨84, .guard⟩ (by simp) rfl
    have s84 : ao.tmps[199]?.getD undef = .bool true := (hU.slot 84 (by decide) l84).trans (hpv 84 l84)
    refine wpOp_wanted (v := .slice (some ⟨W.heap.size, 0, none⟩) 2 2) (W' := (W.alloc (.cells #[.int .i64 0, .int .i64 1] 3))) rfl ?_ ?_ (hK _ _ (LKeep.below ((Below.refl _ _).alloc (Nat.le_refl _) _) (fun h => h)) ⟨_, _, rfl, (IntsS.lit2 rfl 0 1).more (by simp)⟩)
    · refine wanted_yes (j := 84) (d := 199) ?_ ?_ s84 <;> rfl
    go_simp
   | 87, hoi, hom =>
    have l84 := haft _ rfl ⟨84, .guard⟩ (by simp) rfl
    have s84 : ao.tmps[199]?.getD undef = .bool true := (hU.slot 84 (by decide) l84).trans (hpv 84 l84)
    have l85 := haft _ rfl ⟨85, .data⟩ (by simp) rfl
    have s85 : ao.tmps[200]?.getD undef = .slice A3 2 p3 := (hU.slot 85 (by decide) l85).trans (hpv 85 l85)
    have l86 := haft _ rfl { on := 86, ground := .data } (by simp) rfl
    obtain ⟨gl86, cp86, hv86, hi86⟩ := hpv 86 l86
    have s86 : ao.tmps[201]?.getD undef = vs 86 := hU.slot 86 (by decide) l86
    rw [hv86] at s86
    have hc : Calls Tryz.prog 26 #[.slice A3 2 p3, .slice gl86 2 cp86] W fun e w => e = .returned (.bool true) ∧ Dr W w := (ints_any (M3.out.next (hk.below (B := k28.heap.size) (fun k h => h.elim) (Nat.le_refl _))) hi86).mono (fun e w h => by rw [show intsB [0, 1] [0, 1] = true from by decide] at h; exact h)
    refine wpOp_enterW (f := 26) (args := #[.slice A3 2 p3, .slice gl86 2 cp86]) (W' := W) rfl ?_ ?_ ((hc).mono (fun e w'' h => ?_))
    · refine wanted_yes (j := 84) (d := 199) ?_ ?_ s84 <;> rfl
    · go_simp
    · obtain ⟨he, hd⟩ := h
      exact ⟨_, he, hK _ _ (LKeep.below (hd.below _) (fun h => h)) rfl⟩
   | 88, hoi, hom =>
    have l84 := haft _ rfl ⟨84, .data⟩ (by simp) rfl
    have s84 : ao.tmps[199]?.getD undef = .bool true := (hU.slot 84 (by decide) l84).trans (hpv 84 l84)
    have l87 := haft _ rfl ⟨87, .data⟩ (by simp) rfl
    have s87 : ao.tmps[202]?.getD undef = .bool true := (hU.slot 87 (by decide) l87).trans (hpv 87 l87)
    refine wpOp_value (v := .bool true) (W' := W) rfl rfl ?_ (hK _ _ (LKeep.refl _ _ _) rfl)
    go_simp
   | 89, hoi, hom =>
    have l88 := haft _ rfl ⟨88, .data⟩ (by simp) rfl
    have s88 : ao.tmps[203]?.getD undef = .bool true := (hU.slot 88 (by decide) l88).trans (hpv 88 l88)
    refine wpOp_value (v := .bool true) (W' := W) rfl rfl ?_ (hK _ _ (LKeep.refl _ _ _) rfl)
    go_simp
   | 90, hoi, hom =>
    have l89 := haft _ rfl ⟨89, .guard⟩ (by simp) rfl
    have s89 : ao.tmps[204]?.getD undef = .bool true := (hU.slot 89 (by decide) l89).trans (hpv 89 l89)
    have z18 : ao.tmps[18]?.getD undef = .int .i64 1 := hU.same 18 (by decide)
    refine wpOp_wanted (v := .int .i64 1) (W' := W) rfl ?_ ?_ (hK _ _ (LKeep.refl _ _ _) rfl)
    · refine wanted_yes (j := 89) (d := 204) ?_ ?_ s89 <;> rfl
    go_simp
   | 91, hoi, hom =>
    have l89 := haft _ rfl ⟨89, .guard⟩ (by simp) rfl
    have s89 : ao.tmps[204]?.getD undef = .bool true := (hU.slot 89 (by decide) l89).trans (hpv 89 l89)
    have l90 := haft _ rfl ⟨90, .data⟩ (by simp) rfl
    have s90 : ao.tmps[205]?.getD undef = .int .i64 1 := (hU.slot 90 (by decide) l90).trans (hpv 90 l90)
    refine wpOp_wanted (v := .bool true) (W' := W) rfl ?_ ?_ (hK _ _ (LKeep.refl _ _ _) rfl)
    · refine wanted_yes (j := 89) (d := 204) ?_ ?_ s89 <;> rfl
    go_simp
   | 92, hoi, hom =>
    have l89 := haft _ rfl ⟨89, .data⟩ (by simp) rfl
    have s89 : ao.tmps[204]?.getD undef = .bool true := (hU.slot 89 (by decide) l89).trans (hpv 89 l89)
    have l91 := haft _ rfl ⟨91, .data⟩ (by simp) rfl
    have s91 : ao.tmps[206]?.getD undef = .bool true := (hU.slot 91 (by decide) l91).trans (hpv 91 l91)
    refine wpOp_value (v := .bool true) (W' := W) rfl rfl ?_ (hK _ _ (LKeep.refl _ _ _) rfl)
    go_simp
   | 93, hoi, hom =>
    have l92 := haft _ rfl ⟨92, .data⟩ (by simp) rfl
    have s92 : ao.tmps[207]?.getD undef = .bool true := (hU.slot 92 (by decide) l92).trans (hpv 92 l92)
    refine wpOp_value (v := .bool true) (W' := W) rfl rfl ?_ (hK _ _ (LKeep.refl _ _ _) rfl)
    go_simp
   | 94, hoi, hom =>
    have l93 := haft _ rfl ⟨93, .guard⟩ (by simp) rfl
    have s93 : ao.tmps[208]?.getD undef = .bool true := (hU.slot 93 (by decide) l93).trans (hpv 93 l93)
    have z19 : ao.tmps[19]?.getD undef = .int .i64 3 := hU.same 19 (by decide)
    refine wpOp_wanted (v := .int .i64 3) (W' := W) rfl ?_ ?_ (hK _ _ (LKeep.refl _ _ _) rfl)
    · refine wanted_yes (j := 93) (d := 208) ?_ ?_ s93 <;> rfl
    go_simp
   | 95, hoi, hom =>
    have l93 := haft _ rfl ⟨93, .guard⟩ (by simp) rfl
    have s93 : ao.tmps[208]?.getD undef = .bool true := (hU.slot 93 (by decide) l93).trans (hpv 93 l93)
    have l94 := haft _ rfl ⟨94, .data⟩ (by simp) rfl
    have s94 : ao.tmps[209]?.getD undef = .int .i64 3 := (hU.slot 94 (by decide) l94).trans (hpv 94 l94)
    refine wpOp_wanted (v := .bool true) (W' := W) rfl ?_ ?_ (hK _ _ (LKeep.refl _ _ _) rfl)
    · refine wanted_yes (j := 93) (d := 208) ?_ ?_ s93 <;> rfl
    go_simp
   | 96, hoi, hom =>
    have l93 := haft _ rfl ⟨93, .data⟩ (by simp) rfl
    have s93 : ao.tmps[208]?.getD undef = .bool true := (hU.slot 93 (by decide) l93).trans (hpv 93 l93)
    have l95 := haft _ rfl ⟨95, .data⟩ (by simp) rfl
    have s95 : ao.tmps[210]?.getD undef = .bool true := (hU.slot 95 (by decide) l95).trans (hpv 95 l95)
    refine wpOp_value (v := .bool true) (W' := W) rfl rfl ?_ (hK _ _ (LKeep.refl _ _ _) rfl)
    go_simp
   | 97, hoi, hom =>
    have l96 := haft _ rfl ⟨96, .data⟩ (by simp) rfl
    have s96 : ao.tmps[211]?.getD undef = .bool true := (hU.slot 96 (by decide) l96).trans (hpv 96 l96)
    refine wpOp_value (v := .bool true) (W' := W) rfl rfl ?_ (hK _ _ (LKeep.refl _ _ _) rfl)
    go_simp
   | 98, hoi, hom =>
    have l97 := haft _ rfl ⟨97, .guard⟩ (by simp) rfl
    have s97 : ao.tmps[212]?.getD undef = .bool true := (hU.slot 97 (by decide) l97).trans (hpv 97 l97)
    have z24 : ao.tmps[24]?.getD undef = .slice A5 4 p5 := hU.same 24 (by decide)
    refine wpOp_wanted (v := .slice A5 4 p5) (W' := W) rfl ?_ ?_ (hK _ _ (LKeep.refl _ _ _) rfl)
    · refine wanted_yes (j := 97) (d := 212) ?_ ?_ s97 <;> rfl
    go_simp
   | 99, hoi, hom =>
    have l97 := haft _ rfl ⟨97, .guard⟩ (by simp) rfl
    have s97 : ao.tmps[212]?.getD undef = .bool true := (hU.slot 97 (by decide) l97).trans (hpv 97 l97)
    refine wpOp_wanted (v := .slice (some ⟨W.heap.size, 0, none⟩) 4 4) (W' := (W.alloc (.cells #[.int .i64 39, .int .i64 34, .int .i64 15, .int .i64 18] 3))) rfl ?_ ?_ (hK _ _ (LKeep.below ((Below.refl _ _).alloc (Nat.le_refl _) _) (fun h => h)) ⟨_, _, rfl, (IntsS.lit4 rfl 39 34 15 18).more (by simp)⟩)
    · refine wanted_yes (j := 97) (d := 212) ?_ ?_ s97 <;> rfl
    go_simp
   | 100, hoi, hom =>
    have l97 := haft _ rfl ⟨97, .guard⟩ (by simp) rfl
    have s97 : ao.tmps[212]?.getD undef = .bool true := (hU.slot 97 (by decide) l97).trans (hpv 97 l97)
    have l98 := haft _ rfl ⟨98, .data⟩ (by simp) rfl
    have s98 : ao.tmps[213]?.getD undef = .slice A5 4 p5 := (hU.slot 98 (by decide) l98).trans (hpv 98 l98)
    have l99 := haft _ rfl { on := 99, ground := .data } (by simp) rfl
    obtain ⟨gl99, cp99, hv99, hi99⟩ := hpv 99 l99
    have s99 : ao.tmps[214]?.getD undef = vs 99 := hU.slot 99 (by decide) l99
    rw [hv99] at s99
    have hc : Calls Tryz.prog 26 #[.slice A5 4 p5, .slice gl99 4 cp99] W fun e w => e = .returned (.bool true) ∧ Dr W w := (ints_any (M5.out.next (hk.below (B := k28.heap.size) (fun k h => h.elim) (Nat.le_refl _))) hi99).mono (fun e w h => by rw [show intsB [39, 34, 15, 18] [39, 34, 15, 18] = true from by decide] at h; exact h)
    refine wpOp_enterW (f := 26) (args := #[.slice A5 4 p5, .slice gl99 4 cp99]) (W' := W) rfl ?_ ?_ ((hc).mono (fun e w'' h => ?_))
    · refine wanted_yes (j := 97) (d := 212) ?_ ?_ s97 <;> rfl
    · go_simp
    · obtain ⟨he, hd⟩ := h
      exact ⟨_, he, hK _ _ (LKeep.below (hd.below _) (fun h => h)) rfl⟩
   | 101, hoi, hom =>
    have l97 := haft _ rfl ⟨97, .data⟩ (by simp) rfl
    have s97 : ao.tmps[212]?.getD undef = .bool true := (hU.slot 97 (by decide) l97).trans (hpv 97 l97)
    have l100 := haft _ rfl ⟨100, .data⟩ (by simp) rfl
    have s100 : ao.tmps[215]?.getD undef = .bool true := (hU.slot 100 (by decide) l100).trans (hpv 100 l100)
    refine wpOp_value (v := .bool true) (W' := W) rfl rfl ?_ (hK _ _ (LKeep.refl _ _ _) rfl)
    go_simp
   | 102, hoi, hom =>
    have l101 := haft _ rfl ⟨101, .data⟩ (by simp) rfl
    have s101 : ao.tmps[216]?.getD undef = .bool true := (hU.slot 101 (by decide) l101).trans (hpv 101 l101)
    refine wpOp_value (v := .bool true) (W' := W) rfl rfl ?_ (hK _ _ (LKeep.refl _ _ _) rfl)
    go_simp
   | 103, hoi, hom =>
    have l102 := haft _ rfl ⟨102, .guard⟩ (by simp) rfl
    have s102 : ao.tmps[217]?.getD undef = .bool true := (hU.slot 102 (by decide) l102).trans (hpv 102 l102)
    have z26 : ao.tmps[26]?.getD undef = .slice A6 1 p6 := hU.same 26 (by decide)
    refine wpOp_wanted (v := .slice A6 1 p6) (W' := W) rfl ?_ ?_ (hK _ _ (LKeep.refl _ _ _) rfl)
    · refine wanted_yes (j := 102) (d := 217) ?_ ?_ s102 <;> rfl
    go_simp
   | 104, hoi, hom =>
    have l102 := haft _ rfl ⟨102, .guard⟩ (by simp) rfl
    have s102 : ao.tmps[217]?.getD undef = .bool true := (hU.slot 102 (by decide) l102).trans (hpv 102 l102)
    refine wpOp_wanted (v := .slice (some ⟨W.heap.size, 0, none⟩) 1 1) (W' := (W.alloc (.cells #[.int .i64 3] 3))) rfl ?_ ?_ (hK _ _ (LKeep.below ((Below.refl _ _).alloc (Nat.le_refl _) _) (fun h => h)) ⟨_, _, rfl, (IntsS.lit1 rfl 3).more (by simp)⟩)
    · refine wanted_yes (j := 102) (d := 217) ?_ ?_ s102 <;> rfl
    go_simp
   | 105, hoi, hom =>
    have l102 := haft _ rfl ⟨102, .guard⟩ (by simp) rfl
    have s102 : ao.tmps[217]?.getD undef = .bool true := (hU.slot 102 (by decide) l102).trans (hpv 102 l102)
    have l103 := haft _ rfl ⟨103, .data⟩ (by simp) rfl
    have s103 : ao.tmps[218]?.getD undef = .slice A6 1 p6 := (hU.slot 103 (by decide) l103).trans (hpv 103 l103)
    have l104 := haft _ rfl { on := 104, ground := .data } (by simp) rfl
    obtain ⟨gl104, cp104, hv104, hi104⟩ := hpv 104 l104
    have s104 : ao.tmps[219]?.getD undef = vs 104 := hU.slot 104 (by decide) l104
    rw [hv104] at s104
    have hc : Calls Tryz.prog 26 #[.slice A6 1 p6, .slice gl104 1 cp104] W fun e w => e = .returned (.bool true) ∧ Dr W w := (ints_any (M6.out.next (hk.below (B := k28.heap.size) (fun k h => h.elim) (Nat.le_refl _))) hi104).mono (fun e w h => by rw [show intsB [3] [3] = true from by decide] at h; exact h)
    refine wpOp_enterW (f := 26) (args := #[.slice A6 1 p6, .slice gl104 1 cp104]) (W' := W) rfl ?_ ?_ ((hc).mono (fun e w'' h => ?_))
    · refine wanted_yes (j := 102) (d := 217) ?_ ?_ s102 <;> rfl
    · go_simp
    · obtain ⟨he, hd⟩ := h
      exact ⟨_, he, hK _ _ (LKeep.below (hd.below _) (fun h => h)) rfl⟩
   | 106, hoi, hom =>
    have l102 := haft _ rfl ⟨102, .data⟩ (by simp) rfl
    have s102 : ao.tmps[217]?.getD undef = .bool true := (hU.slot 102 (by decide) l102).trans (hpv 102 l102)
    have l105 := haft _ rfl ⟨105, .data⟩ (by simp) rfl
    have s105 : ao.tmps[220]?.getD undef = .bool true := (hU.slot 105 (by decide) l105).trans (hpv 105 l105)
    refine wpOp_value (v := .bool true) (W' := W) rfl rfl ?_ (hK _ _ (LKeep.refl _ _ _) rfl)
    go_simp
   | 107, hoi, hom =>
    have l106 := haft _ rfl ⟨106, .data⟩ (by simp) rfl
    have s106 : ao.tmps[221]?.getD undef = .bool true := (hU.slot 106 (by decide) l106).trans (hpv 106 l106)
    refine wpOp_value (v := .bool true) (W' := W) rfl rfl ?_ (hK _ _ (LKeep.refl _ _ _) rfl)
    go_simp
   | 108, hoi, hom =>
    have l107 := haft _ rfl ⟨107, .guard⟩ (by simp) rfl
    have s107 : ao.tmps[222]?.getD undef = .bool true := (hU.slot 107 (by decide) l107).trans (hpv 107 l107)
    have z28 : ao.tmps[28]?.getD undef = .string ⟨textX.toArray⟩ := hU.same 28 (by decide)
    refine wpOp_wanted (v := .string ⟨textX.toArray⟩) (W' := W) rfl ?_ ?_ (hK _ _ (LKeep.refl _ _ _) rfl)
    · refine wanted_yes (j := 107) (d := 222) ?_ ?_ s107 <;> rfl
    go_simp
   | 109, hoi, hom =>
    have l107 := haft _ rfl ⟨107, .guard⟩ (by simp) rfl
    have s107 : ao.tmps[222]?.getD undef = .bool true := (hU.slot 107 (by decide) l107).trans (hpv 107 l107)
    have l108 := haft _ rfl ⟨108, .data⟩ (by simp) rfl
    have s108 : ao.tmps[223]?.getD undef = .string ⟨textX.toArray⟩ := (hU.slot 108 (by decide) l108).trans (hpv 108 l108)
    refine wpOp_wanted (v := .bool true) (W' := W) rfl ?_ ?_ (hK _ _ (LKeep.refl _ _ _) rfl)
    · refine wanted_yes (j := 107) (d := 222) ?_ ?_ s107 <;> rfl
    go_simp
    rfl
   | 110, hoi, hom =>
    have l107 := haft _ rfl ⟨107, .data⟩ (by simp) rfl
    have s107 : ao.tmps[222]?.getD undef = .bool true := (hU.slot 107 (by decide) l107).trans (hpv 107 l107)
    have l109 := haft _ rfl ⟨109, .data⟩ (by simp) rfl
    have s109 : ao.tmps[224]?.getD undef = .bool true := (hU.slot 109 (by decide) l109).trans (hpv 109 l109)
    refine wpOp_value (v := .bool true) (W' := W) rfl rfl ?_ (hK _ _ (LKeep.refl _ _ _) rfl)
    go_simp
   | 111, hoi, hom =>
    have l110 := haft _ rfl ⟨110, .data⟩ (by simp) rfl
    have s110 : ao.tmps[225]?.getD undef = .bool true := (hU.slot 110 (by decide) l110).trans (hpv 110 l110)
    refine wpOp_value (v := .bool true) (W' := W) rfl rfl ?_ (hK _ _ (LKeep.refl _ _ _) rfl)
    go_simp
   | 112, hoi, hom =>
    have l111 := haft _ rfl ⟨111, .guard⟩ (by simp) rfl
    have s111 : ao.tmps[226]?.getD undef = .bool true := (hU.slot 111 (by decide) l111).trans (hpv 111 l111)
    have z30 : ao.tmps[30]?.getD undef = .pointer (some ⟨gBR, 0, none⟩) := hU.same 30 (by decide)
    have y0 := (hk.cell (b := gBR) (o := 0) (xb1) (fun h => h)).trans (xb2)
    have y1 := (hk.cell (b := gBR) (o := 1) (xb1) (fun h => h)).trans (xb3)
    refine wpOp_wanted (v := .agg #[.slice aR.A1 bq.steps.length aR.c1, .slice aR.A2 bq.tallies.length aR.c2]) (W' := W) rfl ?_ ?_ (hK _ _ (LKeep.refl _ _ _) rfl)
    · refine wanted_yes (j := 111) (d := 226) ?_ ?_ s111 <;> rfl
    go_simp
   | 113, hoi, hom =>
    have l111 := haft _ rfl ⟨111, .guard⟩ (by simp) rfl
    have s111 : ao.tmps[226]?.getD undef = .bool true := (hU.slot 111 (by decide) l111).trans (hpv 111 l111)
    have z2 : ao.tmps[2]?.getD undef = .pointer (some ⟨g + 1, 0, none⟩) := hU.same 2 (by decide)
    have y0 := (hk.cell (b := g + 1) (o := 0) (xc1) (fun h => h)).trans (xc2)
    have y1 := (hk.cell (b := g + 1) (o := 1) (xc1) (fun h => h)).trans (xc3)
    refine wpOp_wanted (v := .agg #[.slice aC.A1 bq.steps.length aC.c1, .slice aC.A2 bq.tallies.length aC.c2]) (W' := W) rfl ?_ ?_ (hK _ _ (LKeep.refl _ _ _) rfl)
    · refine wanted_yes (j := 111) (d := 226) ?_ ?_ s111 <;> rfl
    go_simp
   | 114, hoi, hom =>
    have l111 := haft _ rfl ⟨111, .guard⟩ (by simp) rfl
    have s111 : ao.tmps[226]?.getD undef = .bool true := (hU.slot 111 (by decide) l111).trans (hpv 111 l111)
    have l112 := haft _ rfl ⟨112, .data⟩ (by simp) rfl
    have s112 : ao.tmps[227]?.getD undef = .agg #[.slice aR.A1 bq.steps.length aR.c1, .slice aR.A2 bq.tallies.length aR.c2] := (hU.slot 112 (by decide) l112).trans (hpv 112 l112)
    have l113 := haft _ rfl ⟨113, .data⟩ (by simp) rfl
    have s113 : ao.tmps[228]?.getD undef = .agg #[.slice aC.A1 bq.steps.length aC.c1, .slice aC.A2 bq.tallies.length aC.c2] := (hU.slot 113 (by decide) l113).trans (hpv 113 l113)
    have hc : Calls Tryz.prog 37 #[bookVal bq aR, bookVal bq aC] W fun e w => e = .returned (.bool true) ∧ Below W.heap.size W w := (equal_any (XR.out.next (hk.below (B := k28.heap.size) (fun k h => h.elim) (Nat.le_refl _))) (XC.out.next (hk.below (B := k28.heap.size) (fun k h => h.elim) (Nat.le_refl _)))).mono (fun e w h => by rw [XE.out] at h; exact h)
    refine wpOp_enterW (f := 37) (args := #[bookVal bq aR, bookVal bq aC]) (W' := W) rfl ?_ ?_ ((hc).mono (fun e w'' h => ?_))
    · refine wanted_yes (j := 111) (d := 226) ?_ ?_ s111 <;> rfl
    · go_simp
    · obtain ⟨he, hbw⟩ := h
      exact ⟨_, he, hK _ _ (LKeep.below hbw (fun h => h)) rfl⟩
   | 115, hoi, hom =>
    have l111 := haft _ rfl ⟨111, .data⟩ (by simp) rfl
    have s111 : ao.tmps[226]?.getD undef = .bool true := (hU.slot 111 (by decide) l111).trans (hpv 111 l111)
    have l114 := haft _ rfl ⟨114, .data⟩ (by simp) rfl
    have s114 : ao.tmps[229]?.getD undef = .bool true := (hU.slot 114 (by decide) l114).trans (hpv 114 l114)
    refine wpOp_value (v := .bool true) (W' := W) rfl rfl ?_ (hK _ _ (LKeep.refl _ _ _) rfl)
    go_simp
   | 116, hoi, hom =>
    have l115 := haft _ rfl ⟨115, .data⟩ (by simp) rfl
    have s115 : ao.tmps[230]?.getD undef = .bool true := (hU.slot 115 (by decide) l115).trans (hpv 115 l115)
    refine wpOp_value (v := .bool true) (W' := W) rfl rfl ?_ (hK _ _ (LKeep.refl _ _ _) rfl)
    go_simp
   | oi + 117, hoi, hom => exact absurd (of_decide_eq_true hom) (by omega)
  case hend =>
   intro listed vs ao W hG hGU hk0 hpv hpre
   have hkk := (LKeep.drew (fun _ => False) (M := fun _ => True) k28 (fun h => h)).trans hk0
   have hk := hkk.1
   have hkm := hkk.2
   clear hkk
   have hT := hG.lst hpre 0 #[true, true, true, true, true, true, true, true, true, true, true, true, true, true, true, true, true, true, true, true, true, true, true, true, true, true, true, true, true, true, true, true, true, true, true, true, true, true, true, true, true, true, true, true, true, true, true, true, true, true, true, true, true, true, true, true, true, true, true, true, true, true, true, true, true, true, true, true, true, true, true, true, true, true, true, true, true, true, true, true, true, true, true, true, true, true, true, true, true, true, true, true, true, true, true, true, true, true, true, true, true, true, true, true, true, true, true, true, true, true, true, true, true, true, true, true, true] rfl (by kernel_rfl) (hpre 0 (by decide) (by decide))
   have h0 : ao.tmps[0]?.getD undef = vs 116 := hGU.slot 116 (by decide) (hpre 116 (by decide) (by decide))
   have hv : vs 116 = .bool true := hpv 116 (hpre 116 (by decide) (by decide))
   have hdf := hG.defers
   rw [hG.lo hT (k := 0) (by kernel_rfl)]
   subst hT
   refine wpAny_done (by kernel_rfl) ?_ _
   exact ⟨rfl, h0.trans hv, hdf, hk⟩
 case imp =>
  rintro ⟨tm, df⟩ W ⟨h0, hd, hk⟩
  simp only at h0 hd
  subst hd
  have HBZ := hide (HB.out.trans ((hk.below (B := k28.heap.size) (fun k h => h.elim) (Nat.le_refl _)).mono HB.out.size))
  clear hk
  go_wp2_with fail
  exact bodyPost_ret (v := .bool true) (by simp [results, Tryz.results23, go_sem, h0]) rfl ⟨rfl, HBZ.out⟩
end Go.Proofs.YtocdmkilnbpkdaaGreatDoor
