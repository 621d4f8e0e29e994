/- some of the law; LedgerMissing. -/
import Derived.Test.YtocdmkilnbpkdaaGreatDoorIA
import Derived.Test.YtocdmkilnbpkdaaGreatDoorQB
import Derived.OwnWalkIn
import Derived.OwnWalk
import Derived.Laws.AppendOwn
import Derived.Laws.StructEq
import Derived.TacticsInMore
import Derived.Deep.DeepCutAuto
set_option linter.unusedVariables false
set_option linter.unusedSimpArgs false
namespace Go.Proofs.YtocdmkilnbpkdaaGreatDoor
open Go.RowKit
attribute [local go_sem] Oper.semAt_some

def someV (b : Book) : Bool := decide ((checkM b).2.2 = 0) && someB b (fun _ => false)
theorem hasInt_nil : (fun q : Nat => hasInt [] (q : Int)) = fun _ => false := rfl
theorem valid12_good {b : Book} (h : (checkM b).2.2 = 0) : Good b ∧ b.tallies.length ≤ 12 := ⟨(valid_of h).good, by have := (valid_of h).tallies; omega⟩
set_option maxRecDepth 100000 in
theorem some12L_any {b : Book} {a : BA} {w : World} (h : BookV w w.heap.size b a) :
 Calls Tryz.prog 47 #[bookVal b a] w fun e w' => e = .returned (.bool (someV b)) ∧ Below w.heap.size w w' := by
 have HX := hide (BoxB.made h)
 have HB := hide (show Below w.heap.size w (w.alloc (.cells (bookCells b a) 25)) from (Below.refl _ _).alloc (Nat.le_refl _) _)
 clear h
 go_enter Tryz.func47, Tryz.ntmps47
 go_upto_region 1 with (fail)
 generalize (w.alloc (.cells (bookCells b a) 25)) = v0 at *
 obtain ⟨z, x0, x1⟩ := HX.out.cells
 by_cases hv : (checkM b).2.2 = 0
 · have HV := hide (show decide ((checkM b).2.2 = 0) = true by rw [hv]; rfl)
   have HG := hide (valid12_good hv)
   have HS := hide (show someV b = someB b (hasInt [] ·) by rw [someV, hv]; rfl)
   clear hv
   go_wp2_with (go_at_call 41; refine (valid12_any HX.out.v).mono ?_; rintro e v1 ⟨rfl, hb⟩; rw [HV.out]; have HX1 := hide (HX.out.next hb); obtain ⟨z1, y0, y1⟩ := HX1.out.cells)
   refine (some12_any HX1.out.v HG.out.1 HG.out.2 (IntsS.nil_ (w := v1))).mono ?_
   rintro e v2 ⟨rfl, hb2⟩
   rw [← HS.out]
   go_wp2_with fail
   go_ret
   exact ⟨rfl, (HB.out.trans (hb.mono HB.out.size)).trans (hb2.mono (Nat.le_trans HB.out.size hb.size))⟩
 · have HV := hide (show decide ((checkM b).2.2 = 0) = false from decide_eq_false hv)
   have HS := hide (show someV b = false by rw [someV, decide_eq_false hv]; rfl)
   clear hv
   go_wp2_with (go_at_call 41; refine (valid12_any HX.out.v).mono ?_; rintro e v1 ⟨rfl, hb⟩; rw [HV.out])
   go_ret
   exact ⟨by rw [HS.out]; rfl, HB.out.trans (hb.mono HB.out.size)⟩
theorem someV_enter {b : Book} : someV b = decide (enterK b 0 = 0) := by
 rw [Bool.eq_iff_iff, decide_eq_true_eq]
 constructor
 · intro h
   rw [someV, Bool.and_eq_true, decide_eq_true_eq] at h
   have := (valid_of h.1).pos
   rw [enterK, if_neg (by rw [h.1]; simp), if_neg (by simp [offP]; omega), if_pos h.2]
 · intro h
   obtain ⟨h1, _, h2⟩ := enterK_zero h
   rw [someV, check_of h1, h2]; rfl
theorem enter_at {b : Book} (h : someV b = true) {i : Nat} (hi : i < b.steps.length) : enterK b i = 0 := by
 rw [someV_enter, decide_eq_true_eq] at h
 obtain ⟨h1, _, h2⟩ := enterK_zero h
 rw [enterK, if_neg (by rw [check_of h1]; simp), if_neg (by simp [offP]; omega), if_pos h2]
theorem some_good {b : Book} (h : someV b = true) : Good b ∧ someB b (fun _ => false) = true := by
 rw [someV, Bool.and_eq_true, decide_eq_true_eq] at h
 exact ⟨(valid_of h.1).good, h.2⟩
theorem lost_facts {b : Book} (h : someV b = true) {i : Nat} (hi : i < b.steps.length) : 0 ≤ (lostB b i).lo ∧ (lostB b i).lo ≤ (lostB b i).hi ∧ (lostB b i).hi ≤ (nth b.steps i).loss :=
 lost_in (some_good h).1.way (cB_99 b _) (u_ne (some_good h).1.way (some_good h).2) hi
theorem rising_from (p : Nat → Bool) : ∀ (k s n : Nat), s + k ≤ n → risingB (natInts ((List.range' s k).filter p)) ((s : Int) - 1) n = true
 | 0, _, _, _ => rfl
 | k + 1, s, n, h => by
  rw [List.range'_succ, List.filter_cons]
  have ih := rising_from p k (s + 1) n (by omega)
  have e : ((s + 1 : Nat) : Int) - 1 = s := by omega
  rw [e] at ih
  split
  · rw [natInts, List.map_cons, risingB, if_neg (by omega)]
    exact ih
  · have weak : ∀ (l : List Int) (a a' : Int), a' ≤ a → risingB l a n = true → risingB l a' n = true := fun l a a' ha => by
     cases l with
     | nil => exact fun _ => rfl
     | cons x l =>
      rw [risingB, risingB]
      intro hh
      split at hh
      · cases hh
      · rename_i hc
        rw [if_neg (by omega)]; exact hh
    exact weak _ _ _ (by omega) ih
theorem rising_filter (p : Nat → Bool) (n : Nat) : risingB (natInts ((List.range n).filter p)) (-1) n = true := by
 have := rising_from p n 0 n (by omega)
 rw [← List.range_eq_range'] at this
 exact this
theorem has_filter (p : Nat → Bool) {n i : Nat} (hi : i < n) : hasInt (natInts ((List.range n).filter p)) i = p i := by
 rw [Bool.eq_iff_iff, hasInt, natInts, List.any_eq_true]
 constructor
 · rintro ⟨x, hx, e⟩
   obtain ⟨y, hy, rfl⟩ := List.mem_map.1 hx
   rw [beq_iff_eq] at e
   have : y = i := by omega
   subst this
   exact (List.mem_filter.1 hy).2
 · intro h
   exact ⟨(i : Int), List.mem_map.2 ⟨i, List.mem_filter.2 ⟨List.mem_range.2 hi, h⟩, rfl⟩, by simp⟩
theorem sure_has {b : Book} {i : Nat} (hi : i < b.steps.length) : hasInt (natInts (sureTo b b.steps.length)) i = decide (0 < (lostB b i).lo) := has_filter _ hi
theorem may_has {b : Book} (h : someV b = true) {i : Nat} (hi : i < b.steps.length) : hasInt (natInts (mayTo b b.steps.length)) i = decide (0 < (lostB b i).hi) := by
 rw [mayTo, has_filter _ hi, Bool.eq_iff_iff, Bool.not_eq_true', decide_eq_true_eq, ← Bool.not_eq_true, spanB_iff]
 have := lost_facts h hi
 constructor
 · intro hn
   apply Classical.byContradiction
   intro h2
   apply hn
   have e1 : (lostB b i).lo = 0 := by omega
   have e2 : (lostB b i).hi = 0 := by omega
   generalize lostB b i = z at *
   cases z; simp only at e1 e2; rw [e1, e2]
 · intro h1 e
   rw [e] at h1; simp at h1
theorem where_pos (b : Book) : ∀ j, 0 ≤ (whereTo b j).2
 | 0 => Int.le_refl 0
 | j + 1 => by rw [whereTo]; have := where_pos b j; split <;> (try dsimp only) <;> omega
set_option maxHeartbeats 600000 in
set_option maxRecDepth 100000 in
theorem ledgerMissing_any {m : Int} {b : Book} {a : BA} {w : World} (hm : w.cell? ⟨0, 0, none⟩ = some (.int .i64 m)) (hw0 : 0 < w.heap.size) (h : BookV w w.heap.size b a) :
 Calls Tryz.prog 13 #[bookVal b a] w fun e w' => e = .returned (.bool true) ∧ Below w.heap.size w w' := by
 have hb0 : Below w.heap.size w (w.alloc (.cells (bookCells b a) 25)) := (Below.refl _ _).alloc (Nat.le_refl _) _
 have HX := hide (BoxB.made h)
 have HG := hide ((hb0.cell (p := ⟨0, 0, none⟩) hw0).trans hm)
 have HB := hide hb0
 have hz0 := Nat.lt_of_lt_of_le hw0 hb0.size
 clear h hm hb0 hw0
 go_enter Tryz.func13, Tryz.ntmps13
 go_upto_region 1 with (fail)
 generalize w.alloc (.cells (bookCells b a) 25) = w0 at *
 cases hv : someV b with
 | false =>
  have hk : enterK b 0 ≠ 0 := by rw [someV_enter] at hv; exact of_decide_eq_false hv
  have HM := hide (show missV b = ([], [], enterK b 0) by rw [missV, if_neg hk])
  have HW := hide (where_no hk)
  have HV := hide hv
  generalize hE : enterK b 0 = E at *
  have hd : (E != 0) = true := by simp [hk]
  have hd2 : (E == 0) = false := by simp [hk]
  clear hk hv hE
  obtain ⟨gx, x0, x1⟩ := HX.out.cells
  go_upto_region 2 with (go_at_call 24; refine (missing_any HX.out.v).mono ?_; rintro e y1 ⟨A, c, A', c', rfl, hi, hi', hb⟩; rw [HM.out] at hi hi'; rw [HM.out])
  clear gx x0 x1
  replace HG := hide ((hb.cell (p := ⟨0, 0, none⟩) hz0).trans HG.out)
  replace HB := hide (HB.out.trans (hb.mono HB.out.size))
  replace HX := hide (HX.out.next hb)
  replace hz0 := Nat.lt_of_lt_of_le hz0 hb.size
  clear hb
  clear hi hi'
  obtain ⟨gx, x0, x1⟩ := HX.out.cells
  go_upto_region 3 with (go_at_call 27; refine (where_any HX.out.v).mono ?_; rintro e y2 ⟨rfl, hb⟩; rw [HW.out])
  clear gx x0 x1
  replace HG := hide ((hb.cell (p := ⟨0, 0, none⟩) hz0).trans HG.out)
  replace HB := hide (HB.out.trans (hb.mono HB.out.size))
  replace HX := hide (HX.out.next hb)
  replace hz0 := Nat.lt_of_lt_of_le hz0 hb.size
  clear hb
  obtain ⟨gx, x0, x1⟩ := HX.out.cells
  go_upto_region 4 with (go_at_call 47; refine (some12L_any HX.out.v).mono ?_; rintro e y3 ⟨rfl, hb⟩; rw [HV.out])
  clear gx x0 x1
  replace HG := hide ((hb.cell (p := ⟨0, 0, none⟩) hz0).trans HG.out)
  replace HB := hide (HB.out.trans (hb.mono HB.out.size))
  replace HX := hide (HX.out.next hb)
  replace hz0 := Nat.lt_of_lt_of_le hz0 hb.size
  clear hb
  obtain ⟨gx, x0, x1⟩ := HX.out.cells
  go_wp2_with (first | (go_at_call 23; refine (awake12_any HG.out hz0).mono ?_; rintro e y4 ⟨rfl, hb⟩))
  go_ret
  exact ⟨rfl, HB.out.trans (hb.mono HB.out.size)⟩
 | true =>
  have hk : enterK b 0 = 0 := by rw [someV_enter] at hv; exact of_decide_eq_true hv
  have h6 := (some_good hv).1.six
  have HM := hide (show missV b = (sureTo b b.steps.length, mayTo b b.steps.length, 0) by rw [missV, if_pos hk])
  have HW := hide (where_yes hk)
  have HV := hide hv
  have HR1 := hide (show risingB (natInts (sureTo b b.steps.length)) (-1) b.steps.length = true from rising_filter _ _)
  have HR2 := hide (show risingB (natInts (mayTo b b.steps.length)) (-1) b.steps.length = true from rising_filter _ _)
  have HS1 := hide (fun i (hi : i < b.steps.length) => sure_has hi)
  have HS2 := hide (fun i (hi : i < b.steps.length) => may_has HV.out hi)
  have hl1 := sureTo_le b b.steps.length
  have hl2 := mayTo_le b b.steps.length
  clear hv hk
  generalize sureTo b b.steps.length = L1 at *
  generalize mayTo b b.steps.length = L2 at *
  obtain ⟨gx, x0, x1⟩ := HX.out.cells
  go_upto_region 2 with (go_at_call 24; refine (missing_any HX.out.v).mono ?_; rintro e y1 ⟨A, c, A', c', rfl, hi, hi', hb⟩; rw [HM.out] at hi hi'; rw [HM.out]; simp only at hi hi' ⊢; have HI1 := hide hi; have HI2 := hide hi'; clear hi hi')
  clear gx x0 x1
  replace HG := hide ((hb.cell (p := ⟨0, 0, none⟩) hz0).trans HG.out)
  replace HB := hide (HB.out.trans (hb.mono HB.out.size))
  replace HX := hide (HX.out.next hb)
  replace hz0 := Nat.lt_of_lt_of_le hz0 hb.size
  clear hb
  generalize hwv : whereV b = wv at *
  obtain ⟨wv1, wv2, wv3⟩ := wv
  obtain ⟨gx, x0, x1⟩ := HX.out.cells
  go_upto_region 3 with (go_at_call 27; refine (where_any HX.out.v).mono ?_; rintro e y2 ⟨rfl, hb⟩; rw [hwv])
  clear gx x0 x1
  replace HG := hide ((hb.cell (p := ⟨0, 0, none⟩) hz0).trans HG.out)
  replace HB := hide (HB.out.trans (hb.mono HB.out.size))
  replace HX := hide (HX.out.next hb)
  replace HI1 := hide (HI1.out.next hb)
  replace HI2 := hide (HI2.out.next hb)
  replace hz0 := Nat.lt_of_lt_of_le hz0 hb.size
  clear hb
  obtain ⟨gx, x0, x1⟩ := HX.out.cells
  go_upto_region 5 with (go_at_call 47; refine (some12L_any HX.out.v).mono ?_; rintro e y3 ⟨rfl, hb⟩; rw [HV.out])
  clear gx x0 x1
  replace HG := hide ((hb.cell (p := ⟨0, 0, none⟩) hz0).trans HG.out)
  replace HB := hide (HB.out.trans (hb.mono HB.out.size))
  replace HX := hide (HX.out.next hb)
  replace HI1 := hide (HI1.out.next hb)
  replace HI2 := hide (HI2.out.next hb)
  replace hz0 := Nat.lt_of_lt_of_le hz0 hb.size
  clear hb
  obtain ⟨gx, x0, x1⟩ := HX.out.cells
  go_wp2_with (first | (go_at_call 51; first | (with_reducible refine (rising_any HI1.out (b.steps.length : Int)).mono ?_; rintro e w9 ⟨rfl, rfl⟩; rw [HR1.out]) | (with_reducible refine (rising_any HI2.out (b.steps.length : Int)).mono ?_; rintro e w9 ⟨rfl, rfl⟩; rw [HR2.out])))
  clear gx x0 x1
  go_loopw [9, 10, 11, 12, 13, 69, 70, 71, 72, 73, 74, 75, 76, 77, 78, 79, 80, 81, 82, 83, 84, 85, 86, 87, 88, 89, 90, 91, 92, 93, 94, 95, 96, 97, 98, 99, 100, 101, 102, 103, 104, 105, 106, 107, 108] (fun v9 v10 v11 _ _ _ _ _ _ _ _ _ _ _ _ _ _ _ _ _ _ _ _ _ _ _ _ _ _ _ _ _ _ _ _ _ _ _ _ _ _ _ _ _ _ wr => ∃ j : Nat, j ≤ b.steps.length ∧ v11 = .int .i64 j ∧ v9 = .int .i64 (whereTo b j).2 ∧ v10 = .int .i64 ((whereTo b j).1 : Nat) ∧ Hid (Below y3.heap.size y3 wr)) (fun v9 v10 v11 _ _ _ _ _ _ _ _ _ _ _ _ _ _ _ _ _ _ _ _ _ _ _ _ _ _ _ _ _ _ _ _ _ _ _ _ _ _ _ _ _ _ _ => b.steps.length - (intOf v11).toNat)
  case atStart => exact ⟨0, Nat.zero_le _, rfl, rfl, rfl, hide (Below.refl _ _)⟩
  case round =>
   obtain ⟨j, hj, rfl, rfl, rfl, HBW⟩ := hrel
   obtain ⟨u0, rfl⟩ : ∃ u0 : World, u0 = wr := ⟨_, rfl⟩
   have hj0 : (0 : Int) ≤ (j : Int) := Int.natCast_nonneg _
   have hwp := where_pos b j
   have hb := HBW.out
   replace HG := hide ((hb.cell (p := ⟨0, 0, none⟩) hz0).trans HG.out)
   replace HB := hide (HB.out.trans (hb.mono HB.out.size))
   replace HX := hide (HX.out.next hb)
   replace HI1 := hide (HI1.out.next hb)
   replace HI2 := hide (HI2.out.next hb)
   replace hz0 := Nat.lt_of_lt_of_le hz0 hb.size
   clear hb
   by_cases hlt : j < b.steps.length
   · have hj1 : (j : Int) < (b.steps.length : Int) := by omega
     have HQ1 := hide (HS1.out j hlt)
     have HQ2 := hide (HS2.out j hlt)
     have HLO := hide (show okS b j (lostB b (j : Int).toNat) = lostB b j by rw [okS, if_pos (enter_at HV.out hlt)]; rfl)
     have HEN := hide (enter_at HV.out hlt)
     have HWS := hide (show whereTo b (j + 1) = if (whereTo b j).2 < (lostB b j).lo then (j, (lostB b j).lo) else whereTo b j from rfl)
     generalize hwt : whereTo b j = wt at *
     obtain ⟨wi, wn⟩ := wt
     simp only at hwp
     have HWT := hide hwt
     clear hwt
     generalize lostB b j = sp at *
     obtain ⟨p1, p2⟩ := sp
     simp only at HQ1 HQ2 HWS
     obtain ⟨gx, x0, x1⟩ := HX.out.cells
     go_upto_region 12 with (go_at_call 21; refine (losts_any HX.out.v).mono ?_; rintro e y4 ⟨rfl, hb⟩; rw [HLO.out, HEN.out])
     clear gx x0 x1
     replace HG := hide ((hb.cell (p := ⟨0, 0, none⟩) hz0).trans HG.out)
     replace HB := hide (HB.out.trans (hb.mono HB.out.size))
     replace HX := hide (HX.out.next hb)
     replace HI1 := hide (HI1.out.next hb)
     replace HI2 := hide (HI2.out.next hb)
     replace HBW := hide (HBW.out.trans (hb.mono HBW.out.size))
     replace hz0 := Nat.lt_of_lt_of_le hz0 hb.size
     clear hb
     have hb : Below y4.heap.size y4 (y4.alloc (.cells #[.int .i64 p1, .int .i64 p2] 30)) := (Below.refl _ _).alloc (Nat.le_refl _) _
     have SP := hide (show Blk (y4.alloc (.cells #[.int .i64 p1, .int .i64 p2] 30)) y4.heap.size 30 #[.int .i64 p1, .int .i64 p2] from Blk.made)
     replace HG := hide ((hb.cell (p := ⟨0, 0, none⟩) hz0).trans HG.out)
     replace HB := hide (HB.out.trans (hb.mono HB.out.size))
     replace HX := hide (HX.out.next hb)
     replace HI1 := hide (HI1.out.next hb)
     replace HI2 := hide (HI2.out.next hb)
     replace HBW := hide (HBW.out.trans (hb.mono HBW.out.size))
     replace hz0 := Nat.lt_of_lt_of_le hz0 hb.size
     clear hb
     generalize y4.alloc (.cells #[.int .i64 p1, .int .i64 p2] 30) = y5 at *
     generalize y4.heap.size = ggs at *
     obtain ⟨gx, x0, x1⟩ := HX.out.cells
     have gs := SP.out.lt
     have s0 := SP.out.at_ 0
     have s1 := SP.out.at_ 1
     simp only [List.getElem?_toArray, List.getElem?_cons_zero, List.getElem?_cons_succ] at s0 s1
     go_quiet (first | (go_at_call 46; first | with_reducible exact Calls.quiet_of_same ((has_any (HI1.out.drewN _) (j : Int)).mono (fun _ _ h => ⟨by rw [h.1, HQ1.out], h.2.symm⟩)) | with_reducible exact Calls.quiet_of_same ((has_any (HI2.out.drewN _) (j : Int)).mono (fun _ _ h => ⟨by rw [h.1, HQ2.out], h.2.symm⟩))))
     clear gx x0 x1 gs s0 s1
     have hb := below_drewN (Below.refl y5.heap.size y5) nq
     replace HG := hide ((hb.cell (p := ⟨0, 0, none⟩) hz0).trans HG.out)
     replace HB := hide (HB.out.trans (hb.mono HB.out.size))
     replace HX := hide (HX.out.next hb)
     replace HI1 := hide (HI1.out.next hb)
     replace HI2 := hide (HI2.out.next hb)
     replace HBW := hide (HBW.out.trans (hb.mono HBW.out.size))
     replace SP := hide (SP.out.next hb)
     replace hz0 := Nat.lt_of_lt_of_le hz0 hb.size
     clear hb
     generalize y5.drewN nq = y6 at *
     obtain ⟨gx, x0, x1⟩ := HX.out.cells
     have gs := SP.out.lt
     have s0 := SP.out.at_ 0
     have s1 := SP.out.at_ 1
     simp only [List.getElem?_toArray, List.getElem?_cons_zero, List.getElem?_cons_succ] at s0 s1
     by_cases hc : wn < p1
     · rw [if_pos hc] at HWS
       go_wp2_with fail
       go_roundw
       case rel => exact ⟨j + 1, hlt, by go_num, by rw [HWS.out], by rw [HWS.out], HBW⟩
       case measure => simp [intOf]; omega
     · rw [if_neg hc] at HWS
       have hc2 : p1 ≤ wn := by omega
       go_wp2_with fail
       go_roundw
       case rel => exact ⟨j + 1, hlt, by go_num, by rw [HWS.out], by rw [HWS.out], HBW⟩
       case measure => simp [intOf]; omega
   · obtain rfl : j = b.steps.length := by omega
     replace HW := HW.out
     generalize whereTo b b.steps.length = wt at *
     obtain ⟨wi, wn⟩ := wt
     simp only at hwp HW
     clear hwv
     by_cases hq : wn = 0
     · subst hq
       rw [if_pos rfl] at HW
       simp only [Prod.mk.injEq] at HW
       obtain ⟨rfl, rfl, rfl⟩ := HW
       obtain ⟨gx, x0, x1⟩ := HX.out.cells
       go_wp2_with (first | (go_at_call 23; refine (awake12_any HG.out hz0).mono ?_; rintro e y7 ⟨rfl, hb⟩))
       go_ret
       exact ⟨rfl, HB.out.trans (hb.mono HB.out.size)⟩
     · have hq2 : (wn == 0) = false := by simp [hq]
       rw [if_neg hq] at HW
       simp only [Prod.mk.injEq] at HW
       obtain ⟨rfl, rfl, rfl⟩ := HW
       have hq3 : ((wi : Int) == (wi : Int)) = true := by simp
       obtain ⟨gx, x0, x1⟩ := HX.out.cells
       go_wp2_with (first | (go_at_call 23; refine (awake12_any HG.out hz0).mono ?_; rintro e y8 ⟨rfl, hb⟩))
       go_ret
       exact ⟨rfl, HB.out.trans (hb.mono HB.out.size)⟩
end Go.Proofs.YtocdmkilnbpkdaaGreatDoor
