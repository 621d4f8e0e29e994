/- Missing of the program. -/
import Derived.Test.YtocdmkilnbpkdaaGreatDoorZW
import Derived.OwnWalkIn
import Derived.Maps.AppendAt
import Derived.RangeFuncBox
import Derived.Laws.StructEq
import Derived.OwnWalk
import Derived.TacticsInMore
import Derived.Deep.DeepCutAuto
set_option linter.unusedVariables false
set_option linter.unusedSimpArgs false
namespace Go.Proofs.YtocdmkilnbpkdaaGreatDoor
open Go.RowKit
attribute [local go_sem] Oper.semAt_some

def mayTo (b : Book) (j : Nat) : List Nat := (List.range j).filter fun i => !spanB (lostB b i) ⟨0, 0⟩
def sureTo (b : Book) (j : Nat) : List Nat := (List.range j).filter fun i => decide (0 < (lostB b i).lo)
theorem mayTo_succ (b : Book) (j : Nat) : mayTo b (j + 1) = mayTo b j ++ (if spanB (lostB b j) ⟨0, 0⟩ then [] else [j]) := by
 rw [mayTo, List.range_succ, List.filter_append]
 congr 1
 cases h : spanB (lostB b j) ⟨0, 0⟩ <;> simp [List.filter_cons, h]
theorem sureTo_succ (b : Book) (j : Nat) : sureTo b (j + 1) = sureTo b j ++ (if 0 < (lostB b j).lo then [j] else []) := by
 rw [sureTo, List.range_succ, List.filter_append]
 congr 1
 by_cases h : 0 < (lostB b j).lo <;> simp [List.filter_cons, h]
theorem mayTo_le (b : Book) (j : Nat) : (mayTo b j).length ≤ j := by
 have := List.length_filter_le (fun i => !spanB (lostB b i) ⟨0, 0⟩) (List.range j)
 simpa [mayTo] using this
theorem sureTo_le (b : Book) (j : Nat) : (sureTo b j).length ≤ j := by
 have := List.length_filter_le (fun i => decide (0 < (lostB b i).lo)) (List.range j)
 simpa [sureTo] using this
def missV (b : Book) : List Nat × List Nat × Int := if enterK b 0 = 0 then (sureTo b b.steps.length, mayTo b b.steps.length, 0) else ([], [], enterK b 0)
/-- A list of steps that is the walk's own. -/
abbrev OwnL (W : World) (B : Nat) (v : Value) (l : List Nat) : Prop := W.ownsRow B 3 1 v l.length ((natInts l).map (Value.int .i64))
theorem nat_snoc (l : List Nat) (j : Nat) : (natInts l).map (Value.int .i64) ++ [.int .i64 (j : Int)] = (natInts (l ++ [j])).map (Value.int .i64) := by simp [natInts]
theorem span_equal10 (w : World) (a b c e : Int) : (Op.equalIn 10000 30 (.agg #[.int .i64 a, .int .i64 b]) (.agg #[.int .i64 c, .int .i64 e])).run Tryz.prog w = .ok (a == c && b == e) w := span_equal w 9998 a b c e
attribute [local go_sem] span_equal10
set_option maxHeartbeats 4000000 in
set_option maxRecDepth 100000 in
theorem missing_any {b : Book} {a : BA} {w : World} (h : BookV w w.heap.size b a) :
 Calls Tryz.prog 24 #[bookVal b a] w fun e w' => ∃ A c A' c', e = .returned (.tuple #[.slice A (missV b).1.length c, .slice A' (missV b).2.1.length c', .int .i64 (missV b).2.2]) ∧ IntsS w' w'.heap.size A (missV b).1.length c (natInts (missV b).1) ∧ IntsS w' w'.heap.size A' (missV b).2.1.length c' (natInts (missV b).2.1) ∧ Below w.heap.size w w' := by
 have HX := hide (BoxB.made h)
 have HB := hide (show Below w.heap.size w (w.alloc (.cells (bookCells b a) 25)) from (Below.refl _ _).alloc (Nat.le_refl _) _)
 have hm1 := h.m1
 unfold maxLen at hm1
 clear h
 go_enter Tryz.func24, Tryz.ntmps24
 go_upto_region 1 with (fail)
 generalize (w.alloc (.cells (bookCells b a) 25)) = v0 at *
 obtain ⟨z, x0, x1⟩ := HX.out.cells
 go_wp2_with fail
 refine (enter_any (s := 0) HX.out.v).mono ?_
 rintro e v1 ⟨p, rfl, hb, hen⟩
 have HB1 := hide (HB.out.trans (hb.mono HB.out.size))
 have HX1 := hide (HX.out.next hb)
 have hz := HX.out.k.lt
 have hzb := hb.size
 unfold Entered at hen
 clear x0 x1 z hb HX
 by_cases hk : enterK b 0 = 0
 · obtain ⟨g, hh, rfl, hg, hl, hA⟩ := hen hk
   have HV := hide (enterK_zero hk)
   have HWV := hide (show missV b = (sureTo b b.steps.length, mayTo b b.steps.length, 0) by rw [missV, if_pos hk])
   have h6 := (enterK_zero hk).1.steps
   rw [hk]
   clear hen hk
   have HA := hide hA
   have HL := hide hl
   clear hA hl
   obtain ⟨z1, x0, _⟩ := HX1.out.cells
   have hgt : Tryz.prog.eqGuardType Tryz.prog.depth 30 = false := by kernel_rfl
   go_wp2_with fail
   clear x0 z1
   go_loopw [2, 3, 6, 7, 19, 20, 21, 22, 23, 24, 25, 26, 27, 28, 29, 30, 31, 32, 33, 34, 35, 36, 37, 38, 39] (fun v2 v3 _ _ v19 _ _ _ _ _ _ _ _ _ _ _ _ _ _ _ _ _ _ _ _ wr => ∃ j : Nat, j ≤ b.steps.length ∧ v19 = .int .i64 (j : Nat) ∧ Hid (OwnL wr v1.heap.size v2 (sureTo b j)) ∧ Hid (OwnL wr v1.heap.size v3 (mayTo b j)) ∧ Hid (∀ k, v2.ownBlock = some k → v3.ownBlock ≠ some k) ∧ Hid (Below v1.heap.size v1 wr)) (fun v2 v3 _ _ v19 _ _ _ _ _ _ _ _ _ _ _ _ _ _ _ _ _ _ _ _ _ => b.steps.length - (intOf v19).toNat)
   case atStart => exact ⟨0, Nat.zero_le _, rfl, hide ⟨rfl, .inl ⟨rfl, rfl⟩⟩, hide ⟨rfl, .inl ⟨rfl, rfl⟩⟩, hide (fun k h => by cases h), hide (Below.refl _ _)⟩
   case round =>
    obtain ⟨j, hj, rfl, HO2, HO3, HD, HBW⟩ := hrel
    by_cases hlt : j < b.steps.length
    · have hjl : (j : Int) < (b.steps.length : Int) := by omega
      have HS := hide (sureTo_succ b j)
      have HM := hide (mayTo_succ b j)
      have hle2 := sureTo_le b j
      have hle3 := mayTo_le b j
      have HLE := hide (lost_eq (c := cB b fun _ => false) HV.out.1.good.way (cB_99 b _) (u_ne HV.out.1.good.way HV.out.2.2) HA.out hlt)
      have HLW := hide (HL.out.next HBW.out)
      go_wp2_with fail
      refine (lost_any HLW.out (by have := HLW.out.k.lt; omega) HV.out.1.good hlt).mono ?_
      rintro e w2 ⟨rfl, hb2⟩
      rw [HLE.out]
      change Hid (sureTo b (j + 1) = sureTo b j ++ (if 0 < ((wayOf b).lost (cB b fun _ => false) j).lo then [j] else [])) at HS
      change Hid (mayTo b (j + 1) = mayTo b j ++ (if spanB ((wayOf b).lost (cB b fun _ => false) j) ⟨0, 0⟩ then [] else [j])) at HM
      clear HLE
      generalize (wayOf b).lost (cB b fun _ => false) j = sl at *
      obtain ⟨s1, s2⟩ := sl
      have hba : Below w2.heap.size w2 (w2.alloc (.cells #[.int .i64 s1, .int .i64 s2] 30)) := (Below.refl _ _).alloc (Nat.le_refl _) _
      have hb3 := hb2.trans (hba.mono hb2.size)
      have HSP := hide (show Blk (w2.alloc (.cells #[.int .i64 s1, .int .i64 s2] 30)) w2.heap.size 30 #[.int .i64 s1, .int .i64 s2] from Blk.made)
      have O2 := hide (own_stab HO2.out (fun k hk _ => hb3.block k hk))
      have O3 := hide (own_stab HO3.out (fun k hk _ => hb3.block k hk))
      have HBX := hide (HBW.out.trans (hb3.mono HBW.out.size))
      have hv2 : Hid (∀ k, u2.ownBlock = some k → k < wr.heap.size) := hide (fun k hk => (World.ownsRow.lt HO2.out k hk).2)
      have hv3 : Hid (∀ k, u3.ownBlock = some k → k < wr.heap.size) := hide (fun k hk => (World.ownsRow.lt HO3.out k hk).2)
      have hzw := hb2.size
      have hzw0 := HBW.out.size
      clear hba hb2 hb3 HO2 HO3 HLW
      go_upto_region 8 with fail
      generalize w2.alloc (.cells #[.int .i64 s1, .int .i64 s2] 30) = W3 at *
      have e0 := HSP.out.at_ 0
      have e1 := HSP.out.at_ 1
      simp only [List.getElem?_toArray, List.getElem?_cons_zero, List.getElem?_cons_succ] at e0 e1
      have hz3 := HSP.out.lt
      by_cases hq : s1 = 0 ∧ s2 = 0
      · obtain ⟨rfl, rfl⟩ := hq
        rw [if_neg (by simp), List.append_nil] at HS
        rw [if_pos (by rfl), List.append_nil] at HM
        go_wp2_with fail
        go_roundw
        case rel => exact ⟨j + 1, hlt, by simp, hide (by rw [HS.out]; exact O2.out), hide (by rw [HM.out]; exact O3.out), HD, HBX⟩
        case measure => simp [intOf]; omega
      · rw [if_neg (by simpa [spanB] using hq)] at HM
        by_cases h1 : s1 = 0
        · subst h1
          have h2 : s2 ≠ 0 := fun e => hq ⟨rfl, e⟩
          clear hq
          obtain ⟨i0, hinf, hz0, hz1, hz2⟩ := info_parts Tryz.infoInt
          go_upto_region 10 with (at_builtin; go_loud (refine wpList_append_own_at _ rfl _ _ 35 rfl v1.heap.size 3 i0 (.int .i64 0) 1 8 Tryz.underlying35 hinf hz0 hz1 hz2 rfl (by decide) _ _ _ rfl (O3.out.alloc _) ⟨W3.heap.size, 0, none⟩ 1 1 [.int .i64 (j : Int)] rfl rfl (cell_one_new _ _ _) (by simp [Value.oneCell']) (by unfold maxLen; omega) (by omega) (by simp; omega) ?_; intro v' w1 hown' hgrow _ hat))
          have hkx : Keep (fun k => some k = u3.ownBlock) W3 w1 := (Keep.alloc W3 _ _).trans (Keep.of_grown hgrow)
          have hu3 : u3.ownBlock ≠ some w2.heap.size := fun h => by have := hv3.out _ h; omega
          have HSP2 := hide (HSP.out.keep hkx (fun h => hu3 h.symm))
          have O2b := hide (own_stab O2.out (fun k hk e => hkx.block k hk (fun h => HD.out k e h.symm)))
          have hD2 : Hid (∀ k, u2.ownBlock = some k → v'.ownBlock ≠ some k) := hide (fun k hk h => by
           rcases hat with h1 | h1
           · rw [h1] at h; exact HD.out k hk h
           · rw [h1] at h
             have := hv2.out k hk
             simp only [Option.some.injEq, World.size_alloc] at h
             omega)
          have hb1 := app_below (base := v1.heap.size) (by omega) O3.out hgrow
          have HBY := hide (HBX.out.trans hb1)
          rw [nat_snoc] at hown'
          have O3b : Hid (OwnL w1 v1.heap.size v' (mayTo b (j + 1))) := hide (by rw [HM.out, OwnL, List.length_append]; exact hown')
          have c0 := HSP2.out.at_ 0
          simp only [List.getElem?_toArray, List.getElem?_cons_zero] at c0
          have hzs := HSP2.out.lt
          clear e0 e1 hgrow hat hkx hu3 hb1 hown' HSP O2 O3 HD HBX
          have hzy := HBY.out.size
          have hs : ¬ (0 : Int) < 0 := by omega
          rw [if_neg hs, List.append_nil] at HS
          go_wp2_with fail
          go_roundw
          case rel => exact ⟨j + 1, hlt, by simp, hide (by rw [HS.out]; exact O2b.out), O3b, hD2, HBY⟩
          case measure => simp [intOf]; omega
        · clear hq
          obtain ⟨i0, hinf, hz0, hz1, hz2⟩ := info_parts Tryz.infoInt
          go_upto_region 10 with (at_builtin; go_loud (refine wpList_append_own_at _ rfl _ _ 35 rfl v1.heap.size 3 i0 (.int .i64 0) 1 8 Tryz.underlying35 hinf hz0 hz1 hz2 rfl (by decide) _ _ _ rfl (O3.out.alloc _) ⟨W3.heap.size, 0, none⟩ 1 1 [.int .i64 (j : Int)] rfl rfl (cell_one_new _ _ _) (by simp [Value.oneCell']) (by unfold maxLen; omega) (by omega) (by simp; omega) ?_; intro v' w1 hown' hgrow _ hat))
          have hkx : Keep (fun k => some k = u3.ownBlock) W3 w1 := (Keep.alloc W3 _ _).trans (Keep.of_grown hgrow)
          have hu3 : u3.ownBlock ≠ some w2.heap.size := fun h => by have := hv3.out _ h; omega
          have HSP2 := hide (HSP.out.keep hkx (fun h => hu3 h.symm))
          have O2b := hide (own_stab O2.out (fun k hk e => hkx.block k hk (fun h => HD.out k e h.symm)))
          have hD2 : Hid (∀ k, u2.ownBlock = some k → v'.ownBlock ≠ some k) := hide (fun k hk h => by
           rcases hat with h1 | h1
           · rw [h1] at h; exact HD.out k hk h
           · rw [h1] at h
             have := hv2.out k hk
             simp only [Option.some.injEq, World.size_alloc] at h
             omega)
          have hb1 := app_below (base := v1.heap.size) (by omega) O3.out hgrow
          have HBY := hide (HBX.out.trans hb1)
          rw [nat_snoc] at hown'
          have O3b : Hid (OwnL w1 v1.heap.size v' (mayTo b (j + 1))) := hide (by rw [HM.out, OwnL, List.length_append]; exact hown')
          have c0 := HSP2.out.at_ 0
          simp only [List.getElem?_toArray, List.getElem?_cons_zero] at c0
          have hzs := HSP2.out.lt
          clear e0 e1 hgrow hat hkx hu3 hb1 hown' HSP O2 O3 HD HBX
          have hzy := HBY.out.size
          by_cases hs : 0 < s1
          · rw [if_pos hs] at HS
            go_wp2_with (at_builtin; go_loud (refine wpList_append_own_at _ rfl _ _ 35 rfl v1.heap.size 3 i0 (.int .i64 0) 1 8 Tryz.underlying35 hinf hz0 hz1 hz2 rfl (by decide) _ _ _ rfl (O2b.out.alloc _) ⟨w1.heap.size, 0, none⟩ 1 1 [.int .i64 (j : Int)] rfl rfl (cell_one_new _ _ _) (by simp [Value.oneCell']) (by unfold maxLen; omega) (by omega) (by simp; omega) ?_; intro v'' w4 hown2 hgrow2 _ hat2))
            have hkx : Keep (fun k => some k = u2.ownBlock) w1 w4 := (Keep.alloc w1 _ _).trans (Keep.of_grown hgrow2)
            have O3c := hide (own_stab O3b.out (fun k hk e => hkx.block k hk (fun h => hD2.out k h.symm e)))
            have hb1 := app_below (base := v1.heap.size) (by omega) O2b.out hgrow2
            have HBZ := hide (HBY.out.trans hb1)
            rw [nat_snoc] at hown2
            have O2c : Hid (OwnL w4 v1.heap.size v'' (sureTo b (j + 1))) := hide (by rw [HS.out, OwnL, List.length_append]; exact hown2)
            have hD3 : Hid (∀ k, v''.ownBlock = some k → v'.ownBlock ≠ some k) := hide (fun k hk h => by
             rcases hat2 with h1 | h1
             · rw [h1] at hk; exact hD2.out k hk h
             · rw [h1] at hk
               have := (World.ownsRow.lt O3b.out k h).2
               simp only [Option.some.injEq, World.size_alloc] at hk
               omega)
            clear hgrow2 hat2 hkx hb1 hown2
            go_roundw
            case rel => exact ⟨j + 1, hlt, by simp, O2c, O3c, hD3, HBZ⟩
            case measure => simp [intOf]; omega
          · rw [if_neg hs, List.append_nil] at HS
            have hs2 : s1 ≤ 0 := by omega
            go_wp2_with fail
            go_roundw
            case rel => exact ⟨j + 1, hlt, by simp, hide (by rw [HS.out]; exact O2b.out), O3b, hD2, HBY⟩
            case measure => simp [intOf]; omega

    · obtain rfl : j = b.steps.length := by omega
      obtain ⟨A, cp, rfl, hA⟩ := own_ex HO2.out
      obtain ⟨A', cp', rfl, hA'⟩ := own_ex HO3.out
      have hi := ints_own hA
      have hi' := ints_own hA'
      have HI := hide hi
      have HI' := hide hi'
      clear hA hA' hi hi' HO2 HO3 HD
      generalize sureTo b b.steps.length = L1 at *
      generalize mayTo b b.steps.length = L2 at *
      go_wp2_with fail
      exact bodyPost_ret (v := .tuple #[.slice A L1.length cp, .slice A' L2.length cp', .int .i64 0]) (by simp [results, Tryz.results24, go_sem]) rfl ⟨A, cp, A', cp', by rw [HWV.out], by rw [HWV.out]; simpa [natInts_length] using HI.out, by rw [HWV.out]; simpa [natInts_length] using HI'.out, HB1.out.trans (HBW.out.mono HB1.out.size)⟩
 · have hd : (enterK b 0 != 0) = true := by simpa using hk
   have HWV := hide (show missV b = ([], [], enterK b 0) by rw [missV, if_neg hk])
   clear hk hen
   generalize enterK b 0 = K at *
   go_wp2_with fail
   exact bodyPost_ret (v := .tuple #[.slice none 0 0, .slice none 0 0, .int .i64 K]) (by simp [results, Tryz.results24, go_sem]) rfl ⟨none, 0, none, 0, by rw [HWV.out]; rfl, by rw [HWV.out]; exact IntsS.nil_, by rw [HWV.out]; exact IntsS.nil_, HB1.out⟩
end Go.Proofs.YtocdmkilnbpkdaaGreatDoor
