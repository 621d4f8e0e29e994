/- Missing and Where of the reference. -/
import Derived.Test.YtocdmkilnbpkdaaGreatDoorQK
import Derived.Test.YtocdmkilnbpkdaaGreatDoorZX
import Derived.Test.YtocdmkilnbpkdaaGreatDoorZW
import Derived.OwnWalkIn
import Derived.Deep.MidRow
import Derived.RangeFuncBox
import Derived.Maps.AppendAt
import Derived.OwnWalk
import Derived.Laws.AppendOwn
import Derived.Laws.StructEq
import Derived.TacticsInMore
import Derived.Deep.DeepCutAuto
set_option linter.unusedVariables false
set_option linter.unusedSimpArgs false
namespace Go.Proofs.YtocdmkilnbpkdaaGreatDoor
open Go.RowKit
attribute [local go_sem] Oper.semAt_some
set_option maxHeartbeats 4000000 in
set_option maxRecDepth 100000 in
theorem missing12_any {b : Book} {a : BA} {w : World} (h : BookV w w.heap.size b a) :
 Calls Tryz.prog 25 #[bookVal b a] w fun e w' => ∃ A c A' c', e = .returned (.tuple #[.slice A (missV b).1.length c, .slice A' (missV b).2.1.length c', .int .i64 (missV b).2.2]) ∧ IntsS w' w'.heap.size A (missV b).1.length c (natInts (missV b).1) ∧ IntsS w' w'.heap.size A' (missV b).2.1.length c' (natInts (missV b).2.1) ∧ Below w.heap.size w w' := by
 have HX := hide (BoxB.made h)
 have HB := hide (show Below w.heap.size w (w.alloc (.cells (bookCells b a) 25)) from (Below.refl _ _).alloc (Nat.le_refl _) _)
 have hm1 := h.m1
 unfold maxLen at hm1
 clear h
 go_enter Tryz.func25, Tryz.ntmps25
 go_upto_region 1 with (fail)
 generalize (w.alloc (.cells (bookCells b a) 25)) = v0 at *
 obtain ⟨gx, x0, x1⟩ := HX.out.cells
 refine wp_region_rel (dst := fun oi => [11, 12, 13, 14, 5].getD oi 0) (mono := fun oi => decide (oi < 5)) (pre := fun oi => decide (oi < 5)) (R := LKeep (fun _ => False) (fun _ => True))
  (Pv := fun oi v W => match oi with
   | 0 => v = bookVal b a
   | 1 => v = bookVal b a
   | 2 => v = .int .i64 (askK b 0)
   | 3 => v = .int .i64 (enterK b 0)
   | 4 => v = .int .i64 (enterK b 0)
   | _ => True) (by kernel_rfl) (by kernel_rfl) (LKeep.refl _ _) (fun _ _ _ h h' => h.trans h') ?hst ?hstep ?hend
 case hst =>
  intro oi v W W' h hk
  match oi, h with
  | 0, h => exact h
  | 1, h => exact h
  | 2, h => exact h
  | 3, h => exact h
  | 4, h => exact h
  | oi + 5, h => exact trivial
 case hstep =>
  intro oi hoi hom listed vs ao W hU hk0 hpv haft Ko hK
  have hkk := (LKeep.drew (fun _ => False) (M := fun _ => True) v0 (fun h => h)).trans hk0
  have hk := hkk.1
  have hkm := hkk.2
  clear hkk
  match oi, hoi, hom with
  | 0, hoi, hom =>
   have z1 : ao.tmps[1]?.getD undef = .pointer (some ⟨w.heap.size, 0, none⟩) := hU.same 1 (by decide)
   have y0 := (hk.cell (b := w.heap.size) (o := 0) (gx) (fun h => h)).trans (x0)
   have y1 := (hk.cell (b := w.heap.size) (o := 1) (gx) (fun h => h)).trans (x1)
   refine wpOp_value (v := bookVal b a) (W' := W) rfl rfl ?_ (hK _ _ (LKeep.refl _ _ _) rfl)
   go_simp
  | 1, hoi, hom =>
   have z1 : ao.tmps[1]?.getD undef = .pointer (some ⟨w.heap.size, 0, none⟩) := hU.same 1 (by decide)
   have y0 := (hk.cell (b := w.heap.size) (o := 0) (gx) (fun h => h)).trans (x0)
   have y1 := (hk.cell (b := w.heap.size) (o := 1) (gx) (fun h => h)).trans (x1)
   refine wpOp_value (v := bookVal b a) (W' := W) rfl rfl ?_ (hK _ _ (LKeep.refl _ _ _) rfl)
   go_simp
  | 2, hoi, hom =>
   have l1 := haft _ rfl ⟨1, .data⟩ (by simp) rfl
   have s1 : ao.tmps[12]?.getD undef = bookVal b a := (hU.slot 1 (by decide) l1).trans (hpv 1 l1)
   have hc := asked12_any (HX.out.v.next (hk.below (B := v0.heap.size) (fun k h => h.elim) (Nat.le_refl _))) 0
   refine wpOp_enter (f := 68) (args := #[bookVal b a, .int .i64 0]) (W' := W) rfl rfl ?_ ((hc).mono (fun e w'' h => ?_))
   · go_simp
   · obtain ⟨he, hbw⟩ := h
     exact ⟨_, he, hK _ _ (LKeep.below hbw (fun h => h)) rfl⟩
  | 3, hoi, hom =>
   have l0 := haft _ rfl ⟨0, .data⟩ (by simp) rfl
   have s0 : ao.tmps[11]?.getD undef = bookVal b a := (hU.slot 0 (by decide) l0).trans (hpv 0 l0)
   have l2 := haft _ rfl ⟨2, .data⟩ (by simp) rfl
   have s2 : ao.tmps[13]?.getD undef = .int .i64 (askK b 0) := (hU.slot 2 (by decide) l2).trans (hpv 2 l2)
   have hc := known12_any (HX.out.v.next (hk.below (B := v0.heap.size) (fun k h => h.elim) (Nat.le_refl _))) (e := askK b 0) ask_valid
   rw [known_ask] at hc
   refine wpOp_enter (f := 67) (args := #[bookVal b a, .int .i64 (askK b 0)]) (W' := W) rfl rfl ?_ ((hc).mono (fun e w'' h => ?_))
   · go_simp
   · obtain ⟨he, hbw⟩ := h
     exact ⟨_, he, hK _ _ (LKeep.below hbw (fun h => h)) rfl⟩
  | 4, hoi, hom =>
   have l3 := haft _ rfl ⟨3, .data⟩ (by simp) rfl
   have s3 : ao.tmps[14]?.getD undef = .int .i64 (enterK b 0) := (hU.slot 3 (by decide) l3).trans (hpv 3 l3)
   refine wpOp_value (v := .int .i64 (enterK b 0)) (W' := W) rfl rfl ?_ (hK _ _ (LKeep.refl _ _ _) rfl)
   go_simp
  | oi + 5, hoi, hom => exact absurd (of_decide_eq_true hom) (by omega)
 case hend =>
  intro listed vs ao W hG hk0 hpv hpre
  have hkk := (LKeep.drew (fun _ => False) (M := fun _ => True) v0 (fun h => h)).trans hk0
  have hk := hkk.1
  have hkm := hkk.2
  clear hkk
  have hact := hG.act
  have hT := hG.lst hpre 0 #[true, true, true, true, true] rfl (by kernel_rfl) (hpre 0 (by decide) (by decide))
  rw [hG.ix hT (l := [0, 1, 2, 3, 4]) (by kernel_rfl)] at hact
  rw [hG.lo hT (k := 0) (by kernel_rfl)]
  have hv0 : vs 0 = bookVal b a := hpv 0 (hpre 0 (by decide) (by decide))
  have hv1 : vs 1 = bookVal b a := hpv 1 (hpre 1 (by decide) (by decide))
  have hv2 : vs 2 = .int .i64 (askK b 0) := hpv 2 (hpre 2 (by decide) (by decide))
  have hv3 : vs 3 = .int .i64 (enterK b 0) := hpv 3 (hpre 3 (by decide) (by decide))
  have hv4 : vs 4 = .int .i64 (enterK b 0) := hpv 4 (hpre 4 (by decide) (by decide))
  clear hpv hpre hG hk0
  obtain rfl : ao = _ := hact
  subst hT
  simp only [setAll, List.setIfInBounds_toArray, List.set_cons_succ, List.set_cons_zero, List.getD_cons_succ, List.getD_cons_zero]
  simp only [hv0, hv1, hv2, hv3, hv4]
  clear hv0 hv1 hv2 hv3 hv4
  refine wpAny_done (by kernel_rfl) ?_ _
  have hb := (hk.below (B := v0.heap.size) (fun k h => h.elim) (Nat.le_refl _))
  clear hk hkm
  have HX1 := hide (HX.out.next hb)
  have HB1 := hide (HB.out.trans (hb.mono HB.out.size))
  have hz := HX.out.k.lt
  have hzb := hb.size
  clear x0 x1 gx hb HX
  generalize W = v1 at *
  by_cases hk : enterK b 0 = 0
  · have HV := hide (enterK_zero hk)
    have HWV := hide (show missV b = (sureTo b b.steps.length, mayTo b b.steps.length, 0) by rw [missV, if_pos hk])
    have h6 := (enterK_zero hk).1.steps
    have HSV := hide (show someV b = true by rw [someV_enter, hk]; rfl)
    have HG := hide HV.out.1.good
    have h12 : b.tallies.length ≤ 12 := by have := HV.out.1.tallies; omega
    have HSM := hide (show someB b (hasInt [] ·) = true from HV.out.2.2)
    have HLE := hide (fun (j : Nat) (hj : j < b.steps.length) => show endsTo (setOf (lostB b j)) 100 = lostB b j from ends_set (by have h1 := lost_facts HSV.out hj; have h2 := HG.out.loss j hj; exact ⟨h1.1, h1.2.1, by omega⟩))
    have HLF := hide (fun (j : Nat) (hj : j < b.steps.length) => lost_facts HSV.out hj)
    rw [hk]
    clear hk
    obtain ⟨gx, x0, x1⟩ := HX1.out.cells
    go_wp2_with fail
    clear gx x0 x1
    go_loopw [6, 7, 8, 9, 10, 18, 19, 20, 21, 22, 23, 24, 25, 26, 27, 28, 29, 30, 31, 32, 33, 34, 35, 36, 37, 38, 39, 40, 41, 42, 43, 44, 45] (fun v6 v7 v8 _ _ _ _ _ _ _ _ _ _ _ _ _ _ _ _ _ _ _ _ _ _ _ _ _ _ _ _ _ _ wr => ∃ j : Nat, j ≤ b.steps.length ∧ v8 = .int .i64 (j : Nat) ∧ Hid (OwnL wr v1.heap.size v6 (sureTo b j)) ∧ Hid (OwnL wr v1.heap.size v7 (mayTo b j)) ∧ Hid (∀ k, v6.ownBlock = some k → v7.ownBlock ≠ some k) ∧ Hid (Below v1.heap.size v1 wr)) (fun v6 v7 v8 _ _ _ _ _ _ _ _ _ _ _ _ _ _ _ _ _ _ _ _ _ _ _ _ _ _ _ _ _ _ _ => b.steps.length - (intOf v8).toNat)
    case atStart => exact ⟨0, Nat.zero_le _, rfl, hide ⟨rfl, .inl ⟨rfl, rfl⟩⟩, hide ⟨rfl, .inl ⟨rfl, rfl⟩⟩, hide (fun k h => by cases h), hide (Below.refl _ _)⟩
    case round =>
     obtain ⟨j, hj, rfl, HO2, HO3, HD, HBW⟩ := hrel
     have hj0 : (0 : Int) ≤ (j : Int) := Int.natCast_nonneg _
     have HX2 := hide (HX1.out.next HBW.out)
     obtain ⟨gx, x0, x1⟩ := HX2.out.cells
     by_cases hlt : j < b.steps.length
     · have hjl : (j : Int) < (b.steps.length : Int) := by omega
       have HS := hide (sureTo_succ b j)
       have HM := hide (mayTo_succ b j)
       have hle2 := sureTo_le b j
       have hle3 := mayTo_le b j
       have HEJ := hide (HLE.out j hlt)
       have hlf := HLF.out j hlt
       go_upto_region 9 with (first | (go_at_call 72; refine (losses12_any HX2.out.v HG.out h12 HSM.out hlt).mono ?_; rintro e y2 ⟨rfl, hb3⟩) | (go_at_call 69; refine (ends12_any (setOf (lostB b j)) y2).mono ?_; rintro e w2 ⟨rfl, hb9⟩; have hb2 := hb3.trans (hb9.mono hb3.size); rw [endsV, HEJ.out]))
       clear hb9 hb3 gx x0 x1
       clear HEJ
       generalize lostB b j = sl at *
       obtain ⟨s1, s2⟩ := sl
       simp only at hlf
       have hba : Below w2.heap.size w2 (w2.alloc (.cells #[.int .i64 s1, .int .i64 s2] 30)) := (Below.refl _ _).alloc (Nat.le_refl _) _
       have hb3 := hb2.trans (hba.mono hb2.size)
       have HSP := hide (show Blk (w2.alloc (.cells #[.int .i64 s1, .int .i64 s2] 30)) w2.heap.size 30 #[.int .i64 s1, .int .i64 s2] from Blk.made)
       have O2 := hide (own_stab HO2.out (fun k hk _ => hb3.block k hk))
       have O3 := hide (own_stab HO3.out (fun k hk _ => hb3.block k hk))
       have HBX := hide (HBW.out.trans (hb3.mono HBW.out.size))
       have hv2 : Hid (∀ k, u6.ownBlock = some k → k < wr.heap.size) := hide (fun k hk => (World.ownsRow.lt HO2.out k hk).2)
       have hv3 : Hid (∀ k, u7.ownBlock = some k → k < wr.heap.size) := hide (fun k hk => (World.ownsRow.lt HO3.out k hk).2)
       have hzw := hb2.size
       have hzw0 := HBW.out.size
       clear hba hb2 hb3 HO2 HO3 HX2
       generalize w2.alloc (.cells #[.int .i64 s1, .int .i64 s2] 30) = W3 at *
       have e0 := HSP.out.at_ 0
       have e1 := HSP.out.at_ 1
       simp only [List.getElem?_toArray, List.getElem?_cons_zero, List.getElem?_cons_succ] at e0 e1
       have hz3 := HSP.out.lt
       obtain ⟨i0, hinf, hz0, hz1, hz2⟩ := info_parts Tryz.infoInt
       by_cases hq : s2 = 0
       · obtain rfl : s1 = 0 := by omega
         subst hq
         rw [if_neg (by simp), List.append_nil] at HS
         rw [if_pos (by rfl), List.append_nil] at HM
         go_wp2_with fail
         go_roundw
         case rel => exact ⟨j + 1, hlt, by go_num, hide (by rw [HS.out]; exact O2.out), hide (by rw [HM.out]; exact O3.out), HD, HBX⟩
         case measure => simp [intOf]; omega
       · rw [if_neg (by simp [spanB, hq])] at HM
         have hs2 : 0 < s2 := by omega
         have hs2b : decide ((0 : Int) < s2) = true := decide_eq_true hs2
         clear hq
         by_cases hs : 0 < s1
         · rw [if_pos hs] at HS
           have hsb : decide ((0 : Int) < s1) = true := decide_eq_true hs
           go_upto_region 11 with (at_builtin; go_loud (refine wpList_append_own_at _ rfl _ _ 35 rfl v1.heap.size 3 i0 (.int .i64 0) 1 8 Tryz.underlying35 hinf hz0 hz1 hz2 rfl (by decide) _ _ _ rfl (O2.out.alloc _) ⟨W3.heap.size, 0, none⟩ 1 1 [.int .i64 (j : Int)] rfl rfl (cell_one_new _ _ _) (by simp [Value.oneCell']) (by unfold maxLen; omega) (by omega) (by simp; omega) ?_; intro v' w1 hown' hgrow _ hat))
           have hkx : Keep (fun k => some k = u6.ownBlock) W3 w1 := (Keep.alloc W3 _ _).trans (Keep.of_grown hgrow)
           have hu3 : u6.ownBlock ≠ some w2.heap.size := fun h => by have := hv2.out _ h; omega
           have HSP2 := hide (HSP.out.keep hkx (fun h => hu3 h.symm))
           have O3b := hide (own_stab O3.out (fun k hk e => hkx.block k hk (fun h => HD.out k h.symm e)))
           have hD2 : Hid (∀ k, v'.ownBlock = some k → u7.ownBlock ≠ some k) := hide (fun k hk h => by
            rcases hat with h1 | h1
            · rw [h1] at hk; exact HD.out k hk h
            · rw [h1] at hk
              have := hv3.out k h
              simp only [Option.some.injEq, World.size_alloc] at hk
              omega)
           have hb1 := app_below (base := v1.heap.size) (by omega) O2.out hgrow
           have HBY := hide (HBX.out.trans hb1)
           rw [nat_snoc] at hown'
           have O2b : Hid (OwnL w1 v1.heap.size v' (sureTo b (j + 1))) := hide (by rw [HS.out, OwnL, List.length_append]; exact hown')
           have c1 := HSP2.out.at_ 1
           simp only [List.getElem?_toArray, List.getElem?_cons_zero, List.getElem?_cons_succ] at c1
           have hzs := HSP2.out.lt
           clear e0 e1 hgrow hat hkx hu3 hb1 hown' HSP O2 O3 HD HBX
           have hzy := HBY.out.size
           have hsz := O2b
           go_wp2_with (at_builtin; go_loud (refine wpList_append_own_at _ rfl _ _ 35 rfl v1.heap.size 3 i0 (.int .i64 0) 1 8 Tryz.underlying35 hinf hz0 hz1 hz2 rfl (by decide) _ _ _ rfl (O3b.out.alloc _) ⟨w1.heap.size, 0, none⟩ 1 1 [.int .i64 (j : Int)] rfl rfl (cell_one_new _ _ _) (by simp [Value.oneCell']) (by unfold maxLen; omega) (by omega) (by simp; omega) ?_; intro v'' w4 hown2 hgrow2 _ hat2))
           have hkx : Keep (fun k => some k = u7.ownBlock) w1 w4 := (Keep.alloc w1 _ _).trans (Keep.of_grown hgrow2)
           have O2c := hide (own_stab O2b.out (fun k hk e => hkx.block k hk (fun h => hD2.out k e h.symm)))
           have hb1 := app_below (base := v1.heap.size) (by omega) O3b.out hgrow2
           have HBZ := hide (HBY.out.trans hb1)
           rw [nat_snoc] at hown2
           have O3c : Hid (OwnL w4 v1.heap.size v'' (mayTo b (j + 1))) := hide (by rw [HM.out, OwnL, List.length_append]; exact hown2)
           have hD3 : Hid (∀ k, v'.ownBlock = some k → v''.ownBlock ≠ some k) := hide (fun k hk h => by
            rcases hat2 with h1 | h1
            · rw [h1] at h; exact hD2.out k hk h
            · rw [h1] at h
              have := (World.ownsRow.lt O2b.out k hk).2
              simp only [Option.some.injEq, World.size_alloc] at h
              omega)
           clear hgrow2 hat2 hkx hb1 hown2
           go_roundw
           case rel => exact ⟨j + 1, hlt, by go_num, O2c, O3c, hD3, HBZ⟩
           case measure => simp [intOf]; omega
         · obtain rfl : s1 = 0 := by omega
           rw [if_neg hs, List.append_nil] at HS
           clear hs
           go_wp2_with (at_builtin; go_loud (refine wpList_append_own_at _ rfl _ _ 35 rfl v1.heap.size 3 i0 (.int .i64 0) 1 8 Tryz.underlying35 hinf hz0 hz1 hz2 rfl (by decide) _ _ _ rfl (O3.out.alloc _) ⟨W3.heap.size, 0, none⟩ 1 1 [.int .i64 (j : Int)] rfl rfl (cell_one_new _ _ _) (by simp [Value.oneCell']) (by unfold maxLen; omega) (by omega) (by simp; omega) ?_; intro v'' w4 hown2 hgrow2 _ hat2))
           have hkx : Keep (fun k => some k = u7.ownBlock) W3 w4 := (Keep.alloc W3 _ _).trans (Keep.of_grown hgrow2)
           have O2c := hide (own_stab O2.out (fun k hk e => hkx.block k hk (fun h => HD.out k e h.symm)))
           have hb1 := app_below (base := v1.heap.size) (by omega) O3.out hgrow2
           have HBZ := hide (HBX.out.trans hb1)
           rw [nat_snoc] at hown2
           have O3c : Hid (OwnL w4 v1.heap.size v'' (mayTo b (j + 1))) := hide (by rw [HM.out, OwnL, List.length_append]; exact hown2)
           have hD3 : Hid (∀ k, u6.ownBlock = some k → v''.ownBlock ≠ some k) := hide (fun k hk h => by
            rcases hat2 with h1 | h1
            · rw [h1] at h; exact HD.out k hk h
            · rw [h1] at h
              have := hv2.out k hk
              simp only [Option.some.injEq, World.size_alloc] at h
              omega)
           clear hgrow2 hat2 hkx hb1 hown2
           go_roundw
           case rel => exact ⟨j + 1, hlt, by go_num, hide (by rw [HS.out]; exact O2c.out), O3c, hD3, HBZ⟩
           case measure => simp [intOf]; omega
     · obtain rfl : j = b.steps.length := by omega
       obtain ⟨A, cp, rfl, hA⟩ := own_ex HO2.out
       obtain ⟨A', cp', rfl, hA'⟩ := own_ex HO3.out
       have hi := ints_own hA
       have hi' := ints_own hA'
       have HI := hide hi
       have HI' := hide hi'
       clear hA hA' hi hi' HO2 HO3 HD
       generalize sureTo b b.steps.length = L1 at *
       generalize mayTo b b.steps.length = L2 at *
       go_wp2_with fail
       exact bodyPost_ret (v := .tuple #[.slice A L1.length cp, .slice A' L2.length cp', .int .i64 0]) (by simp [results, Tryz.results25, go_sem]) rfl ⟨A, cp, A', cp', by rw [HWV.out], by rw [HWV.out]; simpa [natInts_length] using HI.out, by rw [HWV.out]; simpa [natInts_length] using HI'.out, HB1.out.trans (HBW.out.mono HB1.out.size)⟩
  · have hd : (enterK b 0 != 0) = true := by simpa using hk
    have HWV := hide (show missV b = ([], [], enterK b 0) by rw [missV, if_neg hk])
    clear hk
    generalize enterK b 0 = K at *
    go_wp2_with fail
    exact bodyPost_ret (v := .tuple #[.slice none 0 0, .slice none 0 0, .int .i64 K]) (by simp [results, Tryz.results25, go_sem]) rfl ⟨none, 0, none, 0, by rw [HWV.out]; rfl, by rw [HWV.out]; exact IntsS.nil_, by rw [HWV.out]; exact IntsS.nil_, HB1.out⟩

set_option maxHeartbeats 4000000 in
set_option maxRecDepth 100000 in
theorem where12_any {b : Book} {a : BA} {w : World} (h : BookV w w.heap.size b a) :
 Calls Tryz.prog 28 #[bookVal b a] w fun e w' => e = .returned (.tuple #[.int .i64 (whereV b).1, .int .i64 (whereV b).2.1, .int .i64 (whereV b).2.2]) ∧ Below w.heap.size w w' := by
 have HX := hide (BoxB.made h)
 have HB := hide (show Below w.heap.size w (w.alloc (.cells (bookCells b a) 25)) from (Below.refl _ _).alloc (Nat.le_refl _) _)
 have hm1 := h.m1
 unfold maxLen at hm1
 clear h
 go_enter Tryz.func28, Tryz.ntmps28
 go_upto_region 1 with (fail)
 generalize (w.alloc (.cells (bookCells b a) 25)) = v0 at *
 obtain ⟨gx, x0, x1⟩ := HX.out.cells
 refine wp_region_rel (dst := fun oi => [11, 12, 13, 14, 5].getD oi 0) (mono := fun oi => decide (oi < 5)) (pre := fun oi => decide (oi < 5)) (R := LKeep (fun _ => False) (fun _ => True))
  (Pv := fun oi v W => match oi with
   | 0 => v = bookVal b a
   | 1 => v = bookVal b a
   | 2 => v = .int .i64 (askK b 0)
   | 3 => v = .int .i64 (enterK b 0)
   | 4 => v = .int .i64 (enterK b 0)
   | _ => True) (by kernel_rfl) (by kernel_rfl) (LKeep.refl _ _) (fun _ _ _ h h' => h.trans h') ?hst ?hstep ?hend
 case hst =>
  intro oi v W W' h hk
  match oi, h with
  | 0, h => exact h
  | 1, h => exact h
  | 2, h => exact h
  | 3, h => exact h
  | 4, h => exact h
  | oi + 5, h => exact trivial
 case hstep =>
  intro oi hoi hom listed vs ao W hU hk0 hpv haft Ko hK
  have hkk := (LKeep.drew (fun _ => False) (M := fun _ => True) v0 (fun h => h)).trans hk0
  have hk := hkk.1
  have hkm := hkk.2
  clear hkk
  match oi, hoi, hom with
  | 0, hoi, hom =>
   have z1 : ao.tmps[1]?.getD undef = .pointer (some ⟨w.heap.size, 0, none⟩) := hU.same 1 (by decide)
   have y0 := (hk.cell (b := w.heap.size) (o := 0) (gx) (fun h => h)).trans (x0)
   have y1 := (hk.cell (b := w.heap.size) (o := 1) (gx) (fun h => h)).trans (x1)
   refine wpOp_value (v := bookVal b a) (W' := W) rfl rfl ?_ (hK _ _ (LKeep.refl _ _ _) rfl)
   go_simp
  | 1, hoi, hom =>
   have z1 : ao.tmps[1]?.getD undef = .pointer (some ⟨w.heap.size, 0, none⟩) := hU.same 1 (by decide)
   have y0 := (hk.cell (b := w.heap.size) (o := 0) (gx) (fun h => h)).trans (x0)
   have y1 := (hk.cell (b := w.heap.size) (o := 1) (gx) (fun h => h)).trans (x1)
   refine wpOp_value (v := bookVal b a) (W' := W) rfl rfl ?_ (hK _ _ (LKeep.refl _ _ _) rfl)
   go_simp
  | 2, hoi, hom =>
   have l1 := haft _ rfl ⟨1, .data⟩ (by simp) rfl
   have s1 : ao.tmps[12]?.getD undef = bookVal b a := (hU.slot 1 (by decide) l1).trans (hpv 1 l1)
   have hc := asked12_any (HX.out.v.next (hk.below (B := v0.heap.size) (fun k h => h.elim) (Nat.le_refl _))) 0
   refine wpOp_enter (f := 68) (args := #[bookVal b a, .int .i64 0]) (W' := W) rfl rfl ?_ ((hc).mono (fun e w'' h => ?_))
   · go_simp
   · obtain ⟨he, hbw⟩ := h
     exact ⟨_, he, hK _ _ (LKeep.below hbw (fun h => h)) rfl⟩
  | 3, hoi, hom =>
   have l0 := haft _ rfl ⟨0, .data⟩ (by simp) rfl
   have s0 : ao.tmps[11]?.getD undef = bookVal b a := (hU.slot 0 (by decide) l0).trans (hpv 0 l0)
   have l2 := haft _ rfl ⟨2, .data⟩ (by simp) rfl
   have s2 : ao.tmps[13]?.getD undef = .int .i64 (askK b 0) := (hU.slot 2 (by decide) l2).trans (hpv 2 l2)
   have hc := known12_any (HX.out.v.next (hk.below (B := v0.heap.size) (fun k h => h.elim) (Nat.le_refl _))) (e := askK b 0) ask_valid
   rw [known_ask] at hc
   refine wpOp_enter (f := 67) (args := #[bookVal b a, .int .i64 (askK b 0)]) (W' := W) rfl rfl ?_ ((hc).mono (fun e w'' h => ?_))
   · go_simp
   · obtain ⟨he, hbw⟩ := h
     exact ⟨_, he, hK _ _ (LKeep.below hbw (fun h => h)) rfl⟩
  | 4, hoi, hom =>
   have l3 := haft _ rfl ⟨3, .data⟩ (by simp) rfl
   have s3 : ao.tmps[14]?.getD undef = .int .i64 (enterK b 0) := (hU.slot 3 (by decide) l3).trans (hpv 3 l3)
   refine wpOp_value (v := .int .i64 (enterK b 0)) (W' := W) rfl rfl ?_ (hK _ _ (LKeep.refl _ _ _) rfl)
   go_simp
  | oi + 5, hoi, hom => exact absurd (of_decide_eq_true hom) (by omega)
 case hend =>
  intro listed vs ao W hG hk0 hpv hpre
  have hkk := (LKeep.drew (fun _ => False) (M := fun _ => True) v0 (fun h => h)).trans hk0
  have hk := hkk.1
  have hkm := hkk.2
  clear hkk
  have hact := hG.act
  have hT := hG.lst hpre 0 #[true, true, true, true, true] rfl (by kernel_rfl) (hpre 0 (by decide) (by decide))
  rw [hG.ix hT (l := [0, 1, 2, 3, 4]) (by kernel_rfl)] at hact
  rw [hG.lo hT (k := 0) (by kernel_rfl)]
  have hv0 : vs 0 = bookVal b a := hpv 0 (hpre 0 (by decide) (by decide))
  have hv1 : vs 1 = bookVal b a := hpv 1 (hpre 1 (by decide) (by decide))
  have hv2 : vs 2 = .int .i64 (askK b 0) := hpv 2 (hpre 2 (by decide) (by decide))
  have hv3 : vs 3 = .int .i64 (enterK b 0) := hpv 3 (hpre 3 (by decide) (by decide))
  have hv4 : vs 4 = .int .i64 (enterK b 0) := hpv 4 (hpre 4 (by decide) (by decide))
  clear hpv hpre hG hk0
  obtain rfl : ao = _ := hact
  subst hT
  simp only [setAll, List.setIfInBounds_toArray, List.set_cons_succ, List.set_cons_zero, List.getD_cons_succ, List.getD_cons_zero]
  simp only [hv0, hv1, hv2, hv3, hv4]
  clear hv0 hv1 hv2 hv3 hv4
  refine wpAny_done (by kernel_rfl) ?_ _
  have hb := (hk.below (B := v0.heap.size) (fun k h => h.elim) (Nat.le_refl _))
  clear hk hkm
  have HX1 := hide (HX.out.next hb)
  have HB1 := hide (HB.out.trans (hb.mono HB.out.size))
  have hz := HX.out.k.lt
  have hzb := hb.size
  clear x0 x1 gx hb HX
  generalize W = v1 at *
  by_cases hk : enterK b 0 = 0
  · have HV := hide (enterK_zero hk)
    have HWV := hide (where_yes hk)
    have h6 := (enterK_zero hk).1.steps
    have HSV := hide (show someV b = true by rw [someV_enter, hk]; rfl)
    have HG := hide HV.out.1.good
    have h12 : b.tallies.length ≤ 12 := by have := HV.out.1.tallies; omega
    have HSM := hide (show someB b (hasInt [] ·) = true from HV.out.2.2)
    have HLE := hide (fun (j : Nat) (hj : j < b.steps.length) => show endsTo (setOf (lostB b j)) 100 = lostB b j from ends_set (by have h1 := lost_facts HSV.out hj; have h2 := HG.out.loss j hj; exact ⟨h1.1, h1.2.1, by omega⟩))
    have HLF := hide (fun (j : Nat) (hj : j < b.steps.length) => lost_facts HSV.out hj)
    rw [hk]
    clear hk
    obtain ⟨gx, x0, x1⟩ := HX1.out.cells
    go_wp2_with fail
    clear gx x0 x1
    go_loopw [6, 7, 8, 9, 10, 18, 19, 20, 21, 22, 23, 24, 25, 26, 27, 28, 29, 30, 31, 32, 33, 34, 35, 36, 37, 38] (fun v6 v7 v8 _ _ _ _ _ _ _ _ _ _ _ _ _ _ _ _ _ _ _ _ _ _ _ wr => ∃ j : Nat, j ≤ b.steps.length ∧ v8 = .int .i64 (j : Nat) ∧ v7 = .int .i64 (whereTo b j).2 ∧ v6 = .int .i64 ((whereTo b j).1 : Nat) ∧ Hid (Below v1.heap.size v1 wr)) (fun v6 v7 v8 _ _ _ _ _ _ _ _ _ _ _ _ _ _ _ _ _ _ _ _ _ _ _ _ => b.steps.length - (intOf v8).toNat)
    case atStart => exact ⟨0, Nat.zero_le _, rfl, rfl, rfl, hide (Below.refl _ _)⟩
    case round =>
     obtain ⟨j, hj, rfl, rfl, rfl, HBW⟩ := hrel
     have hj0 : (0 : Int) ≤ (j : Int) := Int.natCast_nonneg _
     have HX2 := hide (HX1.out.next HBW.out)
     obtain ⟨gx, x0, x1⟩ := HX2.out.cells
     by_cases hlt : j < b.steps.length
     · have hjl : (j : Int) < (b.steps.length : Int) := by omega
       have HST := hide (show whereTo b (j + 1) = if (whereTo b j).2 < (lostB b j).lo then (j, (lostB b j).lo) else whereTo b j from rfl)
       have HEJ := hide (HLE.out j hlt)
       go_upto_region 9 with (first | (go_at_call 72; refine (losses12_any HX2.out.v HG.out h12 HSM.out hlt).mono ?_; rintro e y2 ⟨rfl, hb3⟩) | (go_at_call 69; refine (ends12_any (setOf (lostB b j)) y2).mono ?_; rintro e w2 ⟨rfl, hb9⟩; have hb2 := hb3.trans (hb9.mono hb3.size); rw [endsV, HEJ.out]))
       clear hb9 hb3 gx x0 x1
       clear HEJ
       generalize lostB b j = sl at *
       obtain ⟨s1, s2⟩ := sl
       have hba : Below w2.heap.size w2 (w2.alloc (.cells #[.int .i64 s1, .int .i64 s2] 30)) := (Below.refl _ _).alloc (Nat.le_refl _) _
       have hb3 := hb2.trans (hba.mono hb2.size)
       have HSP := hide (show Blk (w2.alloc (.cells #[.int .i64 s1, .int .i64 s2] 30)) w2.heap.size 30 #[.int .i64 s1, .int .i64 s2] from Blk.made)
       have HBX := hide (HBW.out.trans (hb3.mono HBW.out.size))
       clear hba hb2 hb3 HX2
       generalize w2.alloc (.cells #[.int .i64 s1, .int .i64 s2] 30) = W3 at *
       have e0 := HSP.out.at_ 0
       have hz3 := HSP.out.lt
       simp only [List.getElem?_toArray, List.getElem?_cons_zero, List.getElem?_cons_succ] at e0
       generalize hT : whereTo b j = T at *
       obtain ⟨t1, t2⟩ := T
       dsimp only at HST
       clear hT
       by_cases hc : t2 < s1
       · rw [if_pos hc] at HST
         go_upto_region 10 with fail
         go_quiet (fail)
         have hb := below_drewN (Below.refl W3.heap.size W3) nq
         have HBZ := hide (HBX.out.trans (hb.mono HBX.out.size))
         go_wp2_with fail
         go_roundw
         case rel => exact ⟨j + 1, hlt, by go_num, by rw [HST.out], by rw [HST.out], HBZ⟩
         case measure => simp [intOf]; omega
       · rw [if_neg hc] at HST
         have hc2 : s1 ≤ t2 := by omega
         go_wp2_with fail
         go_roundw
         case rel => exact ⟨j + 1, hlt, by go_num, by rw [HST.out], by rw [HST.out], HBX⟩
         case measure => simp [intOf]; omega
     · obtain rfl : j = b.steps.length := by omega
       generalize whereTo b b.steps.length = T at *
       obtain ⟨t1, t2⟩ := T
       dsimp only at HWV ⊢
       have HBZ := hide (HB1.out.trans (HBW.out.mono HB1.out.size))
       by_cases hc : t2 = 0
       · subst hc
         rw [if_pos rfl] at HWV
         go_wp2_with fail
         exact bodyPost_ret (v := .tuple #[.int .i64 0, .int .i64 0, .int .i64 9]) (by simp [results, Tryz.results28, go_sem]) rfl ⟨by rw [HWV.out] <;> rfl, HBZ.out⟩
       · rw [if_neg hc] at HWV
         have hd : (t2 == 0) = false := by simpa using hc
         clear hc
         go_wp2_with fail
         exact bodyPost_ret (v := .tuple #[.int .i64 (t1 : Nat), .int .i64 t2, .int .i64 0]) (by simp [results, Tryz.results28, go_sem]) rfl ⟨by rw [HWV.out], HBZ.out⟩
  · have HWV := hide (where_no hk)
    have hd : (enterK b 0 != 0) = true := by simpa using hk
    clear hk
    generalize enterK b 0 = K at *
    go_wp2_with fail
    exact bodyPost_ret (v := .tuple #[.int .i64 0, .int .i64 0, .int .i64 K]) (by simp [results, Tryz.results28, go_sem]) rfl ⟨by rw [HWV.out] <;> rfl, HB1.out⟩

end Go.Proofs.YtocdmkilnbpkdaaGreatDoor
