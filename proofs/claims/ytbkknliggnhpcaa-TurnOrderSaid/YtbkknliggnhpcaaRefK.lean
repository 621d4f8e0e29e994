/- The contract of the reference's First of chapter 07. -/
import Derived.Test.YtbkknliggnhpcaaRefJ
set_option linter.unusedVariables false
set_option linter.unusedSimpArgs false
namespace Go.Proofs.Ytbkknliggnhpcaa
open Go.RowKit
attribute [local go_sem ↓] Go.wp_at_zero Go.wp_at_succ

theorem any_take {α : Type} [Inhabited α] (l : List α) (p : α → Bool) {j : Nat} (h : j < l.length) : (l.take (j + 1)).any p = ((l.take j).any p || p (nth l j)) := by rw [take_nth h]; simp
theorem firstTo7_zero (c : Cargo) (hold q : Nat) (p : Int × List Int) : firstTo7 c hold q p 0 = decide (nth (timesW c hold p) q < (c.heat.length : Int) + 1) := by simp [firstTo7]
theorem firstTo7_succ (c : Cargo) (hold q : Nat) (p : Int × List Int) {j : Nat} (h : j < (ofL c hold []).length) : firstTo7 c hold q p (j + 1) = (firstTo7 c hold q p j && decide (nth (timesW c hold p) q ≤ nth (timesW c hold p) (nth (ofL c hold []) j))) := by
  rw [firstTo7, firstTo7, take_nth h]; simp [Bool.and_assoc]
theorem firstTo7_all (c : Cargo) (hold q : Nat) (p : Int × List Int) : firstTo7 c hold q p (ofL c hold []).length = firstB c hold q p := by rw [firstTo7, List.take_length]; rfl

set_option maxHeartbeats 8000000 in
set_option maxRecDepth 100000 in
theorem first7_any {A1 A2 A3 A4 : Option Addr} {c1 c2 c3 c4 : Nat} {c : Cargo} {w : World} (h : CargoV w w.heap.size c A1 A2 A3 A4 c1 c2 c3 c4) (hold : Int) :
    Calls Try.prog 25 #[cargoVal c A1 A2 A3 A4 c1 c2 c3 c4, .int .i64 hold] w fun e w' => ∃ A' c', e = .returned (.tuple #[.slice A' (firstR c hold).length c', .int .i64 (firstE7 c hold)]) ∧ IntsS w' w'.heap.size A' (firstR c hold).length c' (natInts (firstR c hold)) ∧ Below w.heap.size w w' := by
  have hm2 := h.m2
  unfold maxLen at hm2
  obtain ⟨i0, hi, hz0, hz1, hz2⟩ := info_parts Try.infoInt
  have HK := hide (BoxC.made h)
  have HB : Hid (Below w.heap.size w (w.alloc (.cells #[.slice A1 c.heat.length c1, .int .i64 c.gas, .slice A2 c.holds.length c2, .slice A3 c.lots.length c3, .slice A4 c.seen.length c4] 27))) := hide ((Below.refl _ _).alloc (Nat.le_refl _) _)
  have HRR := hide (show firstR c hold = if firstE7 c hold ≠ 0 then [] else (ofL c hold.toNat []).filter fun q => (waysM c hold.toNat []).any (firstB c hold.toNat q) from rfl)
  have HSV := hide (fun h => firstE7_valid (c := c) (hold := hold) h)
  have hbel : (0 : Int) ≤ (c.holds.length : Int) ∧ (c.holds.length : Int) ≤ 9223372036854775807 := by omega
  clear h
  go_enter Try.func25, Try.ntmps25
  go_upto_region 1 with (fail)
  generalize (w.alloc (.cells #[.slice A1 c.heat.length c1, .int .i64 c.gas, .slice A2 c.holds.length c2, .slice A3 c.lots.length c3, .slice A4 c.seen.length c4] 27)) = v0 at *
  obtain ⟨hv, z, x0, x1, x2, x3, x4⟩ := HK.out
  have HCG : Hid (∀ t : Later v0, CargoV (grow v0 t) (grow v0 t).heap.size c A1 A2 A3 A4 c1 c2 c3 c4) := hide (fun t => hv.next grow_below)
  clear hv
  refine wp_region_grow (by kernel_rfl) (by kernel_rfl) ?_
  have hgc := @grow_cell
  repeat (first | go_big_quiet_step (((first | (go_at_call 74; exact Calls.grow_of (index7_any (HCG.out _) _ _ hbel)) | (go_at_call 73; exact Calls.grow_of (truth7_any (HCG.out _) _ (fun h => (indexE_valid h).1)))))) | quiet_step (((first | (go_at_call 74; exact Calls.grow_of (index7_any (HCG.out _) _ _ hbel)) | (go_at_call 73; exact Calls.grow_of (truth7_any (HCG.out _) _ (fun h => (indexE_valid h).1)))))))
  refine wpQuiet_nil ?_
  rintro _ ⟨t, rfl⟩
  have hbt := grow_below (w := v0) (t := t)
  have HK := hide (HK.out.next hbt)
  have HB := hide (HB.out.trans (hbt.mono HB.out.size))
  have HTE := hide (show truthE c (indexE c hold (c.holds.length : Nat)) = firstE7 c hold from rfl)
  rw [HTE.out]
  clear hgc z x0 x1 x2 x3 x4 hbt HCG
  generalize grow v0 t = v1 at *
  generalize hEE : firstE7 c hold = E at *
  have HEE := hide hEE
  clear hEE
  cases hce : (E != 0) with
  | true =>
    have HNE := hide (show E ≠ 0 by simpa using hce)
    go_wp2_with fail
    go_ret2
    have hR := HRR.out
    rw [if_pos HNE.out] at hR
    rw [hR, HEE.out]
    exact ⟨none, 0, rfl, IntsS.nil_.more (Nat.zero_le _), HB.out⟩
  | false =>
    have hE : E = 0 := by simpa using hce
    obtain ⟨hval, -, hh0, hh1⟩ := HSV.out hE
    obtain ⟨hd, rfl⟩ : ∃ k : Nat, hold = (k : Int) := ⟨hold.toNat, by omega⟩
    have hhd2 : hd < c.holds.length := by omega
    have hR := HRR.out
    rw [if_neg (by simp [hE]), Int.toNat_natCast] at hR
    have HR := hide hR
    have HVD := hide hval
    have HSM := hide hval.small
    have hlots := hval.lots
    have hht := hval.hours
    have hlots6 : c.lots.length ≤ 1000000 := by omega
    clear hval hR HRR HSV
    subst hE
    obtain ⟨hv, z, x0, x1, x2, x3, x4⟩ := HK.out
    have HV := hide hv
    clear hv
    go_upto_region 5 with (go_at_call 45; refine (of_any HV.out (hd : Int) IntsS.nil_ hlots6).mono ?_; rintro e v2 ⟨AL, cL, rfl, hL, hb⟩)
    have HK := hide (HK.out.next hb)
    have HB := hide (HB.out.trans (hb.mono HB.out.size))
    have HL := hide hL
    clear hb hL z x0 x1 x2 x3 x4 HV
    obtain ⟨hv, z, x0, x1, x2, x3, x4⟩ := HK.out
    have HV := hide hv
    clear hv
    go_upto_region 6 with (go_at_call 44; refine (ways7_any HV.out HVD.out hhd2 IntsS.nil_).mono ?_; rintro e v3 ⟨AA, cA, rfl, hAll, hb⟩)
    have HMEM := hide (fun (j : Nat) (hj : j < (waysM c hd []).length) => waysM_mem HVD.out hhd2 (show nth (waysM c hd []) j ∈ waysM c hd [] by rw [nth_eq hj]; exact List.getElem_mem hj))
    have hwl := waysM_len HVD.out hhd2 (but := [])
    have HK := hide (HK.out.next hb)
    have HB := hide (HB.out.trans (hb.mono HB.out.size))
    have HL := hide (HL.out.next hb)
    have HWL := hide hAll
    have hnb := hAll.bd
    have HLT := hide (fun (k : Nat) (hk : k < (ofL c hd []).length) => ofL_lt (c := c) (hold := hd) (but := []) (nth (ofL c hd []) k) (by rw [nth_eq hk]; exact List.getElem_mem hk))
    have hLl : (ofL c (hd : Int) []).length ≤ 4 := Nat.le_trans (ofTo_le c hd [] c.lots.length) hlots
    have HFT := hide (fun (q : Nat) (p : Int × List Int) (j : Nat) (hj : j < (ofL c hd []).length) => firstTo7_succ c hd q p hj)
    have HFA := hide (fun (q : Nat) (p : Int × List Int) => firstTo7_all c hd q p)
    have HF0 := hide (fun (q : Nat) (p : Int × List Int) => firstTo7_zero c hd q p)
    have HTW := hide (fun (p : Int × List Int) => show timesM c (ofL c hd []) p.1 p.2 = timesW c hd p from rfl)
    have HND := hide (ofL_nodup c hd [])
    have HLT2 := hide (ofL_lt (c := c) (hold := hd) (but := []))
    clear hb z x0 x1 x2 x3 x4 HV hAll
    generalize waysM c hd [] = ws at *
    have HFI := hide (fun (k : Nat) (hk : k < (ofL c (hd : Int) []).length) => filter_take (ofL c hd []) (fun q => ws.any (firstB c hd q)) hk)
    have HFL := hide (fun (k : Nat) => List.length_filter_le (fun q => ws.any (firstB c hd q)) ((ofL c hd []).take k))
    generalize ofL c hd [] = L at *
    go_wp2_with fail
    go_loopw [9, 10] (fun v9 v10 wr => ∃ k : Nat, k ≤ L.length ∧ v10 = .int .i64 k ∧ Below v3.heap.size v3 wr ∧ wr.ownsRow v3.heap.size 3 1 v9 ((L.take k).filter fun q => ws.any (firstB c hd q)).length (((L.take k).filter fun q => ws.any (firstB c hd q)).map fun n : Nat => .int .i64 n)) (fun _ v10 _ => L.length - (intOf v10).toNat)
    case atStart => exact ⟨0, Nat.zero_le _, rfl, Below.refl _ _, World.ownsRow_nil _ _ _ _⟩
    case round =>
      obtain ⟨k, hk, rfl, hB, hO⟩ := hrel
      obtain ⟨wa, rfl⟩ : ∃ wa : World, wa = wr := ⟨_, rfl⟩
      have hsa := hB.size
      have HBA := hide hB
      have HOA := hide hO
      clear hB hO
      by_cases hlk : k < L.length
      · obtain ⟨bl, ol, hAL, hbl, hlc⟩ := HL.out.row (by omega)
        subst hAL
        have HLC := hide (fun (j : Nat) (hj : j < L.length) => hlc j hj)
        have hq := HLT.out k hlk
        have HNT := hide (fun (j : Nat) (hj : j < L.length) => nth_natInts (l := L) hj)
        have HFK := hide (HFI.out k hlk)
        have hlek := HFL.out k
        clear hlc
        obtain ⟨q, hqe⟩ : ∃ q, q = nth L k := ⟨_, rfl⟩
        rw [← hqe] at hq
        have HQE := hide hqe
        clear hqe
        go_wp2_with fail
        go_loopw [11, 12] (fun v11 v12 wr => ∃ i : Nat, i ≤ ws.length ∧ v12 = .int .i64 i ∧ v11 = .bool ((ws.take i).any (firstB c hd q)) ∧ Below wa.heap.size wa wr) (fun _ v12 _ => ws.length - (intOf v12).toNat)
        case atStart => exact ⟨0, Nat.zero_le _, rfl, rfl, Below.refl _ _⟩
        case round =>
          obtain ⟨i, hi', rfl, rfl, hB⟩ := hrel
          have hsb := hB.size
          obtain ⟨wb, rfl⟩ : ∃ wb : World, wb = wr := ⟨_, rfl⟩
          by_cases hli : i < ws.length
          · obtain ⟨bw, ow, Ag, cg, rfl, hbw, hg0, hg1, hgi⟩ := HWL.out.at_ hli
            have HME := hide (HMEM.out i hli)
            have hB3 := HBA.out.trans (hB.mono hsa)
            have HKR := hide (HK.out.next hB3)
            obtain ⟨hv, zz1, q0, q1, q2, q3, q4⟩ := HKR.out
            have HCC := hide (hv.next (Below.refl _ _).drew)
            have q5 := (hB3.cell (p := ⟨bw, ow + i * 2, none⟩) hbw).trans hg0
            have q6 := (hB3.cell (p := ⟨bw, ow + i * 2 + 1, none⟩) hbw).trans hg1
            have HGG := hide (((hgi.below hB3).more hB3.size).next (Below.refl _ _).drew)
            have HLL := hide ((HL.out.next hB3).next (Below.refl _ _).drew)
            have zz2 : bw < wb.heap.size := by have := hB3.size; omega
            have zz3 : bl < wb.heap.size := by have := hB3.size; omega
            have hj0 : (0 : Int) ≤ (i : Int) := Int.natCast_nonneg _
            have hj1 : (i : Int) < (ws.length : Int) := by omega
            have HAN := hide (any_take ws (firstB c hd q) hli)
            have HBB := hide hB
            have HB3 := hide hB3
            clear hv hB hB3 hg0 hg1 hgi
            go_wp2_with fail
            go_region_held3 (fun w' => w'.cell? ⟨w.heap.size, 0, none⟩ = some (.slice A1 c.heat.length c1) ∧ w'.cell? ⟨w.heap.size, 1, none⟩ = some (.int .i64 c.gas) ∧ w'.cell? ⟨w.heap.size, 2, none⟩ = some (.slice A2 c.holds.length c2) ∧ w'.cell? ⟨w.heap.size, 3, none⟩ = some (.slice A3 c.lots.length c3) ∧ w'.cell? ⟨w.heap.size, 4, none⟩ = some (.slice A4 c.seen.length c4) ∧
               w'.cell? ⟨bw, ow + i * 2, none⟩ = some (.int .i64 (nth ws i).1) ∧ w'.cell? ⟨bw, ow + i * 2 + 1, none⟩ = some (.slice Ag (nth ws i).2.length cg))
              (first
                | exact ⟨(hbC.cell (p := ⟨_, _, _⟩) zz1).trans q0, (hbC.cell (p := ⟨_, _, _⟩) zz1).trans q1, (hbC.cell (p := ⟨_, _, _⟩) zz1).trans q2, (hbC.cell (p := ⟨_, _, _⟩) zz1).trans q3, (hbC.cell (p := ⟨_, _, _⟩) zz1).trans q4, (hbC.cell (p := ⟨_, _, _⟩) zz2).trans q5, (hbC.cell (p := ⟨_, _, _⟩) zz2).trans q6⟩
                | exact ⟨q0, q1, q2, q3, q4, q5, q6⟩
                | go_keep)
              (first
                | (go_at_call 85; refine (times7_any HCC.out HSM.out HLL.out HLT2.out HND.out HGG.out HME.out.2.1 (fun i => by have := HME.out.2.2 i; omega) HME.out.1).mono ?_; rintro e w3 ⟨At, ct, rfl, hT, hbC'⟩; have hbC := ((Below.refl wb.heap.size wb).drew).trans hbC'))
            rw [HTW.out] at hT
            obtain ⟨bt, ot, rfl, hbt, htc⟩ := hT.row (by omega)
            have HTC := hide htc
            have HBC := hide (HBB.out.trans (hbC.mono hsb))
            have HKC := hide (HKR.out.next hbC)
            have hzC := hbC.size
            clear hbC hbC' hT htc q0 q1 q2 q3 q4 q5 q6 HCC HGG HLL zz1 zz2
            obtain ⟨hv, zz1, q0, q1, q2, q3, q4⟩ := HKC.out
            clear hv
            have HB3C := hide (HBA.out.trans (HBC.out.mono hsa))
            have r0 := (HB3C.out.cell (p := ⟨bl, ol + k, none⟩) hbl).trans (HLC.out k hlk)
            rw [show intsF (natInts L) k = .int .i64 (q : Nat) by rw [intsF, HNT.out k hlk, HQE.out]] at r0
            have r1 := HTC.out q hq
            rw [intsF] at r1
            have zz4 : bl < w3.heap.size := by omega
            have hk0 : (0 : Int) ≤ (k : Int) := Int.natCast_nonneg _
            have hk1 : (k : Int) < (L.length : Int) := by omega
            have hq0 : (0 : Int) ≤ (q : Int) := Int.natCast_nonneg _
            have hq1 : (q : Int) < (c.lots.length : Int) := by omega
            have hn6 : c.heat.length ≤ 1000000 := by omega
            have HT0 := hide (HF0.out q (nth ws i))
            have HTS := hide (HFT.out q (nth ws i))
            have HTA := hide (HFA.out q (nth ws i))
            have HAN2 := hide HAN.out
            go_wp2_with fail
            refine wp_region_grow (by kernel_rfl) (by kernel_rfl) ?_
            have hgc := @grow_cell
            repeat (first | go_big_quiet_step (((go_at_call 39; exact Calls.grow_of (never_any c _ hn6)))) | quiet_step (((go_at_call 39; exact Calls.grow_of (never_any c _ hn6)))))
            refine wpQuiet_nil ?_
            rintro _ ⟨t, rfl⟩
            have hbt2 := grow_below (w := w3) (t := t)
            clear hgc r0 r1 q0 q1 q2 q3 q4
            have HTD := hide (fun (j : Nat) (hj : j < c.lots.length) => (hbt2.cell (p := ⟨bt, ot + j, none⟩) hbt).trans (HTC.out j hj))
            have HB3D := hide (HB3C.out.trans (hbt2.mono (by omega)))
            have HBD := hide (HBC.out.trans (hbt2.mono (by omega)))
            have zt := hbt2.size
            clear hbt2
            generalize grow w3 t = w4 at *
            have zz5 : bl < w4.heap.size := by omega
            have zz6 : bt < w4.heap.size := by omega
            rw [← HT0.out]
            generalize timesW c hd (nth ws i) = T at *
            generalize hmt : (ws.take i).any (firstB c hd q) = met at *
            clear hmt
            go_wp2_with fail
            go_loopw [14, 15] (fun v14 v15 wr => ∃ j : Nat, j ≤ L.length ∧ v15 = .int .i64 j ∧ v14 = .bool (firstTo7 c hd q (nth ws i) j) ∧ Below w4.heap.size w4 wr) (fun _ v15 _ => L.length - (intOf v15).toNat)
            case atStart => exact ⟨0, Nat.zero_le _, rfl, rfl, Below.refl _ _⟩
            case round =>
              obtain ⟨j, hj, rfl, rfl, hB⟩ := hrel
              have hsc := hB.size
              by_cases hlj : j < L.length
              · have HTJ := hide (HTS.out j hlj)
                have r0 := (hB.cell (p := ⟨bl, ol + k, none⟩) zz5).trans ((HB3D.out.cell (p := ⟨bl, ol + k, none⟩) hbl).trans (HLC.out k hlk))
                rw [show intsF (natInts L) k = .int .i64 (q : Nat) by rw [intsF, HNT.out k hlk, HQE.out]] at r0
                have r1 := (hB.cell (p := ⟨bl, ol + j, none⟩) zz5).trans ((HB3D.out.cell (p := ⟨bl, ol + j, none⟩) hbl).trans (HLC.out j hlj))
                rw [show intsF (natInts L) j = .int .i64 (nth L j : Nat) by rw [intsF, HNT.out j hlj]] at r1
                have hr := HLT.out j hlj
                generalize nth L j = r at *
                have r2 := (hB.cell (p := ⟨bt, ot + q, none⟩) zz6).trans (HTD.out q hq)
                have r3 := (hB.cell (p := ⟨bt, ot + r, none⟩) zz6).trans (HTD.out r hr)
                rw [intsF] at r2 r3
                have y1 : bl < wr.heap.size := by omega
                have y2 : bt < wr.heap.size := by omega
                have e1 : (0 : Int) ≤ (j : Int) := Int.natCast_nonneg _
                have e2 : (j : Int) < (L.length : Int) := by omega
                have e3 : (0 : Int) ≤ (r : Int) := Int.natCast_nonneg _
                have e4 : (r : Int) < (c.lots.length : Int) := by omega
                have HBW := hide hB
                clear hB
                generalize firstTo7 c hd q (nth ws i) j = isb at *
                cases isb with
                | true =>
                  go_wp2_with fail
                  go_quiet (fail)
                  go_wp2
                  go_roundw
                  case rel => exact ⟨j + 1, by omega, by go_num, by rw [HTJ.out]; simp, below_drewN HBW.out _⟩
                  case measure => simp [intOf]; omega
                | false =>
                  go_wp2_with fail
                  go_quiet (fail)
                  go_wp2
                  go_roundw
                  case rel => exact ⟨j + 1, by omega, by go_num, by rw [HTJ.out]; rfl, below_drewN HBW.out _⟩
                  case measure => simp [intOf]; omega
              · have hjj : j = L.length := by omega
                have HFB := hide (show firstTo7 c hd q (nth ws i) j = firstB c hd q (nth ws i) by rw [hjj]; exact HTA.out)
                rw [HFB.out]
                have HBW := hide (HBD.out.trans (hB.mono (by omega)))
                have HAN3 := HAN2
                clear hB hjj
                generalize firstB c hd q (nth ws i) = fb at *
                cases met with
                | true =>
                  go_wp2_with fail
                  go_roundw
                  case rel => exact ⟨i + 1, by omega, by go_num, by rw [HAN3.out]; rfl, HBW.out⟩
                  case measure => simp [intOf]; omega
                | false =>
                  go_wp2_with fail
                  go_roundw
                  case rel => exact ⟨i + 1, by omega, by go_num, by rw [HAN3.out]; simp, HBW.out⟩
                  case measure => simp [intOf]; omega
          · have hii : i = ws.length := by omega
            have HFF := hide (show (ws.take i).any (firstB c hd q) = ws.any (firstB c hd q) by rw [hii, List.take_length])
            rw [HFF.out]
            have HBW := hide (HBA.out.trans (hB.mono hsa))
            have hown := own_below HOA.out hB
            have r0 := (HBW.out.cell (p := ⟨bl, ol + k, none⟩) hbl).trans (HLC.out k hlk)
            rw [show intsF (natInts L) k = .int .i64 (q : Nat) by rw [intsF, HNT.out k hlk, HQE.out]] at r0
            have zz4 : bl < wb.heap.size := by omega
            have hk0 : (0 : Int) ≤ (k : Int) := Int.natCast_nonneg _
            have hk1 : (k : Int) < (L.length : Int) := by omega
            have HQF := hide (show (ws.any (firstB c hd (nth L k))) = ws.any (firstB c hd q) by rw [HQE.out])
            have hzw := HBW.out.size
            have hlt4 : ((L.take k).filter fun q => ws.any (firstB c hd q)).length ≤ 4 := by
              have h2 := List.length_take_le k L
              omega
            clear hB hii
            generalize ws.any (firstB c hd q) = met at *
            cases met with
            | true =>
              have HW := hide (show ((L.take (k + 1)).filter fun q => ws.any (firstB c hd q)) = ((L.take k).filter fun q => ws.any (firstB c hd q)) ++ [q] by rw [HFK.out, HQF.out, HQE.out]; rfl)
              go_wp2_with (at_builtin
                           refine wpList_append_own _ rfl _ _ 22 rfl v3.heap.size 3 i0 (.int .i64 0) 1 8 Try.underlying22 hi hz0 hz1 hz2 rfl (by decide) _ _ _ rfl (hown.alloc _) ⟨wb.heap.size, 0, none⟩ 1 1 [.int .i64 q] rfl rfl ?c1 ?c2 ?c3 ?c4 ?c5 ?_
                           case c1 => exact cell_one_new _ _ _
                           case c2 => simp [Value.oneCell']
                           case c3 => simp [maxLen]; omega
                           case c4 => omega
                           case c5 => simp; omega
                           intro v' w5 hown' hg _
                           have hb5 := app_below (base := v3.heap.size) hzw hown hg
                           clear hg)
              go_roundw
              case rel => exact ⟨k + 1, by omega, by go_num, HBW.out.trans hb5, by rw [HW.out]; simpa using hown'⟩
              case measure => simp [intOf]; omega
            | false =>
              have HW := hide (show ((L.take (k + 1)).filter fun q => ws.any (firstB c hd q)) = ((L.take k).filter fun q => ws.any (firstB c hd q)) by rw [HFK.out, HQF.out]; simp)
              go_wp2_with fail
              go_roundw
              case rel => exact ⟨k + 1, by omega, by go_num, HBW.out, by rw [HW.out]; exact hown⟩
              case measure => simp [intOf]; omega
      · have hkk : k = L.length := by omega
        have ho := HOA.out
        rw [hkk, List.take_length] at ho
        clear hkk
        obtain ⟨A, cp, rfl, hs⟩ := IntsS.of_own (xs := natInts (L.filter fun q => ws.any (firstB c hd q))) (by rw [natInts_vals]; exact ho)
        clear ho
        go_wp2_with fail
        go_ret2
        rw [HR.out, HEE.out]
        exact ⟨A, cp, rfl, hs, HB.out.trans (HBA.out.mono HB.out.size)⟩

end Go.Proofs.Ytbkknliggnhpcaa
