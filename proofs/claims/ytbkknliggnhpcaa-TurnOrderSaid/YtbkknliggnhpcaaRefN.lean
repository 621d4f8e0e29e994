/- The contract of the reference's Lasts of chapter 07. -/
import Derived.Test.YtbkknliggnhpcaaRefK
set_option linter.unusedVariables false
set_option linter.unusedSimpArgs false
namespace Go.Proofs.Ytbkknliggnhpcaa
open Go.RowKit
attribute [local go_sem ↓] Go.wp_at_zero Go.wp_at_succ

theorem all_take {α : Type} [Inhabited α] (l : List α) (p : α → Bool) {j : Nat} (h : j < l.length) : (l.take (j + 1)).all p = ((l.take j).all p && p (nth l j)) := by rw [take_nth h]; simp
def lastB (c : Cargo) (until' : Int) (T : List Int) (q : Nat) : Bool := decide ((nth c.lots q).frm > until') || decide (nth T q > until')
def lastsR (c : Cargo) (hd : Nat) (until' : Int) (out : List Int) : Bool := (waysM c hd []).all fun p => (ofL c hd out).all (lastB c until' (timesM c (ofL c hd out) p.1 p.2))

set_option maxHeartbeats 8000000 in
set_option maxRecDepth 100000 in
theorem lasts_any {A1 A2 A3 A4 Ax : Option Addr} {c1 c2 c3 c4 nx cx : Nat} {c : Cargo} {w : World} {ox : List Int} (h : CargoV w w.heap.size c A1 A2 A3 A4 c1 c2 c3 c4) (hval : Valid c) {hd : Nat} (hhd : hd < c.holds.length) (un : Int) (hx : IntsS w w.heap.size Ax nx cx ox) :
    Calls Try.prog 48 #[cargoVal c A1 A2 A3 A4 c1 c2 c3 c4, .int .i64 hd, .int .i64 un, .slice Ax nx cx] w fun e w' => e = .returned (.bool (lastsR c hd un ox)) ∧ Below w.heap.size w w' := by
  have HK := hide (BoxC.made h)
  have HB : Hid (Below w.heap.size w (w.alloc (.cells #[.slice A1 c.heat.length c1, .int .i64 c.gas, .slice A2 c.holds.length c2, .slice A3 c.lots.length c3, .slice A4 c.seen.length c4] 27))) := hide ((Below.refl _ _).alloc (Nat.le_refl _) _)
  have HX := hide (hx.next HB.out)
  have HRR := hide (show lastsR c hd un ox = (waysM c hd []).all fun p => (ofL c hd ox).all (lastB c un (timesM c (ofL c hd ox) p.1 p.2)) from rfl)
  have HVD := hide hval
  have HSM := hide hval.small
  have hlots := hval.lots
  have hlots6 : c.lots.length ≤ 1000000 := by omega
  clear h hx hval
  go_enter Try.func48, Try.ntmps48
  go_upto_region 1 with (fail)
  generalize (w.alloc (.cells #[.slice A1 c.heat.length c1, .int .i64 c.gas, .slice A2 c.holds.length c2, .slice A3 c.lots.length c3, .slice A4 c.seen.length c4] 27)) = v0 at *
  obtain ⟨hv, z, x0, x1, x2, x3, x4⟩ := HK.out
  have HV := hide hv
  clear hv
  go_upto_region 2 with (go_at_call 45; refine (of_any HV.out (hd : Int) HX.out hlots6).mono ?_; rintro e v2 ⟨AL, cL, rfl, hL, hb⟩)
  have HK := hide (HK.out.next hb)
  have HB := hide (HB.out.trans (hb.mono HB.out.size))
  have HL := hide hL
  clear hb hL z x0 x1 x2 x3 x4 HV
  obtain ⟨hv, z, x0, x1, x2, x3, x4⟩ := HK.out
  have HV := hide hv
  clear hv
  go_upto_region 3 with (go_at_call 44; refine (ways7_any HV.out HVD.out hhd IntsS.nil_).mono ?_; rintro e v3 ⟨AA, cA, rfl, hAll, hb⟩)
  have HMEM := hide (fun (j : Nat) (hj : j < (waysM c hd []).length) => waysM_mem HVD.out hhd (show nth (waysM c hd []) j ∈ waysM c hd [] by rw [nth_eq hj]; exact List.getElem_mem hj))
  have hwl := waysM_len HVD.out hhd (but := [])
  have HK := hide (HK.out.next hb)
  have HB := hide (HB.out.trans (hb.mono HB.out.size))
  have HL := hide (HL.out.next hb)
  have HWL := hide hAll
  have hnb := hAll.bd
  have HLT := hide (fun (k : Nat) (hk : k < (ofL c hd ox).length) => ofL_lt (c := c) (hold := hd) (but := ox) (nth (ofL c hd ox) k) (by rw [nth_eq hk]; exact List.getElem_mem hk))
  have hLl : (ofL c (hd : Int) ox).length ≤ 4 := Nat.le_trans (ofTo_le c hd ox c.lots.length) hlots
  have HND := hide (ofL_nodup c hd ox)
  have HLT2 := hide (ofL_lt (c := c) (hold := hd) (but := ox))
  clear hb z x0 x1 x2 x3 x4 HV hAll
  generalize waysM c hd [] = ws at *
  generalize ofL c hd ox = L at *
  go_wp2_with fail
  go_loopw [11, 12, 13, 14] (fun v11 v12 _ _ wr => ∃ i : Nat, i ≤ ws.length ∧ v12 = .int .i64 i ∧ v11 = .bool ((ws.take i).all fun p => L.all (lastB c un (timesM c L p.1 p.2))) ∧ Below v3.heap.size v3 wr) (fun _ v12 _ _ _ => ws.length - (intOf v12).toNat)
  case atStart => exact ⟨0, Nat.zero_le _, rfl, rfl, Below.refl _ _⟩
  case round =>
    obtain ⟨i, hi', rfl, rfl, hB3⟩ := hrel
    have hsb := hB3.size
    obtain ⟨wb, rfl⟩ : ∃ wb : World, wb = wr := ⟨_, rfl⟩
    by_cases hli : i < ws.length
    · obtain ⟨bw, ow, Ag, cg, rfl, hbw, hg0, hg1, hgi⟩ := HWL.out.at_ hli
      have HME := hide (HMEM.out i hli)
      have HKR := hide (HK.out.next hB3)
      obtain ⟨hv, zz1, q0, q1, q2, q3, q4⟩ := HKR.out
      have HCC := hide (hv.next (Below.refl _ _).drew)
      have q5 := (hB3.cell (p := ⟨bw, ow + i * 2, none⟩) hbw).trans hg0
      have q6 := (hB3.cell (p := ⟨bw, ow + i * 2 + 1, none⟩) hbw).trans hg1
      have HGG := hide (((hgi.below hB3).more hB3.size).next (Below.refl _ _).drew)
      have HLL := hide ((HL.out.next hB3).next (Below.refl _ _).drew)
      have zz2 : bw < wb.heap.size := by omega
      have hj0 : (0 : Int) ≤ (i : Int) := Int.natCast_nonneg _
      have hj1 : (i : Int) < (ws.length : Int) := by omega
      have HAN := hide (all_take ws (fun p => L.all (lastB c un (timesM c L p.1 p.2))) hli)
      have HB3 := hide hB3
      clear hv hB3 hg0 hg1 hgi
      go_wp2_with fail
      go_region_held3 (fun w' => w'.cell? ⟨w.heap.size, 0, none⟩ = some (.slice A1 c.heat.length c1) ∧ w'.cell? ⟨w.heap.size, 1, none⟩ = some (.int .i64 c.gas) ∧ w'.cell? ⟨w.heap.size, 2, none⟩ = some (.slice A2 c.holds.length c2) ∧ w'.cell? ⟨w.heap.size, 3, none⟩ = some (.slice A3 c.lots.length c3) ∧ w'.cell? ⟨w.heap.size, 4, none⟩ = some (.slice A4 c.seen.length c4) ∧
         w'.cell? ⟨bw, ow + i * 2, none⟩ = some (.int .i64 (nth ws i).1) ∧ w'.cell? ⟨bw, ow + i * 2 + 1, none⟩ = some (.slice Ag (nth ws i).2.length cg))
        (first
          | exact ⟨(hbC.cell (p := ⟨_, _, _⟩) zz1).trans q0, (hbC.cell (p := ⟨_, _, _⟩) zz1).trans q1, (hbC.cell (p := ⟨_, _, _⟩) zz1).trans q2, (hbC.cell (p := ⟨_, _, _⟩) zz1).trans q3, (hbC.cell (p := ⟨_, _, _⟩) zz1).trans q4, (hbC.cell (p := ⟨_, _, _⟩) zz2).trans q5, (hbC.cell (p := ⟨_, _, _⟩) zz2).trans q6⟩
          | exact ⟨q0, q1, q2, q3, q4, q5, q6⟩
          | go_keep)
        (first
          | (go_at_call 85; refine (times7_any HCC.out HSM.out HLL.out HLT2.out HND.out HGG.out HME.out.2.1 (fun i => by have := HME.out.2.2 i; omega) HME.out.1).mono ?_; rintro e w3 ⟨At, ct, rfl, hT, hbC'⟩; have hbC := ((Below.refl wb.heap.size wb).drew).trans hbC'))
      have HT := hide hT
      have HBC := hide (HB3.out.trans (hbC.mono hsb))
      have HKC := hide (HKR.out.next hbC)
      have HLC := hide (HL.out.next HBC.out)
      have hzC := hbC.size
      clear hbC hbC' hT q0 q1 q2 q3 q4 q5 q6 HCC HGG HLL zz1 zz2
      generalize timesM c L (nth ws i).1 (nth ws i).2 = T at *
      generalize ((ws.take i).all fun p => L.all (lastB c un (timesM c L p.1 p.2))) = met at *
      go_wp2_with fail
      go_loopw [11, 14] (fun v11 v14 wr => ∃ k : Nat, k ≤ L.length ∧ v14 = .int .i64 k ∧ v11 = .bool (met && (L.take k).all (lastB c un T)) ∧ Below w3.heap.size w3 wr) (fun _ v14 _ => L.length - (intOf v14).toNat)
      case atStart => exact ⟨0, Nat.zero_le _, rfl, by simp, Below.refl _ _⟩
      case round =>
        obtain ⟨k, hk, rfl, rfl, hB⟩ := hrel
        have hsc := hB.size
        by_cases hlk : k < L.length
        · have hq := HLT.out k hlk
          obtain ⟨bl, ol, rfl, hbl, hlc⟩ := (HLC.out.next hB).row (by omega)
          have r0 := hlc k hlk
          rw [intsF, nth_natInts hlk] at r0
          have HTA := hide (all_take L (lastB c un T) hlk)
          generalize nth L k = q at *
          obtain ⟨hv, zz1, q0, q1, q2, q3, q4⟩ := HKC.out.next hB
          obtain ⟨b3, o3, rfl, hb3, l0, l1, l2, l3⟩ := hv.lots.lots hq
          obtain ⟨bt, ot, rfl, hbt, htc⟩ := (HT.out.next hB).row (by omega)
          have r1 := htc q hq
          rw [intsF] at r1
          have e1 : (0 : Int) ≤ (k : Int) := Int.natCast_nonneg _
          have e2 : (k : Int) < (L.length : Int) := by omega
          have e3 : (0 : Int) ≤ (q : Int) := Int.natCast_nonneg _
          have e4 : (q : Int) < (c.lots.length : Int) := by omega
          have HLB := hide (show lastB c un T q = (decide ((nth c.lots q).frm > un) || decide (nth T q > un)) from rfl)
          have HBW := hide hB
          clear hB hv hlc htc l0 l2 l3
          generalize hTK : (met && (L.take k).all (lastB c un T)) = isb at *
          have HTK := hide (show (met && (L.take (k + 1)).all (lastB c un T)) = (isb && lastB c un T q) by rw [HTA.out, ← Bool.and_assoc, hTK])
          clear hTK
          cases isb with
          | false =>
            go_wp2_with fail
            go_quiet (fail)
            go_wp2
            go_roundw
            case rel => exact ⟨k + 1, by omega, by go_num, by rw [HTK.out]; rfl, below_drewN HBW.out _⟩
            case measure => simp [intOf]; omega
          | true =>
            cases hd1 : decide ((nth c.lots q).frm > un) with
            | true =>
              have HD := hide hd1
              go_wp2_with fail
              go_quiet (fail)
              go_wp2
              go_roundw
              case rel => exact ⟨k + 1, by omega, by go_num, by rw [HTK.out, HLB.out, HD.out]; rfl, below_drewN HBW.out _⟩
              case measure => simp [intOf]; omega
            | false =>
              cases hd2 : decide (nth T q > un) with
              | true =>
                have HD := hide hd1
                have HE := hide hd2
                go_wp2_with fail
                go_quiet (fail)
                go_wp2
                go_roundw
                case rel => exact ⟨k + 1, by omega, by go_num, by rw [HTK.out, HLB.out, HD.out, HE.out]; rfl, below_drewN HBW.out _⟩
                case measure => simp [intOf]; omega
              | false =>
                have HD := hide hd1
                have HE := hide hd2
                go_wp2_with fail
                go_quiet (fail)
                go_wp2
                go_roundw
                case rel => exact ⟨k + 1, by omega, by go_num, by rw [HTK.out, HLB.out, HD.out, HE.out]; rfl, below_drewN HBW.out _⟩
                case measure => simp [intOf]; omega
        · have hkk : k = L.length := by omega
          rw [hkk, List.take_length] at *
          have HBX := hide (HBC.out.trans (hB.mono (by omega)))
          clear hB hkk
          go_wp2_with fail
          go_roundw
          case rel => exact ⟨i + 1, by omega, by go_num, by rw [HAN.out], HBX.out⟩
          case measure => simp [intOf]; omega
    · have hii : i = ws.length := by omega
      have HII := hide hii
      have HB3 := hide hB3
      clear hii hB3
      go_wp2_with fail
      go_ret
      exact ⟨by rw [HRR.out, HII.out, List.take_length]; rfl, HB.out.trans (HB3.out.mono HB.out.size)⟩
end Go.Proofs.Ytbkknliggnhpcaa
