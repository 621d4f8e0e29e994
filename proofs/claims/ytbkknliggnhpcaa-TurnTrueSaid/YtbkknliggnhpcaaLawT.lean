/- The law TurnTrue: for any cargo, numbers and hour the statement's function returns true. -/
import Derived.Test.YtbkknliggnhpcaaWrapA
import Derived.Test.YtbkknliggnhpcaaQb
set_option linter.unusedVariables false
set_option linter.unusedSimpArgs false
namespace Go.Proofs.Ytbkknliggnhpcaa
open Go.RowKit
attribute [local go_sem ↓] Go.wp_at_zero Go.wp_at_succ

/-- No lot of the hold, below k, turns before ti. -/
def leastB (z : Cargo) (T : List Int) (ti hd : Int) (k : Nat) : Bool := (List.range k).all fun q => ((nth z.lots q).hold != hd) || decide (ti ≤ nth T q)
theorem leastB_succ (z : Cargo) (T : List Int) (ti hd : Int) (k : Nat) : leastB z T ti hd (k + 1) = (leastB z T ti hd k && (((nth z.lots k).hold != hd) || decide (ti ≤ nth T k))) := by
  rw [leastB, List.range_succ, List.all_append]; simp [leastB]
theorem leastB_all {z : Cargo} {T : List Int} {ti hd : Int} {k : Nat} (h : leastB z T ti hd k = true) (q : Nat) (hq : q < k) (he : (nth z.lots q).hold = hd) : ti ≤ nth T q := by
  rw [leastB, List.all_eq_true] at h
  have := h q (List.mem_range.2 hq)
  simpa [he] using this

set_option maxHeartbeats 4000000 in
set_option maxRecDepth 100000 in
theorem true_bad {A1 A2 A3 A4 Ax : Option Addr} {c1 c2 c3 c4 cx : Nat} {c : Cargo} {w : World} {l : List Int} (h : CargoV w w.heap.size c A1 A2 A3 A4 c1 c2 c3 c4) (hx : BytesS w w.heap.size Ax cx l) (b : Int) (hc : (checkM c).2.2 ≠ 0) :
    Calls Try.prog 8 #[cargoVal c A1 A2 A3 A4 c1 c2 c3 c4, .slice Ax l.length cx, .int .u8 b] w fun e w' => e = .returned (.bool true) ∧ Below w.heap.size w w' := by
  have HK := hide (BoxC.made h)
  have HB : Hid (Below w.heap.size w (w.alloc (.cells #[.slice A1 c.heat.length c1, .int .i64 c.gas, .slice A2 c.holds.length c2, .slice A3 c.lots.length c3, .slice A4 c.seen.length c4] 27))) := hide ((Below.refl _ _).alloc (Nat.le_refl _) _)
  clear h hx
  have HWR := hide (fun (w : World) A1 A2 A3 A4 c1 c2 c3 c4 (h : CargoV w w.heap.size c A1 A2 A3 A4 c1 c2 c3 c4) => (show Calls Try.prog 32 #[cargoVal c A1 A2 A3 A4 c1 c2 c3 c4] w fun e w' => ∃ A cp, e = .returned (.tuple #[.slice A 0 cp, .int .i64 (checkM c).2.2]) ∧ Below w.heap.size w w' from by
    have := wrong_any h; rw [wrongV, if_pos hc] at this; exact this.mono fun e w' ⟨A, cp, h1, _, h3⟩ => ⟨A, cp, h1, h3⟩))
  have HVF := hide (show decide ((checkM c).2.2 = 0) = false by simpa using hc)
  have hc2 : ((checkM c).2.2 == 0) = false := by simpa using hc
  generalize hE : (checkM c).2.2 = E at *
  have HE := hide hE
  have hc3 : (E != 0) = true := by simpa using hc
  clear hE
  go_enter Try.func8, Try.ntmps8
  go_upto_region 1 with (fail)
  generalize (w.alloc (.cells #[.slice A1 c.heat.length c1, .int .i64 c.gas, .slice A2 c.holds.length c2, .slice A3 c.lots.length c3, .slice A4 c.seen.length c4] 27)) = v0 at *
  obtain ⟨hv, z, x0, x1, x2, x3, x4⟩ := HK.out
  have HV := hide hv
  clear hv
  go_upto_region 2 with (go_at_call 35; refine (valid7_any HV.out (v := false) (by rw [HE.out]; exact HVF.out)).mono ?_; rintro e v1 ⟨rfl, hb⟩)
  have HK := hide (HK.out.next hb)
  have HB := hide (HB.out.trans (hb.mono (by have := HB.out.size; exact this)))
  clear hb
  clear z x0 x1 x2 x3 x4 HV
  obtain ⟨hv, z, x0, x1, x2, x3, x4⟩ := HK.out
  have HV := hide hv
  clear hv
  go_upto_region 3 with (go_at_call 32; refine (HWR.out _ _ _ _ _ _ _ _ _ HV.out).mono ?_; rintro e v2 ⟨R1, r1, rfl, hb⟩)
  have HK := hide (HK.out.next hb)
  have HB := hide (HB.out.trans (hb.mono (by have := HB.out.size; exact this)))
  clear hb
  clear z x0 x1 x2 x3 x4 HV
  go_wp2_with (go_at_call 23; refine (awake_any _).mono ?_; rintro e v10 ⟨rfl, hb⟩)
  go_ret
  exact ⟨rfl, HB.out.trans (hb.mono HB.out.size)⟩

set_option maxHeartbeats 2000000 in
set_option maxRecDepth 100000 in
theorem true_ok {A1 A2 A3 A4 Ax : Option Addr} {c1 c2 c3 c4 cx : Nat} {c : Cargo} {w : World} {l : List Int} (h : CargoV w w.heap.size c A1 A2 A3 A4 c1 c2 c3 c4) (hx : BytesS w w.heap.size Ax cx l) (b : Int) (hb0 : 0 ≤ b) (hb1 : b ≤ 255) (hval : Valid c) :
    Calls Try.prog 8 #[cargoVal c A1 A2 A3 A4 c1 c2 c3 c4, .slice Ax l.length cx, .int .u8 b] w fun e w' => e = .returned (.bool true) ∧ Below w.heap.size w w' := by
  have HK := hide (BoxC.made h)
  have HB : Hid (Below w.heap.size w (w.alloc (.cells #[.slice A1 c.heat.length c1, .int .i64 c.gas, .slice A2 c.holds.length c2, .slice A3 c.lots.length c3, .slice A4 c.seen.length c4] 27))) := hide ((Below.refl _ _).alloc (Nat.le_refl _) _)
  have HX := hide (hx.next HB.out)
  have HVD := hide hval
  have HVF := hide (show decide ((checkM c).2.2 = 0) = true by simpa using valid_check hval)
  have HTO := hide (fun (w : World) A1 A2 A3 A4 c1 c2 c3 c4 (h : CargoV w w.heap.size c A1 A2 A3 A4 c1 c2 c3 c4) (hx : BytesS w w.heap.size Ax cx l) => (show Calls Try.prog 36 #[cargoVal c A1 A2 A3 A4 c1 c2 c3 c4, .slice Ax l.length cx] w fun e w' => ∃ A cp At ct, e = .returned (.tuple #[cargoVal (toldC c l) A1 A2 A3 A c1 c2 c3 cp, .slice At (toldC c l).lots.length ct]) ∧ CargoV w' w'.heap.size (toldC c l) A1 A2 A3 A c1 c2 c3 cp ∧ IntsS w' w'.heap.size At (toldC c l).lots.length ct (trulyM c l []) ∧ Below w.heap.size w w' from told_any h hval hx))
  have hvz := toldC_valid (l := l) hval
  have hsz := told_some (l := l) hval
  have hwz := told_wrong (l := l) hval
  have HTA := hide (show ∀ at_ : Int, 0 ≤ at_ ∧ at_ ≤ (toldC c l).heat.length → ∀ i, i < (toldC c l).lots.length → TrueAt (toldC c l) (trulyM c l []) at_ i from fun at_ ha i hi => true_at hval ha hi)
  have hls := hval.lots
  clear h hx hval
  generalize hzz : toldC c l = zc at *
  clear hzz
  generalize trulyM c l [] = T at *
  have HWR := hide (fun (w : World) A1 A2 A3 A4 c1 c2 c3 c4 (h : CargoV w w.heap.size zc A1 A2 A3 A4 c1 c2 c3 c4) => (show Calls Try.prog 32 #[cargoVal zc A1 A2 A3 A4 c1 c2 c3 c4] w fun e w' => ∃ A cp, e = .returned (.tuple #[.slice A 0 cp, .int .i64 0]) ∧ Below w.heap.size w w' from by
    have := wrong_any h; rw [hwz] at this; exact this.mono fun e w' ⟨A, cp, h1, _, h3⟩ => ⟨A, cp, h1, h3⟩))
  have HSF := hide (fun (at_ : Int) (ha : 0 ≤ at_ ∧ at_ ≤ zc.heat.length) (w : World) A1 A2 A3 A4 c1 c2 c3 c4 (h : CargoV w w.heap.size zc A1 A2 A3 A4 c1 c2 c3 c4) => (show Calls Try.prog 20 #[cargoVal zc A1 A2 A3 A4 c1 c2 c3 c4, .int .i64 at_] w fun e w' => ∃ A cp, e = .returned (.tuple #[.slice A (safeR zc at_).length cp, .int .i64 0]) ∧ IntsS w' w'.heap.size A (safeR zc at_).length cp (natInts (safeR zc at_)) ∧ Below w.heap.size w w' from by
    have := safeW_any h at_; rw [safeE_ok hvz hsz ha] at this; exact this))
  have HRI := hide (fun (at_ : Int) (ha : 0 ≤ at_ ∧ at_ ≤ zc.heat.length) => safeR_rising hvz hsz ha)
  have hht := hvz.hours
  have hlz := hvz.lots
  have hlot := hvz.lot
  have HLT := hide hlot
  clear hvz hsz hwz hlot
  go_enter Try.func8, Try.ntmps8
  go_upto_region 1 with (fail)
  generalize (w.alloc (.cells #[.slice A1 c.heat.length c1, .int .i64 c.gas, .slice A2 c.holds.length c2, .slice A3 c.lots.length c3, .slice A4 c.seen.length c4] 27)) = v0 at *
  obtain ⟨hv, z, x0, x1, x2, x3, x4⟩ := HK.out
  have HV := hide hv
  clear hv
  go_upto_region 4 with (go_at_call 35; refine (valid7_any HV.out (v := true) HVF.out).mono ?_; rintro e v1 ⟨rfl, hb⟩)
  have HK := hide (HK.out.next hb)
  have HX := hide (HX.out.next hb)
  have HB := hide (HB.out.trans (hb.mono (by have := HB.out.size; exact this)))
  clear hb
  clear z x0 x1 x2 x3 x4 HV
  obtain ⟨hv, z, x0, x1, x2, x3, x4⟩ := HK.out
  have HV := hide hv
  clear hv
  go_upto_region 5 with (go_at_call 36; refine (HTO.out _ _ _ _ _ _ _ _ _ HV.out HX.out).mono ?_; rintro e v2 ⟨AS, cS, AT, cT, rfl, hz, hT, hb⟩)
  have HB := hide (HB.out.trans (hb.mono HB.out.size))
  have hb3 : Below v2.heap.size v2 (v2.alloc (.cells #[.slice A1 zc.heat.length c1, .int .i64 zc.gas, .slice A2 zc.holds.length c2, .slice A3 zc.lots.length c3, .slice AS zc.seen.length cS] 27)) := (Below.refl _ _).alloc (Nat.le_refl _) _
  have HKZ := hide (BoxC.made hz)
  have HTT := hide (hT.next hb3)
  have HB := hide (HB.out.trans (hb3.mono HB.out.size))
  clear z x0 x1 x2 x3 x4 HV hb hz hT hb3 HK HX HTO HVF HVD
  generalize (v2.alloc (.cells #[.slice A1 zc.heat.length c1, .int .i64 zc.gas, .slice A2 zc.holds.length c2, .slice A3 zc.lots.length c3, .slice AS zc.seen.length cS] 27)) = v3 at *
  obtain ⟨hv, z, x0, x1, x2, x3, x4⟩ := HKZ.out
  clear hv
  have hp0 := Int.emod_nonneg b (show (zc.heat.length : Int) + 1 ≠ 0 by omega)
  have hp1 := Int.emod_lt_of_pos b (show 0 < (zc.heat.length : Int) + 1 by omega)
  have hm2 : b.tmod ((zc.heat.length : Int) + 1) = b % ((zc.heat.length : Int) + 1) := Int.tmod_eq_emod_of_nonneg hb0
  have hz1 : (((zc.heat.length : Int) + 1) == 0) = false := by simp; omega
  have hz2 : (zc.heat.length : Int) + 1 ≠ 0 := by omega
  have hl0 : (0 : Int) ≤ (zc.heat.length : Int) := Int.natCast_nonneg _
  have hl1 : (zc.heat.length : Int) ≤ 8 := by omega
  go_upto_region 6 with (fail)
  generalize b % ((zc.heat.length : Int) + 1) = at_ at *
  have hat : 0 ≤ at_ ∧ at_ ≤ zc.heat.length := by omega
  have HTA := hide (HTA.out at_ hat)
  have HRI := hide (HRI.out at_ hat)
  have HSF := hide (HSF.out at_ hat)
  clear hm2 hz1 hz2 hp0 hp1 z x0 x1 x2 x3 x4
  generalize hSL : safeR zc at_ = sl at *
  have HSLE := hide hSL
  clear hSL
  obtain ⟨hv, z, x0, x1, x2, x3, x4⟩ := HKZ.out
  have HV := hide hv
  clear hv
  go_upto_region 7 with (go_at_call 32; refine (HWR.out _ _ _ _ _ _ _ _ _ HV.out).mono ?_; rintro e v4 ⟨R1, r1, rfl, hb⟩)
  have HKZ := hide (HKZ.out.next hb)
  have HTT := hide (HTT.out.next hb)
  have HB := hide (HB.out.trans (hb.mono (by have := HB.out.size; exact this)))
  clear hb
  clear z x0 x1 x2 x3 x4 HV
  obtain ⟨hv, z, x0, x1, x2, x3, x4⟩ := HKZ.out
  have HV := hide hv
  clear hv
  go_upto_region 8 with (go_at_call 20; refine (HSF.out _ _ _ _ _ _ _ _ _ HV.out).mono ?_; rintro e v5 ⟨R2, r2, rfl, hi, hb⟩)
  have HKZ := hide (HKZ.out.next hb)
  have HTT := hide (HTT.out.next hb)
  have HB := hide (HB.out.trans (hb.mono (by have := HB.out.size; exact this)))
  clear hb
  have HSL := hide hi
  clear hi
  clear z x0 x1 x2 x3 x4 HV
  obtain ⟨hv, z, x0, x1, x2, x3, x4⟩ := HKZ.out
  clear hv
  go_wp2_with (go_at_call 37; refine (rising_any HSL.out _).mono ?_; rintro e v6 ⟨rfl, rfl⟩; rw [HRI.out])
  clear z x0 x1 x2 x3 x4
  go_loopw [16, 17, 18, 19, 20, 21, 22, 23] (fun v16 _ _ _ _ _ _ _ wr => ∃ i : Nat, i ≤ zc.lots.length ∧ v16 = .int .i64 i ∧ Below v5.heap.size v5 wr) (fun v16 _ _ _ _ _ _ _ _ => zc.lots.length - (intOf v16).toNat)
  case atStart => exact ⟨0, Nat.zero_le _, rfl, Below.refl _ _⟩
  case round =>
    obtain ⟨i, hi', rfl, hB⟩ := hrel
    obtain ⟨wa, rfl⟩ : ∃ wa : World, wa = wr := ⟨_, rfl⟩
    have HBA := hide hB
    have hi0 : (0 : Int) ≤ (i : Int) := Int.natCast_nonneg _
    have HKA := hide (HKZ.out.next hB)
    obtain ⟨hv, z, x0, x1, x2, x3, x4⟩ := HKA.out
    have HV := hide hv
    clear hv hB
    by_cases hli : i < zc.lots.length
    · have hi1 : (i : Int) < (zc.lots.length : Int) := by omega
      obtain ⟨q1, q2, q3, q4, q5, q6⟩ := HTA.out i hli
      rw [HSLE.out] at q3
      have HQ3 := hide q3
      have HQ4 := hide q4
      have HQ5 := hide q5
      have HQ6 := hide q6
      have HTU := hide (show Calls Try.prog 18 #[cargoVal zc A1 A2 A3 AS c1 c2 c3 cS, .int .i64 (i : Int)] wa fun e w' => e = .returned (.tuple #[.agg #[.int .i64 (nth (turnsR zc i).1.1 0), .int .i64 (nth (turnsR zc i).1.1 1)], .int .i64 (turnsR zc i).1.2, .int .i64 0]) ∧ Below wa.heap.size wa w' from by
        have := turnsW_any HV.out (i : Int); rw [q1] at this; exact this)
      have HFI := hide (fun (w : World) A1 A2 A3 A4 c1 c2 c3 c4 (h : CargoV w w.heap.size zc A1 A2 A3 A4 c1 c2 c3 c4) => (show Calls Try.prog 24 #[cargoVal zc A1 A2 A3 A4 c1 c2 c3 c4, .int .i64 (nth zc.lots i).hold] w fun e w' => ∃ A cp, e = .returned (.tuple #[.slice A (firstR zc (nth zc.lots i).hold).length cp, .int .i64 0]) ∧ IntsS w' w'.heap.size A (firstR zc (nth zc.lots i).hold).length cp (natInts (firstR zc (nth zc.lots i).hold)) ∧ Below w.heap.size w w' from by
        have := firstW_any h (nth zc.lots i).hold; rw [q2] at this; exact this))
      clear q1 q2 q3 q4 q5 q6
      generalize firstR zc (nth zc.lots i).hold = fl at *
      generalize (turnsR zc i).1.2 = how at *
      generalize nth (turnsR zc i).1.1 0 = slo at *
      generalize nth (turnsR zc i).1.1 1 = shi at *
      go_upto_region 14 with (go_at_call 18; refine HTU.out.mono ?_; rintro e w1 ⟨rfl, hb⟩)
      have hbs : Below w1.heap.size w1 (w1.alloc (.cells #[.int .i64 slo, .int .i64 shi] 32)) := (Below.refl _ _).alloc (Nat.le_refl _) _
      have HS := hide (BoxS.made (w := w1) (a := slo) (b := shi))
      have HKB := hide ((HKA.out.next hb).next hbs)
      have HBB := hide ((HBA.out.trans (hb.mono HBA.out.size)).trans (hbs.mono (HBA.out.trans (hb.mono HBA.out.size)).size))
      clear z x0 x1 x2 x3 x4 HV hb hbs HTU
      generalize (w1.alloc (.cells #[.int .i64 slo, .int .i64 shi] 32)) = wb at *
      obtain ⟨hv, z, x0, x1, x2, x3, x4⟩ := HKB.out
      obtain ⟨b3, o3, rfl, zb3, l0, l1, l2, l3⟩ := hv.lots.lots hli
      have HVB := hide hv
      clear hv l1 l2 l3
      refine wp_post0 (fun act0 a W => ∃ vs : Nat → Value, a = { tmps := setAll (fun oi => [94, 95, 96, 97, 98, 99, 100, 101, 93, 102, 103, 20, 21].getD oi 0) vs [0, 1, 2, 3, 4, 5, 6, 7, 8, 9, 10, 11, 12] act0.tmps, defers := act0.defers } ∧ Below wb.heap.size wb W ∧ vs 12 = .int .i64 0 ∧ ∃ A cp, vs 11 = .slice A fl.length cp ∧ IntsS W W.heap.size A fl.length cp (natInts fl)) ?reg ?imp
      case reg =>
        have hST : Stab wb.heap.size (fun oi v W => match oi with | 0 => v = .agg #[.slice A1 zc.heat.length c1, .int .i64 zc.gas, .slice A2 zc.holds.length c2, .slice (some ⟨b3, o3, none⟩) zc.lots.length c3, .slice AS zc.seen.length cS] | 1 => v = .pointer (some ⟨v2.heap.size, 3, none⟩) | 2 => v = .slice (some ⟨b3, o3, none⟩) zc.lots.length c3 | 3 => v = .int .i64 i | 4 => v = .pointer (some ⟨b3, o3 + i * 4, none⟩) | 5 => v = .pointer (some ⟨b3, o3 + i * 4, none⟩) | 6 => v = .int .i64 (nth zc.lots i).hold | 7 => ∃ A cp, v = .tuple #[.slice A fl.length cp, .int .i64 0] ∧ IntsS W W.heap.size A fl.length cp (natInts fl) | 8 => ∃ A cp, v = .tuple #[.slice A fl.length cp, .int .i64 0] ∧ IntsS W W.heap.size A fl.length cp (natInts fl) | 9 => ∃ A cp, v = .slice A fl.length cp ∧ IntsS W W.heap.size A fl.length cp (natInts fl) | 10 => v = .int .i64 0 | 11 => ∃ A cp, v = .slice A fl.length cp ∧ IntsS W W.heap.size A fl.length cp (natInts fl) | 12 => v = .int .i64 0 | _ => True) (fun oi v b => match oi with | 7 => (∃ o m cp x, v = .tuple #[.slice (some ⟨b, o, none⟩) m cp, x]) ∧ 0 < fl.length | 8 => (∃ o m cp x, v = .tuple #[.slice (some ⟨b, o, none⟩) m cp, x]) ∧ 0 < fl.length | 9 => v.ownBlock = some b ∧ 0 < fl.length | 11 => v.ownBlock = some b ∧ 0 < fl.length | _ => False) := by
          intro oi v W W' h hbs hz hk
          match oi, h, hk with
          | 0, h, hk => exact h
          | 1, h, hk => exact h
          | 2, h, hk => exact h
          | 3, h, hk => exact h
          | 4, h, hk => exact h
          | 5, h, hk => exact h
          | 6, h, hk => exact h
          | 7, h, hk => obtain ⟨A, cp, rfl, h2⟩ := h; exact ⟨A, cp, rfl, h2.stab hz (fun b o hb e hn => hk b hb (.inr ⟨⟨o, _, _, _, by rw [e]⟩, hn⟩))⟩
          | 8, h, hk => obtain ⟨A, cp, rfl, h2⟩ := h; exact ⟨A, cp, rfl, h2.stab hz (fun b o hb e hn => hk b hb (.inr ⟨⟨o, _, _, _, by rw [e]⟩, hn⟩))⟩
          | 9, h, hk => obtain ⟨A, cp, rfl, h2⟩ := h; exact ⟨A, cp, rfl, h2.stab hz (fun b o hb e hn => hk b hb (.inr ⟨by rw [e]; rfl, hn⟩))⟩
          | 10, h, hk => exact h
          | 11, h, hk => obtain ⟨A, cp, rfl, h2⟩ := h; exact ⟨A, cp, rfl, h2.stab hz (fun b o hb e hn => hk b hb (.inr ⟨by rw [e]; rfl, hn⟩))⟩
          | 12, h, hk => exact h
          | oi + 13, h, hk => exact trivial
        refine wp_region_inv (dst := fun oi => [94, 95, 96, 97, 98, 99, 100, 101, 93, 102, 103, 20, 21].getD oi 0) (mono := fun oi => decide (oi < 13)) (pre := fun oi => decide (oi < 13)) (G := Loose 13 wb.heap.size (fun oi => match oi with  | _ => 13) (fun oi v W => match oi with | 0 => v = .agg #[.slice A1 zc.heat.length c1, .int .i64 zc.gas, .slice A2 zc.holds.length c2, .slice (some ⟨b3, o3, none⟩) zc.lots.length c3, .slice AS zc.seen.length cS] | 1 => v = .pointer (some ⟨v2.heap.size, 3, none⟩) | 2 => v = .slice (some ⟨b3, o3, none⟩) zc.lots.length c3 | 3 => v = .int .i64 i | 4 => v = .pointer (some ⟨b3, o3 + i * 4, none⟩) | 5 => v = .pointer (some ⟨b3, o3 + i * 4, none⟩) | 6 => v = .int .i64 (nth zc.lots i).hold | 7 => ∃ A cp, v = .tuple #[.slice A fl.length cp, .int .i64 0] ∧ IntsS W W.heap.size A fl.length cp (natInts fl) | 8 => ∃ A cp, v = .tuple #[.slice A fl.length cp, .int .i64 0] ∧ IntsS W W.heap.size A fl.length cp (natInts fl) | 9 => ∃ A cp, v = .slice A fl.length cp ∧ IntsS W W.heap.size A fl.length cp (natInts fl) | 10 => v = .int .i64 0 | 11 => ∃ A cp, v = .slice A fl.length cp ∧ IntsS W W.heap.size A fl.length cp (natInts fl) | 12 => v = .int .i64 0 | _ => True) (fun oi v b => match oi with | 7 => (∃ o m cp x, v = .tuple #[.slice (some ⟨b, o, none⟩) m cp, x]) ∧ 0 < fl.length | 8 => (∃ o m cp x, v = .tuple #[.slice (some ⟨b, o, none⟩) m cp, x]) ∧ 0 < fl.length | 9 => v.ownBlock = some b ∧ 0 < fl.length | 11 => v.ownBlock = some b ∧ 0 < fl.length | _ => False)) (by kernel_rfl) (by kernel_rfl) (Loose.start (Nat.le_refl _)) ?hstep ?hend
        case hstep =>
          intro oi hoi hom listed vs a W hU hsz hG hcl hl haft K hK
          have hb := ((Below.refl wb.heap.size wb).drew).trans hU.below
          have hF := Loose.stepF hU hG hST hoi hK
          match oi, hoi, hom with
          | 0, hoi, hom =>
            have z9 : a.tmps[9]?.getD undef = .pointer (some ⟨v2.heap.size, 0, none⟩) := hU.same 9 (by decide)
            have y0 := (hb.cell (p := ⟨v2.heap.size, 0, none⟩) (z)).trans (x0)
            have y1 := (hb.cell (p := ⟨v2.heap.size, 1, none⟩) (z)).trans (x1)
            have y2 := (hb.cell (p := ⟨v2.heap.size, 2, none⟩) (z)).trans (x2)
            have y3 := (hb.cell (p := ⟨v2.heap.size, 3, none⟩) (z)).trans (x3)
            have y4 := (hb.cell (p := ⟨v2.heap.size, 4, none⟩) (z)).trans (x4)
            refine wpOp_value (v := .agg #[.slice A1 zc.heat.length c1, .int .i64 zc.gas, .slice A2 zc.holds.length c2, .slice (some ⟨b3, o3, none⟩) zc.lots.length c3, .slice AS zc.seen.length cS]) (W' := W) rfl rfl ?_ (hF _ _ (Below.refl _ _) rfl (fun _ h => False.elim h))
            go_simp
          | 1, hoi, hom =>
            have z9 : a.tmps[9]?.getD undef = .pointer (some ⟨v2.heap.size, 0, none⟩) := hU.same 9 (by decide)
            refine wpOp_value (v := .pointer (some ⟨v2.heap.size, 3, none⟩)) (W' := W) rfl rfl ?_ (hF _ _ (Below.refl _ _) rfl (fun _ h => False.elim h))
            go_simp
          | 2, hoi, hom =>
            have l1 := haft _ rfl { on := 1, ground := .data } (by simp) rfl
            have p1 := hG.pv 1 (by decide) (live_end hsz rfl l1)
            have s1 : a.tmps[95]?.getD undef = vs 1 := hU.slot 1 (by decide) l1
            have hv1 : vs 1 = .pointer (some ⟨v2.heap.size, 3, none⟩) := p1
            rw [hv1] at s1
            have y0 := (hb.cell (p := ⟨v2.heap.size, 3, none⟩) (z)).trans (x3)
            refine wpOp_value (v := .slice (some ⟨b3, o3, none⟩) zc.lots.length c3) (W' := W) rfl rfl ?_ (hF _ _ (Below.refl _ _) rfl (fun _ h => False.elim h))
            go_simp
          | 3, hoi, hom =>
            have z16 : a.tmps[16]?.getD undef = .int .i64 i := hU.same 16 (by decide)
            refine wpOp_value (v := .int .i64 i) (W' := W) rfl rfl ?_ (hF _ _ (Below.refl _ _) rfl (fun _ h => False.elim h))
            go_simp
          | 4, hoi, hom =>
            have l2 := haft _ rfl { on := 2, ground := .data } (by simp) rfl
            have p2 := hG.pv 2 (by decide) (live_end hsz rfl l2)
            have s2 : a.tmps[96]?.getD undef = vs 2 := hU.slot 2 (by decide) l2
            have hv2 : vs 2 = .slice (some ⟨b3, o3, none⟩) zc.lots.length c3 := p2
            rw [hv2] at s2
            have l3 := haft _ rfl { on := 3, ground := .data } (by simp) rfl
            have p3 := hG.pv 3 (by decide) (live_end hsz rfl l3)
            have s3 : a.tmps[97]?.getD undef = vs 3 := hU.slot 3 (by decide) l3
            have hv3 : vs 3 = .int .i64 i := p3
            rw [hv3] at s3
            refine wpOp_value (v := .pointer (some ⟨b3, o3 + i * 4, none⟩)) (W' := W) rfl rfl ?_ (hF _ _ (Below.refl _ _) rfl (fun _ h => False.elim h))
            go_simp
          | 5, hoi, hom =>
            have l4 := haft _ rfl { on := 4, ground := .data } (by simp) rfl
            have p4 := hG.pv 4 (by decide) (live_end hsz rfl l4)
            have s4 : a.tmps[98]?.getD undef = vs 4 := hU.slot 4 (by decide) l4
            have hv4 : vs 4 = .pointer (some ⟨b3, o3 + i * 4, none⟩) := p4
            rw [hv4] at s4
            refine wpOp_value (v := .pointer (some ⟨b3, o3 + i * 4, none⟩)) (W' := W) rfl rfl ?_ (hF _ _ (Below.refl _ _) rfl (fun _ h => False.elim h))
            go_simp
          | 6, hoi, hom =>
            have l5 := haft _ rfl { on := 5, ground := .data } (by simp) rfl
            have p5 := hG.pv 5 (by decide) (live_end hsz rfl l5)
            have s5 : a.tmps[99]?.getD undef = vs 5 := hU.slot 5 (by decide) l5
            have hv5 : vs 5 = .pointer (some ⟨b3, o3 + i * 4, none⟩) := p5
            rw [hv5] at s5
            have y0 := (hb.cell (p := ⟨b3, o3 + i * 4, none⟩) (zb3)).trans (l0)
            refine wpOp_value (v := .int .i64 (nth zc.lots i).hold) (W' := W) rfl rfl ?_ (hF _ _ (Below.refl _ _) rfl (fun _ h => False.elim h))
            go_simp
          | 7, hoi, hom =>
            have l0 := haft _ rfl { on := 0, ground := .data } (by simp) rfl
            have p0 := hG.pv 0 (by decide) (live_end hsz rfl l0)
            have s0 : a.tmps[94]?.getD undef = vs 0 := hU.slot 0 (by decide) l0
            have hv0 : vs 0 = .agg #[.slice A1 zc.heat.length c1, .int .i64 zc.gas, .slice A2 zc.holds.length c2, .slice (some ⟨b3, o3, none⟩) zc.lots.length c3, .slice AS zc.seen.length cS] := p0
            rw [hv0] at s0
            have l6 := haft _ rfl { on := 6, ground := .data } (by simp) rfl
            have p6 := hG.pv 6 (by decide) (live_end hsz rfl l6)
            have s6 : a.tmps[100]?.getD undef = vs 6 := hU.slot 6 (by decide) l6
            have hv6 : vs 6 = .int .i64 (nth zc.lots i).hold := p6
            rw [hv6] at s6
            have hN := Loose.stepN hU hG hST hoi hK (Nat.le_refl _) (fun j _ hc => absurd hc (Nat.lt_irrefl _))
            refine wpOp_enter (f := 24) (args := #[cargoVal zc A1 A2 (some ⟨b3, o3, none⟩) AS c1 c2 c3 cS, .int .i64 (nth zc.lots i).hold]) (W' := W) rfl rfl ?_ ((HFI.out _ _ _ _ _ _ _ _ _ (HVB.out.next hb)).mono (fun e w'' h => ?_))
            · go_simp
            · obtain ⟨A', c', he, h1, hbw⟩ := h
              exact ⟨_, he, hN _ _ hbw ⟨A', c', rfl, h1⟩ (fun b h => by obtain ⟨⟨o, m, cp, x, e⟩, hn⟩ := h; simp only [Value.tuple.injEq, Array.mk.injEq, List.cons.injEq, Value.slice.injEq] at e; obtain ⟨b', o', e2, hlt, _⟩ := h1.row hn; rw [e.1.1] at e2; cases e2; exact hlt)⟩
          | 8, hoi, hom =>
            have l7 := haft _ rfl { on := 7, ground := .data } (by simp) rfl
            have p7 := hG.pv 7 (by decide) (live_end hsz rfl l7)
            have s7 : a.tmps[101]?.getD undef = vs 7 := hU.slot 7 (by decide) l7
            obtain ⟨PA7, kp7, hv7, hi7⟩ := p7
            rw [hv7] at s7
            refine wpOp_value (v := .tuple #[.slice PA7 fl.length kp7, .int .i64 0]) (W' := W) rfl rfl ?_ (hF _ _ (Below.refl _ _) ⟨_, _, rfl, hi7⟩ (fun b h => ⟨hG.lt 7 (by decide) (live_end hsz rfl l7) b (by rw [hv7]; exact h), .inr ⟨Nat.le_refl _, 7, by decide, by decide, live_end hsz rfl l7, Nat.le_refl _, by rw [hv7]; exact h⟩⟩))
            go_simp
          | 9, hoi, hom =>
            have l8 := haft _ rfl { on := 8, ground := .data } (by simp) rfl
            have p8 := hG.pv 8 (by decide) (live_end hsz rfl l8)
            have s8 : a.tmps[93]?.getD undef = vs 8 := hU.slot 8 (by decide) l8
            obtain ⟨PA8, kp8, hv8, hi8⟩ := p8
            rw [hv8] at s8
            have htup : ∀ b, (Value.slice PA8 fl.length kp8).ownBlock = some b ∧ 0 < fl.length → ((∃ o m cp x, (Value.tuple #[.slice PA8 fl.length kp8, .int .i64 0]) = .tuple #[.slice (some ⟨b, o, none⟩) m cp, x]) ∧ 0 < fl.length) := fun b h => by obtain ⟨b', o', rfl, _⟩ := hi8.row h.2; rw [← own_new h.1]; exact ⟨⟨_, _, _, _, rfl⟩, h.2⟩
            refine wpOp_value (v := .slice PA8 fl.length kp8) (W' := W) rfl rfl ?_ (hF _ _ (Below.refl _ _) ⟨_, _, rfl, hi8⟩ (fun b h => ⟨hG.lt 8 (by decide) (live_end hsz rfl l8) b (by rw [hv8]; exact htup b h), .inr ⟨Nat.le_refl _, 8, by decide, by decide, live_end hsz rfl l8, Nat.le_refl _, by rw [hv8]; exact htup b h⟩⟩))
            go_simp
          | 10, hoi, hom =>
            have l8 := haft _ rfl { on := 8, ground := .data } (by simp) rfl
            have p8 := hG.pv 8 (by decide) (live_end hsz rfl l8)
            have s8 : a.tmps[93]?.getD undef = vs 8 := hU.slot 8 (by decide) l8
            obtain ⟨PA8, kp8, hv8, hi8⟩ := p8
            rw [hv8] at s8
            refine wpOp_value (v := .int .i64 0) (W' := W) rfl rfl ?_ (hF _ _ (Below.refl _ _) rfl (fun _ h => False.elim h))
            go_simp
          | 11, hoi, hom =>
            have l9 := haft _ rfl { on := 9, ground := .data } (by simp) rfl
            have p9 := hG.pv 9 (by decide) (live_end hsz rfl l9)
            have s9 : a.tmps[102]?.getD undef = vs 9 := hU.slot 9 (by decide) l9
            obtain ⟨PA9, kp9, hv9, hi9⟩ := p9
            rw [hv9] at s9
            refine wpOp_value (v := .slice PA9 fl.length kp9) (W' := W) rfl rfl ?_ (hF _ _ (Below.refl _ _) ⟨_, _, rfl, hi9⟩ (fun b h => ⟨hG.lt 9 (by decide) (live_end hsz rfl l9) b (by rw [hv9]; exact h), .inr ⟨Nat.le_refl _, 9, by decide, by decide, live_end hsz rfl l9, Nat.le_refl _, by rw [hv9]; exact h⟩⟩))
            go_simp
          | 12, hoi, hom =>
            have l10 := haft _ rfl { on := 10, ground := .data } (by simp) rfl
            have p10 := hG.pv 10 (by decide) (live_end hsz rfl l10)
            have s10 : a.tmps[103]?.getD undef = vs 10 := hU.slot 10 (by decide) l10
            have hv10 : vs 10 = .int .i64 0 := p10
            rw [hv10] at s10
            refine wpOp_value (v := .int .i64 0) (W' := W) rfl rfl ?_ (hF _ _ (Below.refl _ _) rfl (fun _ h => False.elim h))
            go_simp
          | oi + 13, hoi, hom => exact absurd (of_decide_eq_true hom) (by omega)
        case hend =>
          intro listed vs a W hG0 hG hpre
          have hb := ((Below.refl wb.heap.size wb).drew).trans hG0.below
          have hact := hG0.act
          have hT := hG0.lst hpre 0 #[true, true, true, true, true, true, true, true, true, true, true, true, true] rfl (by kernel_rfl) (hpre 0 (by decide) (by decide))
          rw [hG0.ix hT (l := [0, 1, 2, 3, 4, 5, 6, 7, 8, 9, 10, 11, 12]) (by kernel_rfl)] at hact
          rw [hG0.lo hT (k := 0) (by kernel_rfl)]
          have p12 := hG.pv 12 (by decide) (live_end hG.size rfl (hpre 12 (by decide) (by decide)))
          have p11 := hG.pv 11 (by decide) (live_end hG.size rfl (hpre 11 (by decide) (by decide)))
          subst hT
          refine wpAny_done (by kernel_rfl) ?_ _
          exact ⟨rfl, vs, hact, hb, p12, p11⟩
      case imp =>
      rintro a w3 ⟨vs, rfl, hb1, hv12, A11, k11, hv11, hi11⟩
      simp only [setAll, List.setIfInBounds_toArray, List.set_cons_succ, List.set_cons_zero, List.getD_cons_succ, List.getD_cons_zero]
      rw [hv11, hv12]
      have HBC := hide (HBB.out.trans (hb1.mono HBB.out.size))
      have HKC := hide (HKB.out.next hb1)
      have HS := hide (HS.out.next hb1)
      have HFL := hide hi11
      clear z x0 x1 x2 x3 x4 l0 zb3 HVB HFI hv11 hv12 hb1 hi11
      have HSL3 := hide (HSL.out.next HBC.out)
      have HTT3 := hide (HTT.out.next HBC.out)
      obtain ⟨bt, ot, e, zbt, htc⟩ := HTT3.out.row (by omega)
      subst e
      have y0 := htc i hli
      rw [intsF] at y0
      have HTC := hide htc
      clear htc
      generalize hTi : nth T i = ti at *
      have HTI := hide hTi
      clear hTi
      have hcase : (hasInt (natInts sl) (i : Int) = true ∧ decide (ti ≤ at_) = false) ∨ hasInt (natInts sl) (i : Int) = false := by
        cases hh : hasInt (natInts sl) (i : Int) with
        | true => exact .inl ⟨rfl, by have := HQ3.out hh; simp; omega⟩
        | false => exact .inr rfl
      rcases hcase with ⟨hhs, hle⟩ | hhs
      all_goals
        have HHS := hide hhs
        clear hhs
        go_upto_region 17 with (go_at_call 38; refine (has_any HSL3.out (i : Int)).mono ?_; rintro e v ⟨rfl, rfl⟩; rw [HHS.out])
        try clear hle
        obtain ⟨hv, z, x0, x1, x2, x3, x4⟩ := HKC.out
        clear hv
        cases hn : (ti == (zc.heat.length : Int) + 1)
        all_goals
          have HN := hide hn
          refine wp_region_grow (by kernel_rfl) (by kernel_rfl) ?_
          have hgc := @grow_cell
          repeat (first | go_big_quiet_step (((go_at_call 39; exact Calls.grow_of (never_any zc _ (by omega))))) | quiet_step (((go_at_call 39; exact Calls.grow_of (never_any zc _ (by omega))))))
          refine wpQuiet_nil ?_
          rintro _ ⟨t, rfl⟩
          have hbt := grow_below (w := w3) (t := t)
          have HBD := hide (HBC.out.trans (hbt.mono HBC.out.size))
          have HKD := hide (HKC.out.next hbt)
          have HS4 := hide (HS.out.next hbt)
          have HFL4 := hide (HFL.out.next hbt)
          have HTD := hide (fun (j : Nat) (hj : j < zc.lots.length) => (hbt.cell (p := ⟨bt, ot + j, none⟩) zbt).trans (HTC.out j hj))
          have zbt4 : bt < (grow w3 t).heap.size := Nat.lt_of_lt_of_le zbt hbt.size
          clear hgc hbt x0 x1 x2 x3 x4 z hn
          generalize grow w3 t = w4 at *
          clear y0 HTC
        · -- an hour
          obtain ⟨hne, hin⟩ := HQ5.out (by simpa using HN.out)
          have hw2 : (how == 2) = false := by simpa using hne
          have HIN := hide hin
          have HW2 := hide hw2
          have HLB := hide (show ∀ k, leastB zc T ti (nth zc.lots i).hold (k + 1) = (leastB zc T ti (nth zc.lots i).hold k && (((nth zc.lots k).hold != (nth zc.lots i).hold) || decide (ti ≤ nth T k))) from fun k => leastB_succ _ _ _ _ k)
          clear hne hin hw2
          go_wp2_with fail
          go_loopw [22, 23] (fun v22 v23 wr => ∃ k : Nat, k ≤ zc.lots.length ∧ v23 = .int .i64 k ∧ v22 = .bool (leastB zc T ti (nth zc.lots i).hold k) ∧ Below w4.heap.size w4 wr) (fun _ v23 _ => zc.lots.length - (intOf v23).toNat)
          case atStart => exact ⟨0, Nat.zero_le _, rfl, rfl, Below.refl _ _⟩
          case round =>
            obtain ⟨k, hk, rfl, rfl, hB⟩ := hrel
            obtain ⟨wk, rfl⟩ : ∃ wk : World, wk = wr := ⟨_, rfl⟩
            have HBX := hide hB
            obtain ⟨hv, z, x0, x1, x2, x3, x4⟩ := HKD.out.next hB
            have hk0 : (0 : Int) ≤ (k : Int) := Int.natCast_nonneg _
            by_cases hlk : k < zc.lots.length
            · have hk1 : (k : Int) < (zc.lots.length : Int) := by omega
              obtain ⟨b4, o4, e4, zb4, m0, _, _, _⟩ := hv.lots.lots hlk
              obtain ⟨b5, o5, e5, zb5, n0, _, _, _⟩ := hv.lots.lots hli
              cases e4
              cases e5
              have y1 := (hB.cell (p := ⟨bt, ot + k, none⟩) zbt4).trans (HTD.out k hlk)
              have y2 := (hB.cell (p := ⟨bt, ot + i, none⟩) zbt4).trans (HTD.out i hli)
              rw [intsF] at y1 y2
              rw [HTI.out] at y2
              have zbt5 : bt < wk.heap.size := Nat.lt_of_lt_of_le zbt4 hB.size
              have HLK := hide (HLB.out k)
              clear hv hB
              generalize (nth zc.lots k).hold = hk2 at *
              generalize (nth zc.lots i).hold = hi2 at *
              generalize nth T k = tk at *
              generalize leastB zc T ti hi2 k = isb at *
              cases isb with
              | false =>
                go_wp2_with fail
                go_quiet (fail)
                go_wp2
                go_roundw
                case rel => exact ⟨k + 1, by omega, by go_num, by rw [HLK.out]; rfl, below_drewN HBX.out _⟩
                case measure => simp [intOf]; omega
              | true =>
                cases hq : (hk2 != hi2) with
                | true =>
                  have HQ := hide hq
                  go_wp2_with fail
                  go_quiet (fail)
                  go_wp2
                  go_roundw
                  case rel => exact ⟨k + 1, by omega, by go_num, by rw [HLK.out, HQ.out]; rfl, below_drewN HBX.out _⟩
                  case measure => simp [intOf]; omega
                | false =>
                  have HQ := hide hq
                  cases hr : decide (ti ≤ tk) with
                  | true =>
                    have HR := hide hr
                    go_wp2_with fail
                    go_quiet (fail)
                    go_wp2
                    go_roundw
                    case rel => exact ⟨k + 1, by omega, by go_num, by rw [HLK.out, HQ.out, HR.out]; rfl, below_drewN HBX.out _⟩
                    case measure => simp [intOf]; omega
                  | false =>
                    have HR := hide hr
                    go_wp2_with fail
                    go_quiet (fail)
                    go_wp2
                    go_roundw
                    case rel => exact ⟨k + 1, by omega, by go_num, by rw [HLK.out, HQ.out, HR.out]; rfl, below_drewN HBX.out _⟩
                    case measure => simp [intOf]; omega
            · have hkk : k = zc.lots.length := by omega
              have HKK := hide hkk
              have y2 := (hB.cell (p := ⟨bt, ot + i, none⟩) zbt4).trans (HTD.out i hli)
              rw [intsF, HTI.out] at y2
              have zbt5 : bt < wk.heap.size := Nat.lt_of_lt_of_le zbt4 hB.size
              obtain ⟨zs, u0, u1⟩ := HS4.out.next hB
              have hw2 := HW2.out
              have HBE := hide (HBD.out.trans (hB.mono HBD.out.size))
              have HLT2 := hide (fun h => HQ6.out (by simpa using HN.out) (fun q hq he => leastB_all (z := zc) (T := T) (ti := ti) (hd := (nth zc.lots i).hold) (k := k) h q (by have := HKK.out; omega) he))
              have HINS := hide (show ∀ w : World, Calls Try.prog 40 #[.int .i64 ti, .agg #[.int .i64 slo, .int .i64 shi]] w fun e w' => e = .returned (.bool true) ∧ Below w.heap.size w w' from fun w => by have := inside_any ti slo shi w; rw [HIN.out] at this; exact this)
              have HFLG := hide (show ∀ t : Later wk, IntsS (grow wk t) (grow wk t).heap.size A11 fl.length k11 (natInts fl) from fun t => (HFL4.out.next hB).next grow_below)
              clear hv hB hkk
              cases hlb : leastB zc T ti (nth zc.lots i).hold k with
              | true =>
                have HHC := hide (show ∀ t : Later wk, Calls Try.prog 38 #[.slice A11 fl.length k11, .int .i64 (i : Int)] (grow wk t) fun e w' => e = .returned (.bool true) ∧ grow wk t = w' from fun t => by have := has_any (HFLG.out t) (i : Int); rw [HLT2.out hlb] at this; exact this)
                clear hlb
                go_wp2_with fail
                refine wp_region_grow (by kernel_rfl) (by kernel_rfl) ?_
                have hgc := @grow_cell
                repeat (first | go_big_quiet_step (((first | (go_at_call 40; exact Calls.grow_of (HINS.out _)) | (go_at_call 38; exact Calls.grow_of_same (HHC.out _))))) | quiet_step (((first | (go_at_call 40; exact Calls.grow_of (HINS.out _)) | (go_at_call 38; exact Calls.grow_of_same (HHC.out _))))))
                refine wpQuiet_nil ?_
                rintro _ ⟨t, rfl⟩
                have hbt3 := grow_below (w := wk) (t := t)
                have HBF := hide (HBE.out.trans (hbt3.mono HBE.out.size))
                clear hgc hbt3
                generalize grow wk t = wf at *
                go_wp2_with fail
                go_roundw
                case rel => exact ⟨i + 1, by omega, by go_num, HBF.out⟩
                case measure => simp [intOf]; omega
              | false =>
                clear hlb
                go_wp2_with fail
                refine wp_region_grow (by kernel_rfl) (by kernel_rfl) ?_
                have hgc := @grow_cell
                repeat (first | go_big_quiet_step (((go_at_call 40; exact Calls.grow_of (HINS.out _)))) | quiet_step (((go_at_call 40; exact Calls.grow_of (HINS.out _)))))
                refine wpQuiet_nil ?_
                rintro _ ⟨t, rfl⟩
                have hbt3 := grow_below (w := wk) (t := t)
                have HBF := hide (HBE.out.trans (hbt3.mono HBE.out.size))
                clear hgc hbt3
                generalize grow wk t = wf at *
                go_wp2_with fail
                go_roundw
                case rel => exact ⟨i + 1, by omega, by go_num, HBF.out⟩
                case measure => simp [intOf]; omega
        · have hnm := HQ4.out (by simpa using HN.out)
          have hw1 : (how == 1) = false := by simpa using hnm
          clear hnm
          go_wp2_with fail
          go_roundw
          case rel => exact ⟨i + 1, by omega, by go_num, HBD.out⟩
          case measure => simp [intOf]; omega
    · have hii : i = zc.lots.length := by omega
      have HII := hide hii
      clear hii z x0 x1 x2 x3 x4 HV
      go_wp2_with (go_at_call 23; refine (awake_any _).mono ?_; rintro e v10 ⟨rfl, hb⟩)
      go_ret
      have hB9 := HB.out.trans (HBA.out.mono HB.out.size)
      exact ⟨rfl, hB9.trans (hb.mono hB9.size)⟩
theorem turnTrue_any {A1 A2 A3 A4 Ax : Option Addr} {c1 c2 c3 c4 cx : Nat} {c : Cargo} {w : World} {l : List Int} (h : CargoV w w.heap.size c A1 A2 A3 A4 c1 c2 c3 c4) (hx : BytesS w w.heap.size Ax cx l) (b : Int) (hb : 0 ≤ b ∧ b ≤ 255) :
    Calls Try.prog 8 #[cargoVal c A1 A2 A3 A4 c1 c2 c3 c4, .slice Ax l.length cx, .int .u8 b] w fun e w' => e = .returned (.bool true) ∧ Below w.heap.size w w' := by
  by_cases hc : (checkM c).2.2 = 0
  · exact true_ok h hx b hb.1 hb.2 (valid_of hc)
  · exact true_bad h hx b hc
end Go.Proofs.Ytbkknliggnhpcaa
