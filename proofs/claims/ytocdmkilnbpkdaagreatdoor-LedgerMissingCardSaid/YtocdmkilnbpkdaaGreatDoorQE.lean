/- tallied of the reference. -/
import Derived.Test.YtocdmkilnbpkdaaGreatDoorQD
import Derived.OwnWalkIn
import Derived.OwnWalk
import Derived.TacticsInMore
import Derived.Deep.DeepCutAuto
set_option linter.unusedVariables false
set_option linter.unusedSimpArgs false
namespace Go.Proofs.YtocdmkilnbpkdaaGreatDoor
open Go.RowKit
attribute [local go_sem] Oper.semAt_some

/-- What the first j tallies leave of a set. -/
def talT (b : Book) (xs : List Int) (i : Nat) (x : Nat → Bool) (j t : Nat) : Bool := x t && (List.range j).all fun q => hasInt xs q || !((nth b.tallies q).step == (i : Int)) || tallyOk (nth b.tallies q) t
theorem talT_zero (b : Book) (xs : List Int) (i : Nat) (x : Nat → Bool) (t : Nat) : talT b xs i x 0 t = x t := by simp [talT]
theorem talT_succ (b : Book) (xs : List Int) (i : Nat) (x : Nat → Bool) (j t : Nat) : talT b xs i x (j + 1) t = (talT b xs i x j t && (hasInt xs j || !((nth b.tallies j).step == (i : Int)) || tallyOk (nth b.tallies j) t)) := by
 simp [talT, List.range_succ, Bool.and_assoc]
/-- A round of a tally, up to k. -/
def talR (s : Nat → Bool) (T : Tally) (k t : Nat) : Bool := s t && (decide (k ≤ t) || tallyOk T t)
theorem talR_zero (s : Nat → Bool) (T : Tally) : talR s T 0 = s := by funext t; simp [talR]
theorem talR_succ (s : Nat → Bool) (T : Tally) (k : Nat) : upS (talR s T k) k (talR s T k k && tallyOk T k) = talR s T (k + 1) := by
 funext t
 unfold upS
 split
 · rename_i e
   subst e
   have h2 : decide (t + 1 ≤ t) = false := by simp
   simp only [talR, h2, Nat.le_refl, decide_true, Bool.true_or, Bool.and_true, Bool.false_or]
 · rename_i e
   unfold talR
   by_cases h : k ≤ t
   · have h2 : k + 1 ≤ t := by omega
     simp [h, h2]
   · have h2 : ¬ k + 1 ≤ t := by omega
     simp [h, h2]
theorem talR_at (s : Nat → Bool) (T : Tally) (k : Nat) : talR s T k k = s k := by simp [talR]
theorem talR_all (s : Nat → Bool) (T : Tally) {t : Nat} (h : t < 100) : talR s T 100 t = (s t && tallyOk T t) := by
 have : ¬ 100 ≤ t := by omega
 simp [talR, this]
theorem tallyOk_in (T : Tally) (n : Int) : tallyOk T n = inB (n - T.hands) (-T.off) T.off := by rw [← Int.zero_sub]; rfl
set_option maxHeartbeats 4000000 in
set_option maxRecDepth 100000 in
theorem tallied12_any {b : Book} {a : BA} {w : World} {A : Option Addr} {n c : Nat} {xs : List Int} (h : BookV w w.heap.size b a) (hg : Good b) (h12 : b.tallies.length ≤ 12) (i : Nat) (x : Nat → Bool) (hx : IntsS w w.heap.size A n c xs) :
 Calls Tryz.prog 125 #[bookVal b a, .int .i64 (i : Int), setV x, .slice A n c] w fun e w' => e = .returned (setV (talT b xs i x b.tallies.length)) ∧ Below w.heap.size w w' := by
 have hz := zero95
 go_enter Tryz.func125, Tryz.ntmps125
 go_upto_region 1 with (fail)
 have hb : Below w.heap.size w (((w.alloc (.cells (bookCells b a) 25)).alloc (.cells (setL x).toArray 95)).alloc (.cells (setL fun _ => false).toArray 95)) := (((Below.refl _ _).alloc (Nat.le_refl _) _).alloc (by simp) _).alloc (by simp; omega) _
 have nb : Blk (((w.alloc (.cells (bookCells b a) 25)).alloc (.cells (setL x).toArray 95)).alloc (.cells (setL fun _ => false).toArray 95)) w.heap.size 25 (bookCells b a) := (Blk.made.alloc _).alloc _
 have n1 : SetB (((w.alloc (.cells (bookCells b a) 25)).alloc (.cells (setL x).toArray 95)).alloc (.cells (setL fun _ => false).toArray 95)) (w.heap.size + 1) x := (Blk.made' (by simp)).alloc _
 have n0 : SetB (((w.alloc (.cells (bookCells b a) 25)).alloc (.cells (setL x).toArray 95)).alloc (.cells (setL fun _ => false).toArray 95)) (w.heap.size + 1 + 1) (fun _ => false) := Blk.made' (by simp)
 have HV := hide (h.below hb)
 have HI := hide (hx.below hb)
 have HG := hide hg.tally
 generalize (((w.alloc (.cells (bookCells b a) 25)).alloc (.cells (setL x).toArray 95)).alloc (.cells (setL fun _ => false).toArray 95)) = v at *
 have hz0 := n0.lt
 have NB := hide nb
 have N0 := hide n0
 have N1 := hide n1
 have HB := hide hb
 clear hz nb n0 n1 hb h hx hg
 go_wp2_with fail
 go_loopw [9, 10, 11, 12, 13, 14, 15, 16, 17, 18, 19, 20, 21, 22, 23, 24, 25, 26, 27, 28, 29, 30, 31, 32, 33, 34, 35, 36, 37, 38, 39, 40, 41, 42, 43, 44, 45, 46, 47, 48, 49, 50, 51, 52, 53, 54, 55, 56, 57, 58] (fun v9 _ _ _ _ _ _ _ _ _ _ _ _ _ _ _ _ _ _ _ _ _ _ _ _ _ _ _ _ _ _ _ _ _ _ _ _ _ _ _ _ _ _ _ _ _ _ _ _ _ wr => ∃ j : Nat, j ≤ b.tallies.length ∧ v9 = .int .i64 j ∧ Hid (SetB wr (w.heap.size + 1) (talT b xs i x j)) ∧ Hid (Keep (fun k => k = w.heap.size + 1) v wr)) (fun v9 _ _ _ _ _ _ _ _ _ _ _ _ _ _ _ _ _ _ _ _ _ _ _ _ _ _ _ _ _ _ _ _ _ _ _ _ _ _ _ _ _ _ _ _ _ _ _ _ _ _ => b.tallies.length - (intOf v9).toNat)
 case atStart => exact ⟨0, by omega, rfl, hide (N1.out.ext fun t _ => (talT_zero b xs i x t).symm), hide (Keep.refl _ _)⟩
 case round =>
  obtain ⟨j, hj, rfl, HS, HK⟩ := hrel
  obtain ⟨v1, rfl⟩ : ∃ v1 : World, v1 = wr := ⟨_, rfl⟩
  have hj0 : (0 : Int) ≤ (j : Int) := Int.natCast_nonneg _
  have hbl : Below w.heap.size v v1 := HK.out.below (fun k hk => by omega) (by omega)
  have HV1 := hide (HV.out.below hbl)
  have HI1 := hide (HI.out.below hbl)
  have NB1 := hide (NB.out.keep HK.out (by omega))
  have x0 := NB1.out.at_ 0
  have x1 := NB1.out.at_ 1
  simp only [List.getElem?_toArray, List.getElem?_cons_zero, List.getElem?_cons_succ] at x0 x1
  have hzb := NB1.out.lt
  have hzz := HS.out.lt
  clear hbl
  by_cases hlt : j < b.tallies.length
  · have hj1 : (j : Int) < (b.tallies.length : Int) := by omega
    obtain ⟨g1, o1, hA1, hg1, y0, y1, y2⟩ := HV1.out.tallies.tallies hlt
    rw [hA1] at x1
    clear hA1 x0
    have HT := hide (HG.out j hlt)
    have HSU := hide (fun t => talT_succ b xs i x j t)
    generalize hT : nth b.tallies j = T at *
    obtain ⟨ts, th, tf⟩ := T
    simp only at y0 y1 y2
    have HTT := hide hT
    clear hT
    have hth := HT.out.2.1
    have htf := HT.out.2.2
    simp only at hth htf
    have hbx : Below v1.heap.size v1 (v1.alloc (.cells #[.int .i64 ts, .int .i64 th, .int .i64 tf] 50)) := (Below.refl _ _).alloc (Nat.le_refl _) _
    have q : Blk (v1.alloc (.cells #[.int .i64 ts, .int .i64 th, .int .i64 tf] 50)) v1.heap.size 50 #[.int .i64 ts, .int .i64 th, .int .i64 tf] := Blk.made
    have HK1 := hide (HK.out.trans (Keep.of_below' hbx (fun k => k = w.heap.size + 1)))
    have HS1 := hide (HS.out.next hbx)
    have HI2 := hide ((HI1.out.below (hbx.mono (by omega))))
    go_upto_region 5 with (fail)
    generalize hwx : v1.alloc (.cells #[.int .i64 ts, .int .i64 th, .int .i64 tf] 50) = v2 at *
    have hzx : v2.heap.size = v1.heap.size + 1 := by rw [← hwx]; simp
    have HQ := hide q
    clear hwx q hbx y0 y1 y2 x1 HS
    generalize hgx : v1.heap.size = gx at *
    clear hgx
    go_wp2_with fail
    obtain ⟨hb9, hhb⟩ : ∃ hb9 : Bool, hasInt xs j = hb9 := ⟨_, rfl⟩
    have HH := hide hhb
    rw [hhb] at HSU
    clear hhb
    go_loopw [11, 24, 25, 26, 27, 28, 29, 30, 31, 32, 33, 34, 35, 36, 37, 38, 39, 40, 41, 42, 43, 44, 45, 46, 47, 48, 49, 50, 51, 52, 53, 54, 55, 56, 57, 58] (fun v11 _ _ _ _ _ _ _ _ _ _ _ _ _ _ _ _ _ _ _ _ _ _ _ _ _ _ _ _ _ _ _ _ _ _ _ wr => ∃ k : Nat, k ≤ 100 ∧ v11 = .int .i64 k ∧ Hid (SetB wr (w.heap.size + 1) (talR (talT b xs i x j) ⟨ts, th, tf⟩ k)) ∧ Hid (Keep (fun k => k = w.heap.size + 1) v2 wr) ∧ Hid (((ts == (i : Int)) && !hb9) = false → k = 0)) (fun v11 _ _ _ _ _ _ _ _ _ _ _ _ _ _ _ _ _ _ _ _ _ _ _ _ _ _ _ _ _ _ _ _ _ _ _ _ => 100 - (intOf v11).toNat)
    case atStart => exact ⟨0, by omega, rfl, hide (by rw [talR_zero]; exact HS1.out), hide (Keep.refl _ _), hide (fun _ => rfl)⟩
    case round =>
     obtain ⟨k, hk, rfl, HS2, HK2, HR⟩ := hrel
     have hk0 : (0 : Int) ≤ (k : Int) := Int.natCast_nonneg _
     have HQ2 := hide (HQ.out.keep HK2.out (by omega))
     have q0 := HQ2.out.at_ 0
     have q1 := HQ2.out.at_ 1
     have q2 := HQ2.out.at_ 2
     simp only [List.getElem?_toArray, List.getElem?_cons_zero, List.getElem?_cons_succ] at q0 q1 q2
     have hzq := HQ2.out.lt
     have hzs := HS2.out.lt
     have HI2 := hide (HI2.out.below (B := w.heap.size) (HK2.out.below (fun k hk => by omega) (by omega)))
     by_cases hk9 : k < 100
     · have hk91 : (k : Int) ≤ 99 := by omega
       have hk92 : (k : Int) < 100 := by omega
       have xf := HS2.out.open_ k
       have xk := HS2.out.cell hk9
       rw [talR_at] at xk
       cases hst : (ts == (i : Int)) with
       | true =>
        cases hb9 with
        | false =>
         have hw1 : IntKind.i64.wrap ((k : Int) - th) = (k : Int) - th := IntWalk.i64_in _ (by omega)
         have hw2 : IntKind.i64.wrap (0 - tf) = 0 - tf := IntWalk.i64_in _ (by omega)
         have HSU2 := hide (talR_succ (talT b xs i x j) ⟨ts, th, tf⟩ k)
         rw [talR_at] at HSU2
         have HOK := hide (tallyOk_in ⟨ts, th, tf⟩ k)
         simp only at HOK
         generalize tallyOk ⟨ts, th, tf⟩ (k : Int) = ok at *
         have HNO := hide (show (true : Bool) = false → k + 1 = 0 from fun h => by cases h)
         cases hsk : talT b xs i x j k with
         | true =>
          rw [hsk] at xk
          rw [hsk] at HSU2
          clear hsk
          go_wp2_with (first | (go_at_call 46; refine (has_any HI2.out (j : Int)).mono ?_; rintro e w9 ⟨rfl, rfl⟩; rw [HH.out]) | (go_at_call 56; refine (in_any _ _ _ _).mono ?_; rintro e w9 ⟨rfl, rfl⟩))
          go_roundw
          case rel => exact ⟨k + 1, by omega, by go_num, hide (by rw [← HSU2.out, HOK.out]; exact HS2.out.store k _), hide (HK2.out.trans (Keep.setCell _ _ _ _ rfl)), HNO⟩
          case measure => simp [intOf]; omega
         | false =>
          rw [hsk] at xk
          rw [hsk] at HSU2
          clear hsk
          go_wp2_with (first | (go_at_call 46; refine (has_any HI2.out (j : Int)).mono ?_; rintro e w9 ⟨rfl, rfl⟩; rw [HH.out]) | (go_at_call 56; refine (in_any _ _ _ _).mono ?_; rintro e w9 ⟨rfl, rfl⟩))
          go_roundw
          case rel => exact ⟨k + 1, by omega, by go_num, hide (by rw [← HSU2.out, Bool.false_and]; exact HS2.out.store k _), hide (HK2.out.trans (Keep.setCell _ _ _ _ rfl)), HNO⟩
          case measure => simp [intOf]; omega
        | true =>
         go_wp2_with (first | (go_at_call 46; refine (has_any HI2.out (j : Int)).mono ?_; rintro e w9 ⟨rfl, rfl⟩; rw [HH.out]))
         have hk00 : k = 0 := HR.out (by simp)
         subst hk00
         go_roundw
         case rel => exact ⟨j + 1, by omega, by go_num, hide (HS2.out.ext fun t _ => by rw [talR_zero, HSU.out]; simp), hide (HK1.out.trans HK2.out)⟩
         case measure => simp [intOf]; omega
       | false =>
        clear HT
        have HST := hide hst
        go_wp2_with (first | (go_at_call 46; refine (has_any HI2.out (j : Int)).mono ?_; rintro e w9 ⟨rfl, rfl⟩; rw [HH.out]))
        have hk00 : k = 0 := HR.out (by rw [HST.out]; rfl)
        clear HR
        subst hk00
        go_roundw
        case rel => exact ⟨j + 1, by omega, by go_num, hide (HS2.out.ext fun t _ => by rw [talR_zero, HSU.out, show ((⟨ts, th, tf⟩ : Tally).step == (i : Int)) = false from HST.out]; simp), hide (HK1.out.trans HK2.out)⟩
        case measure => simp [intOf]; omega
     · obtain rfl : k = 100 := by omega
       have HRR := hide (show ((ts == (i : Int)) && !hb9) = true by
        cases hc : ((ts == (i : Int)) && !hb9) with
        | true => rfl
        | false => have := HR.out hc; omega)
       go_wp2_with fail
       go_roundw
       case rel => exact ⟨j + 1, by omega, by go_num, hide (HS2.out.ext fun t ht => by
        have h := HRR.out
        rw [Bool.and_eq_true, Bool.not_eq_true'] at h
        rw [talR_all _ _ ht, HSU.out, h.1, h.2]; simp), hide (HK1.out.trans HK2.out)⟩
       case measure => simp [intOf]; omega
  · obtain rfl : j = b.tallies.length := by omega
    have m1 := HS.out
    have HM1 := hide HS.out
    have m0 := N0.out.keep HK.out (by omega)
    have hz1 := m1.lt
    clear x0
    generalize hs : talT b xs i x b.tallies.length = s at *
    have HSQ := hide hs
    clear hs
    go_wp2_with (first | refine wpList_load_mid rfl 95 (.tmp 6) rfl (w.heap.size + 1) 0 rfl (setL s) _ (SetB.range m1) Tryz.underlying95 rfl (size95 _) ?_ | refine wpList_store_mid rfl 95 (.tmp 8) (.tmp 59) rfl (w.heap.size + 1 + 1) 0 (setL s).toArray rfl rfl (SetB.there m0 _) (size95' _) (setL_all _) ?_)
    exact bodyPost_ret (v := setV s) (results_cell_row rfl _ _ (w.heap.size + 1 + 1) 95 (setL s).toArray (0, 0) _ rfl (m0.whole s) Tryz.underlying95 rfl (size95' _)) rfl ⟨by rw [HSQ.out], set_below (HB.out.trans (HK.out.below (fun k hk => by omega) (by omega))) (by omega) (by omega)⟩
end Go.Proofs.YtocdmkilnbpkdaaGreatDoor
