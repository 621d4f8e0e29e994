/- Is of the reference. -/
import Derived.Test.YtocdmkilnbpkdaaGreatDoorID
import Derived.Test.YtocdmkilnbpkdaaGreatDoorVQ
import Derived.OwnWalkIn
import Derived.OwnWalk
import Derived.Laws.AppendOwn
import Derived.Laws.StructEq
import Derived.TacticsInMore
import Derived.Deep.DeepCutAuto
import Derived.Test.YtocdmkilnbpkdaaGreatDoorQX
set_option linter.unusedVariables false
set_option linter.unusedSimpArgs false
namespace Go.Proofs.YtocdmkilnbpkdaaGreatDoor
open Go.RowKit
attribute [local go_sem] Oper.semAt_some

def isStep (b : Book) (xs : List Int) (i : Nat) : Bool := inB (nth xs i) 0 99 && ((behindB b i).isEmpty || inB (nth xs i - sumL (nth xs) (behindB b i)) 0 (nth b.steps i).loss)
def isTal (b : Book) (xs : List Int) (q : Nat) : Bool := tallyOk (nth b.tallies q) (nth xs (nth b.tallies q).step.toNat)
theorem isB_eq (b : Book) (xs : List Int) : isB b xs = ((List.range b.steps.length).all (isStep b xs) && (List.range b.tallies.length).all (isTal b xs)) := rfl
theorem all_succ {p : Nat → Bool} {i : Nat} (h : (List.range i).all p = true) (hi : p i = true) : (List.range (i + 1)).all p = true := by rw [List.range_succ, List.all_append, h]; simp [hi]
theorem all_hit {p : Nat → Bool} {i n : Nat} (hi : i < n) (h : p i = false) : (List.range n).all p = false := by
 rw [Bool.eq_false_iff]
 intro e
 rw [List.all_eq_true.1 e i (List.mem_range.2 hi)] at h
 cases h
theorem sumL_snocW (f : Nat → Int) (l : List Nat) (k : Nat) : sumL f (l ++ [k]) = sumL f l + f k := by
 induction l with
 | nil => simp [sumL]
 | cons x l ih => rw [List.cons_append, sumL, sumL, ih]; omega
theorem sumL_room {f : Nat → Int} {B : Int} (hB : 0 ≤ B) : ∀ {l : List Nat}, (∀ k ∈ l, -B ≤ f k ∧ f k ≤ B) → -(B * l.length) ≤ sumL f l ∧ sumL f l ≤ B * l.length
 | [], _ => by simp [sumL]
 | x :: l, h => by
  have h1 := sumL_room hB (l := l) fun k hk => h k (List.mem_cons_of_mem _ hk)
  have h2 := h x List.mem_cons_self
  have e : B * ((x :: l).length : Int) = B * l.length + B := by rw [List.length_cons]; push_cast; rw [Int.mul_add, Int.mul_one]
  rw [e, sumL]; omega
set_option maxHeartbeats 4000000 in
set_option maxRecDepth 100000 in
theorem is12_any {b : Book} {a : BA} {w : World} {A : Option Addr} {cp : Nat} {xs : List Int} (h : BookV w w.heap.size b a) (hg : Good b) (hx : IntsS w w.heap.size A b.steps.length cp xs) (hbd : ∀ i, -1000000 ≤ nth xs i ∧ nth xs i ≤ 1000000) :
 Calls Tryz.prog 48 #[bookVal b a, .slice A b.steps.length cp] w fun e w' => e = .returned (.bool (isB b xs)) ∧ Below w.heap.size w w' := by
 have hbd1 := hx.bd
 have h6 := hg.six
 have hpos := hg.pos
 have HB := hide (show Below w.heap.size w (w.alloc (.cells (bookCells b a) 25)) from (Below.refl _ _).alloc (Nat.le_refl _) _)
 have HX := hide (BoxB.made h)
 have HI := hide (hx.next HB.out)
 have HG := hide hg
 have HIB := hide (isB_eq b xs)
 have HR := hide (fun (i : Nat) (l : List Nat) (hl : l.length ≤ 6) => show -6000000 ≤ sumL (nth xs) l ∧ sumL (nth xs) l ≤ 6000000 from by
  have h1 := sumL_room (f := nth xs) (B := 1000000) (by decide) (l := l) (fun k _ => hbd k)
  omega)
 have HBD := hide hbd
 have ht12 := h.m2
 unfold maxLen at ht12
 clear h hx hg hbd
 go_enter Tryz.func48, Tryz.ntmps48
 go_upto_region 1 with (fail)
 generalize (w.alloc (.cells (bookCells b a) 25)) = v0 at *
 obtain ⟨gx, x0, x1⟩ := HX.out.cells
 go_wp2_with fail
 clear gx x0 x1
 go_loopw [5, 6, 7, 8, 17, 18, 19, 20, 21, 22, 23, 24, 25, 26, 27, 28, 29, 30, 31, 32, 33, 34, 35, 36, 37, 38, 39, 40, 41, 42, 43, 44, 45, 46, 47, 48, 49, 50, 51, 52, 53, 54, 55, 56, 57, 58, 59, 60, 61, 62, 63, 64, 65, 66] (fun v5 _ _ _ _ _ _ _ _ _ _ _ _ _ _ _ _ _ _ _ _ _ _ _ _ _ _ _ _ _ _ _ _ _ _ _ _ _ _ _ _ _ _ _ _ _ _ _ _ _ _ _ _ _ wr => ∃ i : Nat, i ≤ b.steps.length ∧ v5 = .int .i64 (i : Nat) ∧ (List.range i).all (isStep b xs) = true ∧ Hid (Below v0.heap.size v0 wr)) (fun v5 _ _ _ _ _ _ _ _ _ _ _ _ _ _ _ _ _ _ _ _ _ _ _ _ _ _ _ _ _ _ _ _ _ _ _ _ _ _ _ _ _ _ _ _ _ _ _ _ _ _ _ _ _ _ => b.steps.length - (intOf v5).toNat)
 case atStart => exact ⟨0, Nat.zero_le _, rfl, rfl, hide (Below.refl _ _)⟩
 case round =>
  obtain ⟨i, hi, rfl, hall, HBW⟩ := hrel
  obtain ⟨u0, rfl⟩ : ∃ u0 : World, u0 = wr := ⟨_, rfl⟩
  have hi0 : (0 : Int) ≤ (i : Int) := Int.natCast_nonneg _
  have HX0 := hide (HX.out.next HBW.out)
  have HI0 := hide (HI.out.next HBW.out)
  have HB0 := hide (HB.out.trans (HBW.out.mono HB.out.size))
  by_cases hlt : i < b.steps.length
  · have hi1 : (i : Int) < (b.steps.length : Int) := by omega
    have HALL := hide hall
    clear hall
    obtain ⟨gx, x0, x1⟩ := HX0.out.cells
    go_upto_region 7 with (go_at_call 44; refine (behind12_any HX0.out.v h6 i).mono ?_; rintro e u1 ⟨lA, lc, rfl, hl, _, hb⟩)
    have HX1 := hide (HX0.out.next hb)
    have HI1 := hide (HI0.out.next hb)
    have HBW1 := hide (HBW.out.trans (hb.mono HBW.out.size))
    have HL := hide hl
    have HME := hide (show ∀ k, k ∈ behindB b i → k < b.steps.length from fun k hk => by
     rw [behind_kids HG.out i] at hk
     exact (kid_gt HG.out.way hk).2)
    have hl6 : (behindB b i).length ≤ 6 := by rw [behind_kids HG.out]; exact kids_len HG.out.way i
    have HS := hide (show isStep b xs i = (inB (nth xs i) 0 99 && ((behindB b i).isEmpty || inB (nth xs i - sumL (nth xs) (behindB b i)) 0 (nth b.steps i).loss)) from rfl)
    have HLM := hide (HG.out.loss i hlt)
    clear gx x0 x1 hl hb HX0 HI0 HB0 HBW
    generalize behindB b i = l at *
    obtain ⟨ib, io, rfl, hib, ix⟩ := HI1.out.at_ hlt
    have hxi := HBD.out i
    have HXI := hide hxi
    go_wp2_with fail
    go_loopw [7, 8, 30, 31, 32, 33, 34, 35, 36, 37, 38, 39, 40, 41, 42, 43, 44] (fun v7 v8 _ _ _ _ _ _ _ _ _ _ _ _ _ _ _ wr => ∃ k : Nat, k ≤ l.length ∧ v8 = .int .i64 (k : Nat) ∧ v7 = .int .i64 (nth xs i - sumL (nth xs) (l.take k)) ∧ wr = u1) (fun v7 v8 _ _ _ _ _ _ _ _ _ _ _ _ _ _ _ _ => l.length - (intOf v8).toNat)
    case atStart => exact ⟨0, Nat.zero_le _, rfl, by simp [sumL], rfl⟩
    case round =>
     obtain ⟨k, hk, rfl, rfl, rfl⟩ := hrel
     have hk0 : (0 : Int) ≤ (k : Int) := Int.natCast_nonneg _
     by_cases hkl : k < l.length
     · have hk1 : (k : Int) < ((l.length : Nat) : Int) := by omega
       have HTK := hide (take_snoc (l := l) hkl)
       obtain ⟨lb, lof, rfl, hlb, lx⟩ := HL.out.at_ hkl
       rw [natInts_nth hkl] at lx
       have hq := HME.out (nth l k) (nth_mem hkl)
       have hsr := HR.out 0 (l.take k) (by rw [List.length_take]; omega)
       have hxq := HBD.out (nth l k)
       have HSN := hide (show nth xs i - sumL (nth xs) (l.take (k + 1)) = nth xs i - sumL (nth xs) (l.take k) - nth xs (nth l k) by rw [HTK.out, sumL_snocW]; omega)
       generalize nth l k = q at *
       have hq0 : (0 : Int) ≤ (q : Int) := Int.natCast_nonneg _
       have hq1 : (q : Int) < (b.steps.length : Int) := by omega
       obtain ⟨_, _, e9, hiq, iq⟩ := HI1.out.at_ hq
       simp only [Option.some.injEq, Addr.mk.injEq, and_true] at e9
       obtain ⟨rfl, rfl⟩ := e9
       generalize sumL (nth xs) (l.take k) = sk at *
       generalize nth xs i = xi at *
       have hne : True := trivial
       generalize nth xs q = xq at *
       have hw1 : IntKind.i64.wrap (xi - sk - xq) = xi - sk - xq := IntWalk.i64_in _ (by omega)
       go_wp2_with fail
       go_roundw
       case rel => exact ⟨k + 1, by omega, by go_num, by rw [HSN.out], by first | rfl | trivial⟩
       case measure => simp [intOf]; omega
     · obtain rfl : k = l.length := by omega
       rw [List.take_length]
       obtain ⟨gx, x0, x1⟩ := HX1.out.cells
       obtain ⟨g1, o1, hA1, hg1, s0, s1, s2⟩ := HX1.out.v.steps.steps hlt
       rw [hA1] at x0
       clear hA1 s0 s1
       have hsr := HR.out 0 l hl6
       cases hc1 : inB (nth xs i) 0 99 with
       | false =>
        have HC1 := hide hc1
        have HF := hide (show isB b xs = false by rw [HIB.out, all_hit hlt (by rw [HS.out, hc1] <;> rfl)]; rfl)
        generalize nth xs i = xi at *
        clear hc1
        go_wp2_with (go_at_call 56; refine (in_any xi 0 99 _).mono ?_; rintro e w9 ⟨rfl, rfl⟩; rw [HC1.out])
        go_ret
        exact ⟨by rw [HF.out]; rfl, HB.out.trans (HBW1.out.mono HB.out.size)⟩
       | true =>
        have HC1 := hide hc1
        clear hc1
        cases l with
        | nil =>
         have HOK := hide (all_succ HALL.out (show isStep b xs i = true by rw [HS.out, HC1.out] <;> rfl))
         generalize nth xs i = xi at *
         go_wp2_with (go_at_call 56; refine (in_any xi 0 99 _).mono ?_; rintro e w9 ⟨rfl, rfl⟩; rw [HC1.out])
         go_roundw
         case rel => exact ⟨i + 1, by omega, by go_num, HOK.out, HBW1⟩
         case measure => simp [intOf]; omega
        | cons l0 l =>
         have hlp0 : 0 < (l0 :: l).length := by simp
         have hlp : decide (0 < (((l0 :: l).length : Nat) : Int)) = true := decide_eq_true (by omega)
         have HHS := hide (show isStep b xs i = inB (nth xs i - sumL (nth xs) (l0 :: l)) 0 (nth b.steps i).loss by rw [HS.out, HC1.out]; rfl)
         generalize sumL (nth xs) (l0 :: l) = sk at *
         generalize (nth b.steps i).loss = lo at *
         have hlm := HLM.out
         generalize hln : (l0 :: l).length = ln at *
         clear hln
         cases hc2 : inB (nth xs i - sk) 0 lo with
         | false =>
          have HC2 := hide hc2
          have HF := hide (show isB b xs = false by rw [HIB.out, all_hit hlt (by rw [HHS.out, hc2])]; rfl)
          clear hc2
          generalize nth xs i = xi at *
          go_wp2_with (go_at_call 56; first | (with_reducible refine (in_any xi 0 99 _).mono ?_; rintro e w9 ⟨rfl, rfl⟩; rw [HC1.out]) | (with_reducible refine (in_any (xi - sk) 0 lo _).mono ?_; rintro e w9 ⟨rfl, rfl⟩; rw [HC2.out]))
          go_ret
          exact ⟨by rw [HF.out]; rfl, HB.out.trans (HBW1.out.mono HB.out.size)⟩
         | true =>
          have HC2 := hide hc2
          have HOK := hide (all_succ HALL.out (show isStep b xs i = true by rw [HHS.out, hc2]))
          clear hc2
          generalize nth xs i = xi at *
          go_wp2_with (go_at_call 56; first | (with_reducible refine (in_any xi 0 99 _).mono ?_; rintro e w9 ⟨rfl, rfl⟩; rw [HC1.out]) | (with_reducible refine (in_any (xi - sk) 0 lo _).mono ?_; rintro e w9 ⟨rfl, rfl⟩; rw [HC2.out]))
          go_roundw
          case rel => exact ⟨i + 1, by omega, by go_num, HOK.out, HBW1⟩
          case measure => simp [intOf]; omega
  · obtain rfl : i = b.steps.length := by omega
    have HALL := hide hall
    clear hall
    go_wp2_with fail
    go_loopw [9, 10, 67, 68, 69, 70, 71, 72, 73, 74, 75, 76, 77, 78, 79, 80, 81, 82, 83, 84, 85, 86, 87, 88, 89, 90, 91, 92, 93] (fun v9 _ _ _ _ _ _ _ _ _ _ _ _ _ _ _ _ _ _ _ _ _ _ _ _ _ _ _ _ wr => ∃ q : Nat, q ≤ b.tallies.length ∧ v9 = .int .i64 (q : Nat) ∧ (List.range q).all (isTal b xs) = true ∧ Hid (Below u0.heap.size u0 wr)) (fun v9 _ _ _ _ _ _ _ _ _ _ _ _ _ _ _ _ _ _ _ _ _ _ _ _ _ _ _ _ _ => b.tallies.length - (intOf v9).toNat)
    case atStart => exact ⟨0, Nat.zero_le _, rfl, rfl, hide (Below.refl _ _)⟩
    case round =>
     obtain ⟨q, hq, rfl, hal2, HBW2⟩ := hrel
     obtain ⟨u1, rfl⟩ : ∃ u1 : World, u1 = wr := ⟨_, rfl⟩
     have hq0 : (0 : Int) ≤ (q : Int) := Int.natCast_nonneg _
     have HX1 := hide (HX0.out.next HBW2.out)
     have HI1 := hide (HI0.out.next HBW2.out)
     have HAL2 := hide hal2
     clear hal2
     obtain ⟨gx, x0, x1⟩ := HX1.out.cells
     by_cases hql : q < b.tallies.length
     · have hq1 : (q : Int) < (b.tallies.length : Int) := by omega
       obtain ⟨g1, o1, hA1, hg1, s0, s1, s2⟩ := HX1.out.v.tallies.tallies hql
       rw [hA1] at x1
       clear hA1
       have htg := HG.out.tally q hql
       have HTL := hide (show isTal b xs q = inB (nth xs (nth b.tallies q).step.toNat - (nth b.tallies q).hands) (-(nth b.tallies q).off) (nth b.tallies q).off from by rw [← Int.zero_sub]; rfl)
       generalize (nth b.tallies q).step = st at *
       generalize (nth b.tallies q).hands = hd at *
       generalize (nth b.tallies q).off = of at *
       obtain ⟨⟨ht1, ht2⟩, ⟨ht3, ht4⟩, ht5, ht6⟩ := htg
       obtain ⟨sn, rfl⟩ : ∃ sn : Nat, st = (sn : Int) := ⟨st.toNat, by omega⟩
       rw [Int.toNat_natCast] at HTL
       have hsn : sn < b.steps.length := by omega
       have V3 : u1.heap.size ≤ (u1.alloc (.cells #[.int .i64 (sn : Int), .int .i64 hd, .int .i64 of] 50)).heap.size := by simp
       go_upto_region 18 with (fail)
       have hb : Below u1.heap.size u1 (u1.alloc (.cells #[.int .i64 (sn : Int), .int .i64 hd, .int .i64 of] 50)) := (Below.refl _ _).alloc (Nat.le_refl _) _
       have bt : Blk (u1.alloc (.cells #[.int .i64 (sn : Int), .int .i64 hd, .int .i64 of] 50)) u1.heap.size 50 #[.int .i64 (sn : Int), .int .i64 hd, .int .i64 of] := Blk.made
       have HI2 := hide (HI1.out.next hb)
       have HBW3 := hide (HBW2.out.trans (hb.mono HBW2.out.size))
       have HBT := hide bt
       clear gx x0 x1 s0 s1 s2 hg1 hb bt V3 HX1 HI1
       generalize (u1.alloc (.cells #[.int .i64 (sn : Int), .int .i64 hd, .int .i64 of] 50)) = u2 at *
       generalize u1.heap.size = gt at *
       have zt := HBT.out.lt
       have t0 := HBT.out.at_ 0
       have t1 := HBT.out.at_ 1
       have t2 := HBT.out.at_ 2
       simp only [List.getElem?_toArray, List.getElem?_cons_zero, List.getElem?_cons_succ] at t0 t1 t2
       obtain ⟨ib, io, rfl, hib, ix⟩ := HI2.out.at_ hsn
       have hxs := HBD.out sn
       generalize nth xs sn = xv at *
       have hw1 : IntKind.i64.wrap (xv - hd) = xv - hd := IntWalk.i64_in _ (by omega)
       have hw2 : IntKind.i64.wrap (0 - of) = 0 - of := IntWalk.i64_in _ (by omega)
       have hw3 : IntKind.i64.wrap (-of) = -of := IntWalk.i64_in _ (by omega)
       have hsn0 : (0 : Int) ≤ (sn : Int) := Int.natCast_nonneg _
       have hsn1 : (sn : Int) < (b.steps.length : Int) := by omega
       cases hc : inB (xv - hd) (-of) of with
       | false =>
        have HC := hide hc
        have HF := hide (show isB b xs = false by rw [HIB.out, HALL.out, all_hit hql (by rw [HTL.out, hc])]; rfl)
        clear hc
        go_quiet (first | (go_at_call 56; with_reducible exact Calls.quiet_of_same ((in_any (xv - hd) (-of) of _).mono (fun _ _ h => ⟨by rw [h.1, HC.out], h.2.symm⟩))))
        have hbq := below_drewN (Below.refl u2.heap.size u2) nq
        go_wp2_with fail
        go_ret
        exact ⟨by rw [HF.out]; rfl, HB0.out.trans ((HBW3.out.trans (hbq.mono HBW3.out.size)).mono HB0.out.size)⟩
       | true =>
        have HC := hide hc
        have HOK := hide (all_succ HAL2.out (show isTal b xs q = true by rw [HTL.out, hc]))
        clear hc
        go_quiet (first | (go_at_call 56; with_reducible exact Calls.quiet_of_same ((in_any (xv - hd) (-of) of _).mono (fun _ _ h => ⟨by rw [h.1, HC.out], h.2.symm⟩))))
        have hbq := below_drewN (Below.refl u2.heap.size u2) nq
        go_wp2_with fail
        go_roundw
        case rel => exact ⟨q + 1, by omega, by go_num, HOK.out, hide (HBW3.out.trans (hbq.mono HBW3.out.size))⟩
        case measure => simp [intOf]; omega
     · obtain rfl : q = b.tallies.length := by omega
       have HF := hide (show isB b xs = true by rw [HIB.out, HALL.out, HAL2.out]; rfl)
       go_wp2_with fail
       go_ret
       exact ⟨by rw [HF.out]; rfl, HB0.out.trans (HBW2.out.mono HB0.out.size)⟩
end Go.Proofs.YtocdmkilnbpkdaaGreatDoor
/- LedgerFirst. -/
namespace Go.Proofs.YtocdmkilnbpkdaaGreatDoor
open Go.RowKit
attribute [local go_sem] Oper.semAt_some

theorem lessB_no {xs ys : List Int} (hl : xs.length = ys.length) (h : ∀ j, j < ys.length → (∀ i, i < j → nth xs i = nth ys i) → nth ys j ≤ nth xs j) : lessB xs ys = false := by
 induction xs generalizing ys with
 | nil =>
  cases ys with
  | nil => rfl
  | cons y c => simp at hl
 | cons x a ih =>
  cases ys with
  | nil => simp at hl
  | cons y c =>
   have h0 := h 0 (by simp) (fun i hi => absurd hi (Nat.not_lt_zero i))
   change y ≤ x at h0
   rw [lessB]
   by_cases e : x = y
   · rw [if_pos e]
     exact ih (by simpa using hl) fun j hj hq => h (j + 1) (by simp; omega) fun i hi => by
      cases i with
      | zero => exact e
      | succ i => exact hq i (by omega)
   · rw [if_neg e]; exact decide_eq_false (by omega)
theorem nth_map {f : Nat → Int} {n i : Nat} : nth ((List.range n).map f) i = if i < n then f i else 0 := by
 by_cases h : i < n
 · rw [if_pos h, nth_eq (by simpa using h)]; simp
 · rw [if_neg h]; unfold nth; rw [List.getD_eq_getElem?_getD, List.getElem?_eq_none (by simp; omega)]; rfl
theorem truth_ext {T : Way} {c : Nat → Span} {x y : Nat → Int} (ht : T.Ok) (h : Truth T c x) (e : ∀ i, i < T.n → y i = x i) : Truth T c y :=
 ⟨fun i hi => by rw [e i hi]; exact h.1 i hi, fun i hi hk => by
  rw [e i hi, sumL_ext fun k hk => e k (kid_gt ht hk).2]; exact h.2 i hi hk⟩
structure FirstF (b : Book) (x : List Int) : Prop where
 good : Good b
 val : firstV b = (firstL b b.steps.length, 0)
 len : (firstL b b.steps.length).length = b.steps.length
 is1 : isB b (firstL b b.steps.length) = true
 less : isB b (truL b x) = true → lessB (truL b x) (firstL b b.steps.length) = false
 bd1 : ∀ i, -1000000 ≤ nth (firstL b b.steps.length) i ∧ nth (firstL b b.steps.length) i ≤ 1000000
 bd2 : ∀ i, -1000000 ≤ nth (truL b x) i ∧ nth (truL b x) i ≤ 1000000
theorem first_facts {b : Book} (h : someV b = true) {x : List Int} (hx : ∀ i, 0 ≤ nth x i ∧ nth x i ≤ 255) : FirstF b x := by
 obtain ⟨hg, hs⟩ := some_good h
 have hw := hg.way
 have hn : ∀ i, i < b.steps.length → nth (firstL b b.steps.length) i = firstB b i := fun i hi => by rw [firstL, nth_map, if_pos hi]
 refine ⟨hg, by rw [firstV, if_pos (show enterK b 0 = 0 from enter_at h (i := 0) hg.pos)], by simp [firstL], (is_truth hg).2 (truth_ext hw (first_truth hw hs) hn), fun ht => ?_, fun i => ?_, fun i => ?_⟩
 · have ht := (is_truth hg).1 ht
   refine lessB_no (by simp [firstL, truL]) fun j hj he => ?_
   have hj : j < b.steps.length := by simpa [firstL] using hj
   rw [hn j hj]
   exact first_least hw (cB_99 b _) ht hj fun i hi => by rw [he i hi, hn i (by omega)]; rfl
 · rw [firstL, nth_map]
   split
   · have := first_99B hg hs (i := i) (by assumption); omega
   · omega
 · rw [truL, nth_map]
   split
   · have := tru_bd (t := turnB x) hw (fun i => (turnB_bd hx i).1) (i := i) (by assumption)
     unfold truB; omega
   · omega
set_option maxHeartbeats 4000000 in
set_option maxRecDepth 100000 in
theorem ledgerFirst_any {m : Int} {b : Book} {a : BA} {w : World} (hm : w.cell? ⟨0, 0, none⟩ = some (.int .i64 m)) (hw0 : 0 < w.heap.size) (h : BookV w w.heap.size b a) {A : Option Addr} {cp : Nat} {x : List Int} (hx : BytesS w w.heap.size A cp x) :
 Calls Tryz.prog 9 #[bookVal b a, .slice A x.length cp] w fun e w' => e = .returned (.bool true) ∧ Below w.heap.size w w' := by
 have hb0 : Below w.heap.size w (w.alloc (.cells (bookCells b a) 25)) := (Below.refl _ _).alloc (Nat.le_refl _) _
 have HX := hide (BoxB.made h); have HI := hide (hx.next hb0); have HFF := hide (fun hs : someV b = true => first_facts hs hx.bd)
 have HG := hide ((hb0.cell (p := ⟨0, 0, none⟩) hw0).trans hm)
 have HB := hide hb0
 have hz0 := Nat.lt_of_lt_of_le hw0 hb0.size
 clear h hm hb0 hw0 hx
 go_enter Tryz.func9, Tryz.ntmps9
 go_upto_region 1 with (fail)
 generalize w.alloc (.cells (bookCells b a) 25) = w0 at *
 cases hv : someV b with
 | false =>
  have hk : enterK b 0 ≠ 0 := by rw [someV_enter] at hv; exact of_decide_eq_false hv
  have HV := hide hv
  have HFV := hide (show firstV b = ([], enterK b 0) by rw [firstV, if_neg hk])
  generalize hE : enterK b 0 = E at *
  have hd : (E != 0) = true := by simp [hk]
  clear hk hv hE HFF
  obtain ⟨gx, x0, x1⟩ := HX.out.cells
  go_upto_region 2 with (go_at_call 29; refine (first_any HX.out.v).mono ?_; rintro e y1 ⟨A1, c1, rfl, hi, hb⟩; rw [HFV.out]; simp only; clear hi)
  clear gx x0 x1
  replace HG := hide ((hb.cell (p := ⟨0, 0, none⟩) hz0).trans HG.out)
  replace HB := hide (HB.out.trans (hb.mono HB.out.size))
  replace HX := hide (HX.out.next hb)
  replace HI := hide (HI.out.next hb)
  replace hz0 := Nat.lt_of_lt_of_le hz0 hb.size
  clear hb
  obtain ⟨gx, x0, x1⟩ := HX.out.cells
  go_upto_region 3 with (go_at_call 47; refine (some12L_any HX.out.v).mono ?_; rintro e y2 ⟨rfl, hb⟩; rw [HV.out])
  clear gx x0 x1
  replace HG := hide ((hb.cell (p := ⟨0, 0, none⟩) hz0).trans HG.out)
  replace HB := hide (HB.out.trans (hb.mono HB.out.size))
  replace HX := hide (HX.out.next hb)
  replace HI := hide (HI.out.next hb)
  replace hz0 := Nat.lt_of_lt_of_le hz0 hb.size
  clear hb
  obtain ⟨gx, x0, x1⟩ := HX.out.cells
  go_wp2_with (first | (go_at_call 23; refine (awake12_any HG.out hz0).mono ?_; rintro e y3 ⟨rfl, hb⟩))
  go_ret
  exact ⟨rfl, HB.out.trans (hb.mono HB.out.size)⟩
 | true =>
  obtain ⟨hg, hval, hlen, his, hless, hb1, hb2⟩ := HFF.out hv
  have HV := hide hv
  have HGD := hide hg
  have HFV := hide hval
  have HLN := hide hlen
  have HI1S := hide his
  have HLS := hide hless
  have HBD1 := hide hb1
  have HBD2 := hide hb2
  clear hg hval hlen his hless hb1 hb2 hv HFF
  generalize hF : firstL b b.steps.length = fl at *
  have HFE := hide hF
  clear hF
  obtain ⟨gx, x0, x1⟩ := HX.out.cells
  go_upto_region 2 with (go_at_call 29; refine (first_any HX.out.v).mono ?_; rintro e y1 ⟨A1, c1, rfl, hi, hb⟩; rw [HFV.out] at hi; rw [HFV.out]; simp only [HLN.out] at hi ⊢; have HL1 := hide hi; clear hi)
  clear gx x0 x1
  replace HG := hide ((hb.cell (p := ⟨0, 0, none⟩) hz0).trans HG.out)
  replace HB := hide (HB.out.trans (hb.mono HB.out.size))
  replace HX := hide (HX.out.next hb)
  replace HI := hide (HI.out.next hb)
  replace hz0 := Nat.lt_of_lt_of_le hz0 hb.size
  clear hb
  obtain ⟨gx, x0, x1⟩ := HX.out.cells
  go_upto_region 4 with (go_at_call 47; refine (some12L_any HX.out.v).mono ?_; rintro e y2 ⟨rfl, hb⟩; rw [HV.out])
  clear gx x0 x1
  replace HG := hide ((hb.cell (p := ⟨0, 0, none⟩) hz0).trans HG.out)
  replace HB := hide (HB.out.trans (hb.mono HB.out.size))
  replace HX := hide (HX.out.next hb)
  replace HI := hide (HI.out.next hb)
  replace HL1 := hide (HL1.out.next hb)
  replace hz0 := Nat.lt_of_lt_of_le hz0 hb.size
  clear hb
  obtain ⟨gx, x0, x1⟩ := HX.out.cells
  go_upto_region 5 with (go_at_call 42; refine (truly12_any HX.out.v HGD.out HI.out).mono ?_; rintro e y3 ⟨gt, rfl, ht, hb⟩; have HL2 := hide ht; clear ht)
  clear gx x0 x1
  replace HG := hide ((hb.cell (p := ⟨0, 0, none⟩) hz0).trans HG.out)
  replace HB := hide (HB.out.trans (hb.mono HB.out.size))
  replace HX := hide (HX.out.next hb)
  replace HI := hide (HI.out.next hb)
  replace HL1 := hide (HL1.out.next hb)
  replace hz0 := Nat.lt_of_lt_of_le hz0 hb.size
  clear hb
  clear HI HV HFV HLN HFE
  generalize truL b x = tl at *
  generalize truB b x 0 = t0 at *
  obtain ⟨gx, x0, x1⟩ := HX.out.cells
  by_cases ht0 : t0 ≤ 99
  · have hd0 : decide (t0 ≤ 99) = true := decide_eq_true ht0
    cases his2 : isB b tl with
    | true =>
     have HLF := hide (HLS.out his2)
     have HI2S := hide his2
     clear his2
     go_wp2_with (first | (go_at_call 48; have q9 := HI1S.out; refine (is12_any HX.out.v HGD.out HL1.out HBD1.out).mono ?_; rintro e z1 ⟨rfl, hb⟩; rw [HI1S.out]; clear HI1S q9 gx x0 x1; replace HG := hide ((hb.cell (p := ⟨0, 0, none⟩) hz0).trans HG.out); replace HB := hide (HB.out.trans (hb.mono HB.out.size)); replace HX := hide (HX.out.next hb); replace HL1 := hide (HL1.out.next hb); replace HL2 := hide (HL2.out.next hb); replace hz0 := Nat.lt_of_lt_of_le hz0 hb.size; clear hb; obtain ⟨gx, x0, x1⟩ := HX.out.cells) | (go_at_call 48; have q9 := HI2S.out; refine (is12_any HX.out.v HGD.out HL2.out HBD2.out).mono ?_; rintro e z2 ⟨rfl, hb⟩; rw [HI2S.out]; clear HI2S q9 gx x0 x1; replace HG := hide ((hb.cell (p := ⟨0, 0, none⟩) hz0).trans HG.out); replace HB := hide (HB.out.trans (hb.mono HB.out.size)); replace HX := hide (HX.out.next hb); replace HL1 := hide (HL1.out.next hb); replace HL2 := hide (HL2.out.next hb); replace hz0 := Nat.lt_of_lt_of_le hz0 hb.size; clear hb; obtain ⟨gx, x0, x1⟩ := HX.out.cells) | (go_at_call 49; refine (less_any HL2.out HL1.out).mono ?_; rintro e z3 ⟨rfl, hdr⟩; rw [HLF.out]; have hb := hdr.below z2.heap.size; replace HG := hide ((hb.cell (p := ⟨0, 0, none⟩) hz0).trans HG.out); replace HB := hide (HB.out.trans (hb.mono HB.out.size)); replace HX := hide (HX.out.next hb); replace HL1 := hide (HL1.out.next hb); replace HL2 := hide (HL2.out.next hb); replace hz0 := Nat.lt_of_lt_of_le hz0 hb.size; clear hb) | (go_at_call 23; refine (awake12_any HG.out hz0).mono ?_; rintro e z4 ⟨rfl, hb⟩))
     go_ret
     exact ⟨rfl, HB.out.trans (hb.mono HB.out.size)⟩
    | false =>
     have HI2S := hide his2
     clear his2
     go_wp2_with (first | (go_at_call 48; have q9 := HI1S.out; refine (is12_any HX.out.v HGD.out HL1.out HBD1.out).mono ?_; rintro e z1 ⟨rfl, hb⟩; rw [HI1S.out]; clear HI1S q9 gx x0 x1; replace HG := hide ((hb.cell (p := ⟨0, 0, none⟩) hz0).trans HG.out); replace HB := hide (HB.out.trans (hb.mono HB.out.size)); replace HX := hide (HX.out.next hb); replace HL1 := hide (HL1.out.next hb); replace HL2 := hide (HL2.out.next hb); replace hz0 := Nat.lt_of_lt_of_le hz0 hb.size; clear hb; obtain ⟨gx, x0, x1⟩ := HX.out.cells) | (go_at_call 48; have q9 := HI2S.out; refine (is12_any HX.out.v HGD.out HL2.out HBD2.out).mono ?_; rintro e z2 ⟨rfl, hb⟩; rw [HI2S.out]; clear HI2S q9 gx x0 x1; replace HG := hide ((hb.cell (p := ⟨0, 0, none⟩) hz0).trans HG.out); replace HB := hide (HB.out.trans (hb.mono HB.out.size)); replace HX := hide (HX.out.next hb); replace HL1 := hide (HL1.out.next hb); replace HL2 := hide (HL2.out.next hb); replace hz0 := Nat.lt_of_lt_of_le hz0 hb.size; clear hb; obtain ⟨gx, x0, x1⟩ := HX.out.cells) | (go_at_call 23; refine (awake12_any HG.out hz0).mono ?_; rintro e z4 ⟨rfl, hb⟩))
     go_ret
     exact ⟨rfl, HB.out.trans (hb.mono HB.out.size)⟩
  · have hd0 : decide (t0 ≤ 99) = false := decide_eq_false ht0
    go_wp2_with (first | (go_at_call 48; have q9 := HI1S.out; refine (is12_any HX.out.v HGD.out HL1.out HBD1.out).mono ?_; rintro e z1 ⟨rfl, hb⟩; rw [HI1S.out]; clear HI1S q9 gx x0 x1; replace HG := hide ((hb.cell (p := ⟨0, 0, none⟩) hz0).trans HG.out); replace HB := hide (HB.out.trans (hb.mono HB.out.size)); replace HX := hide (HX.out.next hb); replace HL1 := hide (HL1.out.next hb); replace HL2 := hide (HL2.out.next hb); replace hz0 := Nat.lt_of_lt_of_le hz0 hb.size; clear hb; obtain ⟨gx, x0, x1⟩ := HX.out.cells) | (go_at_call 23; refine (awake12_any HG.out hz0).mono ?_; rintro e z4 ⟨rfl, hb⟩))
    go_ret
    exact ⟨rfl, HB.out.trans (hb.mono HB.out.size)⟩
end Go.Proofs.YtocdmkilnbpkdaaGreatDoor
