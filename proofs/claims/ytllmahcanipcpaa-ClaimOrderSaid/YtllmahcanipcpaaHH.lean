/- The contract of claim's Next: against whom to claim, and in how many truths this helps. -/
import Derived.Test.YtllmahcanipcpaaHG
import Derived.OwnWalkIn
import Derived.TacticsInMore
import Derived.Deep.DeepCutAuto
set_option linter.unusedVariables false
set_option linter.unusedSimpArgs false
namespace Go.Proofs.Ytllmahcanipcpaa
open Go.RowKit
attribute [local go_sem ↓] Go.wp_at_zero Go.wp_at_succ
attribute [local go_sem] Oper.semAt_some

/-- Whether one more claim for the lot, of the day, against party i, helps. -/
def hlpB (f : File) (lot : Nat) (day : Int) (i : Nat) (p : List Int) : Bool := withM f p lot == (i : Int) && (!paysB f p lot && decide (day ≤ nth f.untils i))
def cntH (f : File) (lot : Nat) (day : Int) (i : Nat) (T : List (List Int)) : Nat := (T.filter (hlpB f lot day i)).length
theorem cntH_snoc (f : File) (lot : Nat) (day : Int) (i : Nat) (T : List (List Int)) (p : List Int) : cntH f lot day i (T ++ [p]) = cntH f lot day i T + if hlpB f lot day i p then 1 else 0 := by
  simp only [cntH, List.filter_append, List.length_append]
  cases h : hlpB f lot day i p <;> simp [List.filter_cons, h]
theorem wrap_wrap (a : Int) : wrap64 (wrap64 a + 1) = wrap64 (a + 1) := by unfold wrap64; omega
def oftI (f : File) (lot : Nat) (day : Int) (T : List (List Int)) (i : Nat) : Int := wrap64 (cntH f lot day i T : Nat)
abbrev oftA (c : Nat → Int) : Array Value := #[.int .i64 (c 0), .int .i64 (c 1), .int .i64 (c 2), .int .i64 (c 3)]
theorem oftA_at (c : Nat → Int) {q : Nat} (hq : q < 4) : (oftA c)[q]? = some (.int .i64 (c q)) := by
  match q, hq with
  | 0, _ | 1, _ | 2, _ | 3, _ => rfl
theorem oftA_set {c c' : Nat → Int} {q : Nat} (hq : q < 4) (h : ∀ i, i ≠ q → c' i = c i) : (oftA c).setIfInBounds q (.int .i64 (c' q)) = oftA c' := by
  match q, hq with
  | 0, _ => simp [oftA, h 1 (by omega), h 2 (by omega), h 3 (by omega)]
  | 1, _ => simp [oftA, h 0 (by omega), h 2 (by omega), h 3 (by omega)]
  | 2, _ => simp [oftA, h 0 (by omega), h 1 (by omega), h 3 (by omega)]
  | 3, _ => simp [oftA, h 0 (by omega), h 1 (by omega), h 2 (by omega)]
theorem oftI_hit {f : File} {lot : Nat} {day : Int} {T : List (List Int)} {p : List Int} {q : Nat} (hq : withM f p lot = (q : Int)) (h : paysB f p lot = false) (hd : decide (day ≤ nth f.untils q) = true) : oftI f lot day (T ++ [p]) q = wrap64 (oftI f lot day T q + 1) ∧ ∀ i, i ≠ q → oftI f lot day (T ++ [p]) i = oftI f lot day T i := by
  refine ⟨?_, fun i hi => ?_⟩
  · rw [oftI, cntH_snoc, oftI, wrap_wrap]
    rw [if_pos (by simp [hlpB, hq, h]; simpa using hd)]; rfl
  · rw [oftI, cntH_snoc, if_neg (by simp [hlpB, hq]; intro e; omega)]; rfl
theorem oftI_miss {f : File} {lot : Nat} {day : Int} {T : List (List Int)} {p : List Int} {q : Nat} (hq : withM f p lot = (q : Int)) (h : (!paysB f p lot && decide (day ≤ nth f.untils q)) = false) : oftI f lot day (T ++ [p]) = oftI f lot day T := by
  funext i
  rw [oftI, cntH_snoc, if_neg ?_]; · rfl
  rw [Bool.not_eq_true, hlpB]
  by_cases hi : i = q
  · subst hi; rw [h, Bool.and_false]
  · rw [hq]; simp; intro e; omega
theorem comp_len {f : File} (hv : Valid f) : ∀ (d k : Nat) (g : List Int), k + d ≤ f.lots.length → (compP f d k g).length ≤ 4 ^ d
  | 0, k, g, _ => by simp [compP]
  | d + 1, k, g, h => by
    rw [compP, List.length_flatMap]
    have hl := hv.lot k (by omega)
    have hr := hv.route k (by omega)
    have hs : (spanVals (nth f.lots k).turned).length ≤ 4 := by simp [spanVals]; omega
    have key : ∀ l : List Int, (l.map fun x => (compP f d (k + 1) (g ++ [x])).length).sum ≤ l.length * 4 ^ d := by
      intro l
      induction l with
      | nil => simp
      | cons x l ih =>
        have := comp_len hv d (k + 1) (g ++ [x]) (by omega)
        simp only [List.map_cons, List.sum_cons, List.length_cons, Nat.add_mul, Nat.one_mul]
        omega
    refine Nat.le_trans (key _) ?_
    rw [Nat.pow_succ, Nat.mul_comm]
    exact Nat.mul_le_mul_left _ hs
theorem truthsB_len {f : File} (hv : Valid f) (but : Nat) : (truthsB f but).length ≤ 256 := by
  refine Nat.le_trans (List.length_filter_le _ _) ?_
  rw [statesP, todoP, List.length_map]
  refine Nat.le_trans (comp_len hv _ _ _ (by omega)) ?_
  exact Nat.le_trans (Nat.pow_le_pow_right (by omega) hv.lots) (by decide)
theorem oftI_nat {f : File} (hv : Valid f) (lot : Nat) (day : Int) (i : Nat) : oftI f lot day (truthsB f 0) i = (cntH f lot day i (truthsB f 0) : Nat) := by
  have h1 : cntH f lot day i (truthsB f 0) ≤ _ := List.length_filter_le _ _
  have h2 := truthsB_len hv 0
  exact IntWalk.wrap64_in _ (by omega)
/-- The first of the greatest, of k numbers: which, and how great. -/
def bestI (c : Nat → Int) : Nat → Int × Int
  | 0 => (0, 0)
  | k + 1 => if (bestI c k).2 < c k then ((k : Int), c k) else bestI c k
def otherE (day : Int) : Int := if offP 0 60 day then 7 else 0
def nextV (f : File) (lot day : Int) : (Int × Int) × Int := if enterE f lot f.lots.length (otherE day) = 0 then
    (if (bestI (fun i => (cntH f lot.toNat day i (truthsB f 0) : Nat)) 4).2 = 0 then ((0, 0), 9) else (bestI (fun i => (cntH f lot.toNat day i (truthsB f 0) : Nat)) 4, 0))
  else ((0, 0), enterE f lot f.lots.length (otherE day))
set_option maxRecDepth 100000 in
theorem idx4 {c : Nat → Int} {k : Nat} {W : World} (hk : k < 4) : Sem.run Try.prog (Instr.index 85 (.agg (oftA c)) (.int .i64 k)) W = .ok (.int .i64 (c k)) W := by
  obtain rfl | rfl | rfl | rfl : k = 0 ∨ k = 1 ∨ k = 2 ∨ k = 3 := by omega
  all_goals first | rfl | (go_simp; done) | (go_simp; rfl)
set_option maxHeartbeats 4000000 in
set_option maxRecDepth 100000 in
theorem next_any2 {w : World} {f : File} {fa : FA} (h : FileV w w.heap.size f fa) (lot day : Int) :
    Calls Try.prog 57 #[fileVal f fa, .int .i64 lot, .int .i64 day] w fun e w' => e = .returned (.tuple #[.int .i64 (nextV f lot day).1.1, .int .i64 (nextV f lot day).1.2, .int .i64 (nextV f lot day).2]) ∧ Below w.heap.size w w' := by
  have hB0 : Below w.heap.size w (((w.alloc (.cells (fileCells f fa) 28)).alloc (.cells #[.int .i64 lot] 3)).alloc (.cells #[.int .i64 day] 3)) := (((Below.refl _ _).alloc (Nat.le_refl _) _).alloc (by simp) _).alloc (by simp; omega) _
  have q1 : Blk (((w.alloc (.cells (fileCells f fa) 28)).alloc (.cells #[.int .i64 lot] 3)).alloc (.cells #[.int .i64 day] 3)) w.heap.size 28 (fileCells f fa) := (Blk.made.alloc _).alloc _
  have q2 : Blk (((w.alloc (.cells (fileCells f fa) 28)).alloc (.cells #[.int .i64 lot] 3)).alloc (.cells #[.int .i64 day] 3)) (w.heap.size + 1) 3 #[.int .i64 lot] := (Blk.made' (by simp)).alloc _
  have q3 : Blk (((w.alloc (.cells (fileCells f fa) 28)).alloc (.cells #[.int .i64 lot] 3)).alloc (.cells #[.int .i64 day] 3)) (w.heap.size + 1 + 1) 3 #[.int .i64 day] := Blk.made' (by simp)
  have H00 := hide h
  have HC0 := hide (h.next hB0)
  have HQ1 := hide q1
  have HQ2 := hide q2
  have HQ3 := hide q3
  have HB0 := hide hB0
  clear h hB0 q1 q2
  refine (callsIn_wide (n := 0)).1 (callsIn_of_wp_marks Try.func57 rfl trivial ?_ rfl)
  refine (wpIn_wide (n := 0)).2 ?_
  simp only [Try.ntmps57, List.size_toArray, List.length_cons, List.length_nil, Nat.reduceAdd, Nat.reduceSub, Array.replicate_succ, Array.replicate_zero, List.push_toArray, List.append_toArray, List.nil_append, List.cons_append]
  have hsz : (((w.alloc (.cells (fileCells f fa) 28)).alloc (.cells #[.int .i64 lot] 3)).alloc (.cells #[.int .i64 day] 3)).heap.size = w.heap.size + 1 + 1 + 1 := by simp
  have r3 := q3.at_ 0
  simp only [List.getElem?_toArray, List.getElem?_cons_zero] at r3
  clear q3
  go_wp2_with fail
  have HSZ := hide hsz
  generalize (((w.alloc (.cells (fileCells f fa) 28)).alloc (.cells #[.int .i64 lot] 3)).alloc (.cells #[.int .i64 day] 3)) = w0 at *
  refine (off_1 HSZ.out _ _ _).mono ?_
  rintro e w0' ⟨rfl, hb0'⟩
  clear hsz
  go_upto_if 18 with fail
  refine wp_one (a0 := { tmps := #[fileVal f fa, .int .i64 lot, .int .i64 day, .pointer (some ⟨w.heap.size, 0, none⟩), .pointer (some ⟨w.heap.size + 1, 0, none⟩), .pointer (some ⟨w.heap.size + 1 + 1, 0, none⟩), .int .i64 (0), .int .i64 (0), .int .i64 (0), .int .i64 (otherE day), undef, undef, undef, undef, undef, undef, .int .i64 day, .slice (some ⟨w.heap.size + 1 + 1 + 1, 0, none⟩) 1 1, .bool (offP 0 60 day), undef, undef, undef, undef, undef, undef, undef, undef, undef, undef, undef, undef, undef, undef, undef, undef, undef, undef, undef, undef, undef, undef, undef, undef, undef, undef, undef, undef, undef, undef, undef, undef, undef, undef, undef, undef, undef, undef, undef, undef, undef, undef, undef, undef, undef, undef, undef, undef, undef, undef, undef, undef, undef, undef], defers := [] }) (w0 := w0') ?hcond ?hafter
  case hcond =>
    cases hof : offP 0 60 day with
    | true =>
      have HO := hide (show otherE day = 7 by rw [otherE, hof]; rfl)
      go_wp2_with fail
      simp only [HO.out]
    | false =>
      have HO := hide (show otherE day = 0 by rw [otherE, hof]; rfl)
      go_wp2_with fail
      simp only [HO.out]
  case hafter =>
  have hz00 := HQ3.out.lt
  have HC0 := hide (HC0.out.next hb0')
  have HQ1 := hide (HQ1.out.next hb0')
  have HQ2 := hide (HQ2.out.next hb0')
  have HQ3 := hide (HQ3.out.next hb0')
  have hz0' := hb0'.size
  have HB0 := hide (HB0.out.trans (hb0'.mono HB0.out.size))
  clear hb0' r3
  generalize hoff : offP 0 60 day = of at *
  clear hoff
  have r0 := HQ1.out.at_ 0
  have r1 := HQ1.out.at_ 1
  have r2 := HQ1.out.at_ 2
  have r3 := HQ1.out.at_ 3
  have r4 := HQ1.out.at_ 4
  have rl := HQ2.out.at_ 0
  simp only [fileCells, List.getElem?_toArray, List.getElem?_cons_zero, List.getElem?_cons_succ] at r0 r1 r2 r3 r4 rl
  have hzq := HQ3.out.lt
  go_wp2_with fail
  refine (enter_any HC0.out lot _ (otherE day) (by have := HC0.out.m3; unfold maxLen at this; omega)).mono ?_
  rintro e w1 (⟨hE, hv, b, bm, rfl, hbb, hbm, hL, hB1⟩ | ⟨hE, rfl, hB1⟩)
  · obtain ⟨hl0, hl1, -, -⟩ := enter_in hE
    have HX := hide (show nextV f lot day = if (bestI (fun i => (cntH f lot.toNat day i (truthsB f 0) : Nat)) 4).2 = 0 then ((0, 0), 9) else (bestI (fun i => (cntH f lot.toNat day i (truthsB f 0) : Nat)) 4, 0) by rw [nextV, if_pos hE])
    have hz01 := hB1.size
    obtain ⟨k, rfl⟩ : ∃ k : Nat, lot = (k : Int) := ⟨lot.toNat, by omega⟩
    rw [Int.toNat_natCast] at HX
    have hkl : k < f.lots.length := by omega
    have HV := hide hv
    have HB1 := hide (HB0.out.trans (hB1.mono HB0.out.size))
    have hB2 : Below w1.heap.size w1 ((w1.alloc (.cells #[.pointer (some ⟨b, 0, none⟩)] 79)).alloc (.cells #[.int .i64 0, .int .i64 0, .int .i64 0, .int .i64 0] 85)) := ((Below.refl _ _).alloc (Nat.le_refl _) _).alloc (by simp) _
    have n1 := (HQ1.out.next hB1).next hB2
    have n2 := (HQ2.out.next hB1).next hB2
    have n3 := (HQ3.out.next hB1).next hB2
    have n4 : Blk ((w1.alloc (.cells #[.pointer (some ⟨b, 0, none⟩)] 79)).alloc (.cells #[.int .i64 0, .int .i64 0, .int .i64 0, .int .i64 0] 85)) w1.heap.size 79 #[.pointer (some ⟨b, 0, none⟩)] := Blk.made.alloc _
    have n5 : Blk ((w1.alloc (.cells #[.pointer (some ⟨b, 0, none⟩)] 79)).alloc (.cells #[.int .i64 0, .int .i64 0, .int .i64 0, .int .i64 0] 85)) (w1.heap.size + 1) 85 #[.int .i64 0, .int .i64 0, .int .i64 0, .int .i64 0] := Blk.made' (by simp)
    have HL := hide ((hL.less (H00.out.below HB1.out) HB1.out.size).still hB2)
    have hll := hv.lots
    have hpl := hv.parties
    have hul := hv.untils
    have hb1 := hL.hb
    have hbm1 := hL.hm
    have HE0 := hide hE
    have HB2 := hide (HB1.out.trans (hB2.mono HB1.out.size))
    clear hE hv hL hB1 hB2 r0 r1 r2 r3 r4 rl
    go_wp2_with fail
    generalize ((w1.alloc (.cells #[.pointer (some ⟨b, 0, none⟩)] 79)).alloc (.cells #[.int .i64 0, .int .i64 0, .int .i64 0, .int .i64 0] 85)) = w2 at *
    refine truths_any.mono ?_
    rintro e w3 ⟨p1, rfl, hp1, hp1', e1, hB3⟩
    have hz2 := n5.lt
    have hz3 := hB3.size
    have HL3 := hide (HL.out.still hB3)
    replace n1 := n1.next hB3
    replace n2 := n2.next hB3
    replace n3 := n3.next hB3
    replace n4 := n4.next hB3
    replace n5 := n5.next hB3
    have HB3 := hide (HB2.out.trans (hB3.mono HB2.out.size))
    clear hB3
    go_wp2_with fail
    refine range_truths (f := f) (A := fun x g => { tmps := #[fileVal f fa, .int .i64 (k : Nat), .int .i64 day, .pointer (some ⟨w.heap.size, 0, none⟩), .pointer (some ⟨w.heap.size + 1, 0, none⟩), .pointer (some ⟨w.heap.size + 1 + 1, 0, none⟩), .int .i64 (0), .int .i64 (0), .int .i64 (0), .int .i64 (otherE day), .pointer (some ⟨w1.heap.size, 0, none⟩), .pointer (some ⟨w1.heap.size + 1, 0, none⟩), .pointer (some ⟨g, 0, none⟩), undef, undef, undef, .int .i64 day, .slice (some ⟨w.heap.size + 1 + 1 + 1, 0, none⟩) 1 1, .bool of, .tuple #[.pointer (some ⟨b, 0, none⟩), .int .i64 (0)], fileVal f fa, .int .i64 (k : Nat), .pointer (some ⟨w.heap.size, 2, none⟩), .slice fa.A3 f.lots.length fa.c3, .int .i64 (f.lots.length : Nat), .int .i64 (otherE day), .tuple #[.pointer (some ⟨b, 0, none⟩), .int .i64 (0)], .pointer (some ⟨b, 0, none⟩), .int .i64 (0), .int .i64 (0), .bool false, undef, .pointer (some ⟨b, 0, none⟩), .func (.func 77) #[] #[.pointer (some ⟨p1, 0, none⟩)], plVal x, undef, undef, undef, undef, undef, undef, undef, undef, undef, undef, undef, undef, undef, undef, undef, undef, undef, undef, undef, undef, undef, undef, undef, undef, undef, undef, undef, undef, undef, undef, undef, undef, undef, undef, undef, undef, undef, undef], defers := [] }) rfl rfl HL3.out HV.out (by omega : 0 < 32) e1
      (fun k => k = w1.heap.size + 1) (fun k hk => by omega)
      (fun pre W => Blk W w.heap.size 28 (fileCells f fa) ∧ Blk W (w.heap.size + 1) 3 #[.int .i64 (k : Nat)] ∧ Blk W (w.heap.size + 1 + 1) 3 #[.int .i64 day] ∧ Blk W w1.heap.size 79 #[.pointer (some ⟨b, 0, none⟩)] ∧ Blk W (w1.heap.size + 1) 85 (oftA (oftI f k day pre))) (fun _ _ _ => False) ?hI (fun _ _ _ _ h _ => h) ?h0 ?hass ?body ?done (fun _ _ _ _ _ _ _ h _ _ _ => h.elim)
    case hI =>
      rintro pre V V' ⟨i1, i2, i3, i4, i5⟩ hk
      exact ⟨i1.keep hk (by omega), i2.keep hk (by omega), i3.keep hk (by omega), i4.keep hk (by omega), i5.keep hk (by omega)⟩
    case h0 => exact ⟨n1, n2, n3, n4, by rw [show oftI f k day [] = (fun _ => 0) from funext (fun i => by simp [oftI, cntH, wrap64])]; exact n5⟩
    case hass =>
      intro l x W1
      simp only [plVal, iv]
      gi_wp2
    case body =>
      rintro l pre x W3 g hg hl hx0 hx ⟨i1, i2, i3, i4, i5⟩ hLW hp hz4
      have r1 := i4.at_ 0
      have rl := i2.at_ 0
      have x0 := hp.at_ 0
      have x1 := hp.at_ 1
      have x2 := hp.at_ 2
      have x3 := hp.at_ 3
      simp only [List.getElem?_toArray, List.getElem?_cons_zero, List.getElem?_cons_succ] at r1 rl x0 x1 x2 x3
      obtain ⟨q, hq, hqp⟩ := with_range HV.out hx hkl
      have hgz := hp.lt
      have hz34 := i4.lt
      have hz32 := i2.lt
      have HW := hide (withG_any hLW HV.out hx hkl)
      have HQ := hide hq
      have HLW := hide hLW
      have HI1 := hide i1
      have HI2 := hide i2
      have HI3 := hide i3
      have HI4 := hide i4
      have HI5 := hide i5
      have HP := hide hp
      clear i1 i2 i3 i4 i5 hLW hp hq
      refine wpIn_block ?_
      simp only [plVal, iv]
      gi_wp2_with fail
      refine ⟨trivial, rfl, CallsIn.inRound _ (callsIn_wide.2 (HW.out.mono ?_))⟩
      rintro e w5 ⟨rfl, hb5⟩
      rw [HQ.out]
      have i1 := HI1.out.next hb5
      have i2 := HI2.out.next hb5
      have i3 := HI3.out.next hb5
      have i4 := HI4.out.next hb5
      have i5 := HI5.out.next hb5
      have hp := HP.out.next hb5
      have hL5 := HLW.out.still hb5
      obtain ⟨bu, ou, hA2, hbu, gu⟩ := hL5.v.untils.ints (show q < f.untils.length by omega)
      have r1 := i4.at_ 0
      have rl := i2.at_ 0
      have rd := i3.at_ 0
      have ru := i1.at_ 1
      have ro := i5.at_ q
      have fo := i5.free q
      have x0 := hp.at_ 0
      have x1 := hp.at_ 1
      have x2 := hp.at_ 2
      have x3 := hp.at_ 3
      simp only [fileCells, List.getElem?_toArray, List.getElem?_cons_zero, List.getElem?_cons_succ] at r1 rl rd ru x0 x1 x2 x3
      rw [oftA_at _ (show q < 4 by omega)] at ro
      rw [hA2] at ru
      have hgz := hp.lt
      have hz1 := i1.lt
      have hz2 := i2.lt
      have hz3 := i3.lt
      have hz4 := i4.lt
      have hz5 := i5.lt
      have hbuz : bu < w5.heap.size := by have := hL5.hL; omega
      have hm2 := hL5.v.m2
      unfold maxLen at hm2
      have hq0 : (0 : Int) ≤ (q : Int) := Int.natCast_nonneg _
      have hq1 : (q : Int) < (f.untils.length : Int) := by omega
      have hq4 : (q : Int) < 4 := by omega
      have hq4n : q < 4 := by omega
      have HK5 := hide (Keep.of_below' hb5 (fun k => k = bm))
      have HI1 := hide i1
      have HI2 := hide i2
      have HI3 := hide i3
      have HI4 := hide i4
      have HI5 := hide i5
      have HLW := hide hL5
      have HUT := hide (fun (h : paysB f x (k : Int) = false) (hd : decide (day ≤ nth f.untils q) = true) => oftI_hit (T := pre) HQ.out h hd)
      have HUM := hide (fun (h : (!paysB f x (k : Int) && decide (day ≤ nth f.untils q)) = false) => oftI_miss (T := pre) HQ.out h)
      clear i1 i2 i3 i4 i5 hp hL5 hb5 hA2 HP HW
      generalize oftI f k day pre q = oq at *
      gi_wp2_with fail
      cases hpb : paysB f x (k : Int) with
      | true =>
        have HPB := hide hpb
        clear hpb
        refine wpIn_round_rel (dst := fun i => [39, 40, 41, 42, 43, 44, 45, 46, 47, 48, 49, 50, 51, 52].getD i 0) (mono := fun i => decide (i < 14)) (pre := fun i => decide (i < 14)) (R := LKeep (fun k => k = bm) (fun W => Known W bm (paidV f)))
          (Pv := fun i v W => match i with
            | 0 => v = .pointer (some ⟨b, 0, none⟩)
            | 1 => v = .agg #[.int .i64 (nth x 0), .int .i64 (nth x 1), .int .i64 (nth x 2), .int .i64 (nth x 3)]
            | 2 => v = .int .i64 (k : Nat)
            | 3 => v = .bool true
            | 4 => v = .bool false
            | 5 => v = .bool false
            | 6 => v = undef
            | 7 => v = undef
            | 8 => v = undef
            | 9 => v = undef
            | 10 => v = undef
            | 11 => v = undef
            | 12 => v = undef
            | 13 => v = .bool false
            | _ => True) (by kernel_rfl) (by kernel_rfl) (by rintro ⟨a, w, h⟩; exact h) (by kernel_rfl) (LKeep.refl _ _) (fun _ _ _ h h' => h.trans h') ?hst ?hstep ?hend
        case hst =>
          intro i v W W' h hk
          match i, h with
          | 0, h => exact h
          | 1, h => exact h
          | 2, h => exact h
          | 3, h => exact h
          | 4, h => exact h
          | 5, h => exact h
          | 6, h => exact h
          | 7, h => exact h
          | 8, h => exact h
          | 9, h => exact h
          | 10, h => exact h
          | 11, h => exact h
          | 12, h => exact h
          | 13, h => exact h
          | i + 14, h => exact trivial
        case hstep =>
          intro i hi hm listed vs a W hU hk0 hpv haft K hK
          have hkk := (LKeep.drew (fun k => k = bm) (M := fun W => Known W bm (paidV f)) w5 (fun h => h)).trans hk0
          have hk := hkk.1
          have hkm := hkk.2
          clear hkk
          match i, hi, hm with
          | 0, hi, hm =>
            have z10 : a.tmps[10]?.getD undef = .pointer (some ⟨w1.heap.size, 0, none⟩) := hU.same 10 (by decide)
            have y0 := (hk.cell (b := w1.heap.size) (o := 0) (by omega) (by omega)).trans (r1)
            refine wpOp_value (v := .pointer (some ⟨b, 0, none⟩)) (W' := W) rfl rfl ?_ (hK _ _ (LKeep.refl _ _ _) rfl)
            go_simp
          | 1, hi, hm =>
            have z12 : a.tmps[12]?.getD undef = .pointer (some ⟨g, 0, none⟩) := hU.same 12 (by decide)
            have y0 := (hk.cell (b := g) (o := 0) (hgz) (by omega)).trans (x0)
            have y1 := (hk.cell (b := g) (o := 1) (hgz) (by omega)).trans (x1)
            have y2 := (hk.cell (b := g) (o := 2) (hgz) (by omega)).trans (x2)
            have y3 := (hk.cell (b := g) (o := 3) (hgz) (by omega)).trans (x3)
            refine wpOp_value (v := .agg #[.int .i64 (nth x 0), .int .i64 (nth x 1), .int .i64 (nth x 2), .int .i64 (nth x 3)]) (W' := W) rfl rfl ?_ (hK _ _ (LKeep.refl _ _ _) rfl)
            go_simp
          | 2, hi, hm =>
            have z4 : a.tmps[4]?.getD undef = .pointer (some ⟨w.heap.size + 1, 0, none⟩) := hU.same 4 (by decide)
            have y0 := (hk.cell (b := w.heap.size + 1) (o := 0) (by omega) (by omega)).trans (rl)
            refine wpOp_value (v := .int .i64 (k : Nat)) (W' := W) rfl rfl ?_ (hK _ _ (LKeep.refl _ _ _) rfl)
            go_simp
          | 3, hi, hm =>
            have l0 := haft _ rfl { on := 0, ground := .data } (by simp) rfl
            have hv0 : vs 0 = .pointer (some ⟨b, 0, none⟩) := hpv 0 l0
            have s0 : a.tmps[39]?.getD undef = vs 0 := hU.slot 0 (by decide) l0
            rw [hv0] at s0
            have l1 := haft _ rfl { on := 1, ground := .data } (by simp) rfl
            have hv1 : vs 1 = .agg #[.int .i64 (nth x 0), .int .i64 (nth x 1), .int .i64 (nth x 2), .int .i64 (nth x 3)] := hpv 1 l1
            have s1 : a.tmps[40]?.getD undef = vs 1 := hU.slot 1 (by decide) l1
            rw [hv1] at s1
            have l2 := haft _ rfl { on := 2, ground := .data } (by simp) rfl
            have hv2 : vs 2 = .int .i64 (k : Nat) := hpv 2 l2
            have s2 : a.tmps[41]?.getD undef = vs 2 := hU.slot 2 (by decide) l2
            rw [hv2] at s2
            refine wpOp_enter (f := 60) (args := #[.pointer (some ⟨b, 0, none⟩), .agg #[.int .i64 (nth x 0), .int .i64 (nth x 1), .int .i64 (nth x 2), .int .i64 (nth x 3)], .int .i64 (k : Nat)]) (W' := W) rfl rfl ?_ (((pays_any2 (HLW.out.keep hk (fun k h => .inl h) (hkm HLW.out.k)) HV.out hx (k : Int)).mono (fun e w h => by rw [HPB.out] at h; exact h)).mono (fun e w'' h => ?_))
            · go_simp
            · obtain ⟨he, hkw, hn⟩ := h
              exact ⟨_, he, hK _ _ (⟨hkw, fun _ => hn⟩) rfl⟩
          | 4, hi, hm =>
            have l3 := haft _ rfl { on := 3, ground := .data } (by simp) rfl
            have hv3 : vs 3 = .bool true := hpv 3 l3
            have s3 : a.tmps[42]?.getD undef = vs 3 := hU.slot 3 (by decide) l3
            rw [hv3] at s3
            refine wpOp_value (v := .bool false) (W' := W) rfl rfl ?_ (hK _ _ (LKeep.refl _ _ _) rfl)
            go_simp
          | 5, hi, hm =>
            have l4 := haft _ rfl { on := 4, ground := .data } (by simp) rfl
            have hv4 : vs 4 = .bool false := hpv 4 l4
            have s4 : a.tmps[43]?.getD undef = vs 4 := hU.slot 4 (by decide) l4
            rw [hv4] at s4
            refine wpOp_value (v := .bool false) (W' := W) rfl rfl ?_ (hK _ _ (LKeep.refl _ _ _) rfl)
            go_simp
          | 6, hi, hm =>
            have l5 := haft _ rfl { on := 5, ground := .guard } (by simp) rfl
            have hv5 : vs 5 = .bool false := hpv 5 l5
            have s5 : a.tmps[44]?.getD undef = vs 5 := hU.slot 5 (by decide) l5
            rw [hv5] at s5
            refine wpOp_unwanted rfl ?_ (hK _ _ (LKeep.refl _ _ _) rfl)
            refine wanted_no (j := 5) (d := 44) ?_ ?_ s5 <;> rfl
          | 7, hi, hm =>
            have l5 := haft _ rfl { on := 5, ground := .guard } (by simp) rfl
            have hv5 : vs 5 = .bool false := hpv 5 l5
            have s5 : a.tmps[44]?.getD undef = vs 5 := hU.slot 5 (by decide) l5
            rw [hv5] at s5
            refine wpOp_unwanted rfl ?_ (hK _ _ (LKeep.refl _ _ _) rfl)
            refine wanted_no (j := 5) (d := 44) ?_ ?_ s5 <;> rfl
          | 8, hi, hm =>
            have l5 := haft _ rfl { on := 5, ground := .guard } (by simp) rfl
            have hv5 : vs 5 = .bool false := hpv 5 l5
            have s5 : a.tmps[44]?.getD undef = vs 5 := hU.slot 5 (by decide) l5
            rw [hv5] at s5
            refine wpOp_unwanted rfl ?_ (hK _ _ (LKeep.refl _ _ _) rfl)
            refine wanted_no (j := 5) (d := 44) ?_ ?_ s5 <;> rfl
          | 9, hi, hm =>
            have l5 := haft _ rfl { on := 5, ground := .guard } (by simp) rfl
            have hv5 : vs 5 = .bool false := hpv 5 l5
            have s5 : a.tmps[44]?.getD undef = vs 5 := hU.slot 5 (by decide) l5
            rw [hv5] at s5
            refine wpOp_unwanted rfl ?_ (hK _ _ (LKeep.refl _ _ _) rfl)
            refine wanted_no (j := 5) (d := 44) ?_ ?_ s5 <;> rfl
          | 10, hi, hm =>
            have l5 := haft _ rfl { on := 5, ground := .guard } (by simp) rfl
            have hv5 : vs 5 = .bool false := hpv 5 l5
            have s5 : a.tmps[44]?.getD undef = vs 5 := hU.slot 5 (by decide) l5
            rw [hv5] at s5
            refine wpOp_unwanted rfl ?_ (hK _ _ (LKeep.refl _ _ _) rfl)
            refine wanted_no (j := 5) (d := 44) ?_ ?_ s5 <;> rfl
          | 11, hi, hm =>
            have l5 := haft _ rfl { on := 5, ground := .guard } (by simp) rfl
            have hv5 : vs 5 = .bool false := hpv 5 l5
            have s5 : a.tmps[44]?.getD undef = vs 5 := hU.slot 5 (by decide) l5
            rw [hv5] at s5
            refine wpOp_unwanted rfl ?_ (hK _ _ (LKeep.refl _ _ _) rfl)
            refine wanted_no (j := 5) (d := 44) ?_ ?_ s5 <;> rfl
          | 12, hi, hm =>
            have l5 := haft _ rfl { on := 5, ground := .guard } (by simp) rfl
            have hv5 : vs 5 = .bool false := hpv 5 l5
            have s5 : a.tmps[44]?.getD undef = vs 5 := hU.slot 5 (by decide) l5
            rw [hv5] at s5
            refine wpOp_unwanted rfl ?_ (hK _ _ (LKeep.refl _ _ _) rfl)
            refine wanted_no (j := 5) (d := 44) ?_ ?_ s5 <;> rfl
          | 13, hi, hm =>
            have l5 := haft _ rfl { on := 5, ground := .data } (by simp) rfl
            have hv5 : vs 5 = .bool false := hpv 5 l5
            have s5 : a.tmps[44]?.getD undef = vs 5 := hU.slot 5 (by decide) l5
            rw [hv5] at s5
            have l12 := haft _ rfl { on := 12, ground := .data } (by simp) rfl
            have hv12 : vs 12 = undef := hpv 12 l12
            have s12 : a.tmps[51]?.getD undef = vs 12 := hU.slot 12 (by decide) l12
            rw [hv12] at s12
            refine wpOp_value (v := .bool false) (W' := W) rfl rfl ?_ (hK _ _ (LKeep.refl _ _ _) rfl)
            go_simp
          | i + 14, hi, hm => exact absurd (of_decide_eq_true hm) (by omega)
        case hend =>
          intro listed vs a W hG hk0 hpv hpre
          have hkk := (LKeep.drew (fun k => k = bm) (M := fun W => Known W bm (paidV f)) w5 (fun h => h)).trans hk0
          have hk := hkk.1
          have hkm := hkk.2
          clear hkk
          have hact := hG.act
          have hT := hG.lst hpre 0 #[true, true, true, true, true, true, true, true, true, true, true, true, true, true] rfl (by kernel_rfl) (hpre 0 (by decide) (by decide))
          rw [hG.ix hT (l := [0, 1, 2, 3, 4, 5, 6, 7, 8, 9, 10, 11, 12, 13]) (by kernel_rfl)] at hact
          rw [hG.lo hT (k := 0) (by kernel_rfl)]
          have hv0 : vs 0 = .pointer (some ⟨b, 0, none⟩) := hpv 0 (hpre 0 (by decide) (by decide))
          have hv1 : vs 1 = .agg #[.int .i64 (nth x 0), .int .i64 (nth x 1), .int .i64 (nth x 2), .int .i64 (nth x 3)] := hpv 1 (hpre 1 (by decide) (by decide))
          have hv2 : vs 2 = .int .i64 (k : Nat) := hpv 2 (hpre 2 (by decide) (by decide))
          have hv3 : vs 3 = .bool true := hpv 3 (hpre 3 (by decide) (by decide))
          have hv4 : vs 4 = .bool false := hpv 4 (hpre 4 (by decide) (by decide))
          have hv5 : vs 5 = .bool false := hpv 5 (hpre 5 (by decide) (by decide))
          have hv6 : vs 6 = undef := hpv 6 (hpre 6 (by decide) (by decide))
          have hv7 : vs 7 = undef := hpv 7 (hpre 7 (by decide) (by decide))
          have hv8 : vs 8 = undef := hpv 8 (hpre 8 (by decide) (by decide))
          have hv9 : vs 9 = undef := hpv 9 (hpre 9 (by decide) (by decide))
          have hv10 : vs 10 = undef := hpv 10 (hpre 10 (by decide) (by decide))
          have hv11 : vs 11 = undef := hpv 11 (hpre 11 (by decide) (by decide))
          have hv12 : vs 12 = undef := hpv 12 (hpre 12 (by decide) (by decide))
          have hv13 : vs 13 = .bool false := hpv 13 (hpre 13 (by decide) (by decide))
          clear hpv hpre hG hk0
          obtain rfl : a = _ := hact
          subst hT
          simp only [setAll, List.setIfInBounds_toArray, List.set_cons_succ, List.set_cons_zero, List.getD_cons_succ, List.getD_cons_zero]
          simp only [hv0, hv1, hv2, hv3, hv4, hv5, hv6, hv7, hv8, hv9, hv10, hv11, hv12, hv13]
          clear hv0 hv1 hv2 hv3 hv4 hv5 hv6 hv7 hv8 hv9 hv10 hv11 hv12 hv13
          refine wpAny_done (by kernel_rfl) ?_ _
          have hn := HLW.out.keep hk (fun k h => .inl h) (hkm HLW.out.k)
          have HKK := hide (HK5.out.trans hk)
          have HN := hide hn
          have j1 := HI1.out.keep hk (by omega)
          have j2 := HI2.out.keep hk (by omega)
          have j3 := HI3.out.keep hk (by omega)
          have j4 := HI4.out.keep hk (by omega)
          have j5 := HI5.out.keep hk (by omega)
          have J := hide (And.intro j1 (And.intro j2 (And.intro j3 (And.intro j4 j5))))
          clear hk hkm hn j1 j2 j3 j4 j5
          gi_wp2_with fail
          exact ⟨HKK.out.mono (fun k _ h => .inl h), HN.out.k, J.out.1, J.out.2.1, J.out.2.2.1, J.out.2.2.2.1, by rw [HUM.out (by rw [HPB.out]; rfl)]; exact J.out.2.2.2.2⟩
      | false =>
        have HPB := hide hpb
        clear hpb
        cases hdd : decide (day ≤ nth f.untils q) with
        | true =>
          have HDD := hide hdd
          have hdd' : day ≤ nth f.untils q := of_decide_eq_true hdd
          refine wpIn_round_rel (dst := fun i => [39, 40, 41, 42, 43, 44, 45, 46, 47, 48, 49, 50, 51, 52].getD i 0) (mono := fun i => decide (i < 14)) (pre := fun i => decide (i < 14)) (R := LKeep (fun k => k = bm) (fun W => Known W bm (paidV f)))
            (Pv := fun i v W => match i with
              | 0 => v = .pointer (some ⟨b, 0, none⟩)
              | 1 => v = .agg #[.int .i64 (nth x 0), .int .i64 (nth x 1), .int .i64 (nth x 2), .int .i64 (nth x 3)]
              | 2 => v = .int .i64 (k : Nat)
              | 3 => v = .bool false
              | 4 => v = .bool true
              | 5 => v = .bool true
              | 6 => v = .int .i64 day
              | 7 => v = .pointer (some ⟨w.heap.size, 1, none⟩)
              | 8 => v = .slice (some ⟨bu, ou, none⟩) f.untils.length fa.c2
              | 9 => v = .int .i64 (q : Nat)
              | 10 => v = .pointer (some ⟨bu, ou + q, none⟩)
              | 11 => v = .int .i64 (nth f.untils q)
              | 12 => v = .bool true
              | 13 => v = .bool true
              | _ => True) (by kernel_rfl) (by kernel_rfl) (by rintro ⟨a, w, h⟩; exact h) (by kernel_rfl) (LKeep.refl _ _) (fun _ _ _ h h' => h.trans h') ?hst ?hstep ?hend
          case hst =>
            intro i v W W' h hk
            match i, h with
            | 0, h => exact h
            | 1, h => exact h
            | 2, h => exact h
            | 3, h => exact h
            | 4, h => exact h
            | 5, h => exact h
            | 6, h => exact h
            | 7, h => exact h
            | 8, h => exact h
            | 9, h => exact h
            | 10, h => exact h
            | 11, h => exact h
            | 12, h => exact h
            | 13, h => exact h
            | i + 14, h => exact trivial
          case hstep =>
            intro i hi hm listed vs a W hU hk0 hpv haft K hK
            have hkk := (LKeep.drew (fun k => k = bm) (M := fun W => Known W bm (paidV f)) w5 (fun h => h)).trans hk0
            have hk := hkk.1
            have hkm := hkk.2
            clear hkk
            match i, hi, hm with
            | 0, hi, hm =>
              have z10 : a.tmps[10]?.getD undef = .pointer (some ⟨w1.heap.size, 0, none⟩) := hU.same 10 (by decide)
              have y0 := (hk.cell (b := w1.heap.size) (o := 0) (by omega) (by omega)).trans (r1)
              refine wpOp_value (v := .pointer (some ⟨b, 0, none⟩)) (W' := W) rfl rfl ?_ (hK _ _ (LKeep.refl _ _ _) rfl)
              go_simp
            | 1, hi, hm =>
              have z12 : a.tmps[12]?.getD undef = .pointer (some ⟨g, 0, none⟩) := hU.same 12 (by decide)
              have y0 := (hk.cell (b := g) (o := 0) (hgz) (by omega)).trans (x0)
              have y1 := (hk.cell (b := g) (o := 1) (hgz) (by omega)).trans (x1)
              have y2 := (hk.cell (b := g) (o := 2) (hgz) (by omega)).trans (x2)
              have y3 := (hk.cell (b := g) (o := 3) (hgz) (by omega)).trans (x3)
              refine wpOp_value (v := .agg #[.int .i64 (nth x 0), .int .i64 (nth x 1), .int .i64 (nth x 2), .int .i64 (nth x 3)]) (W' := W) rfl rfl ?_ (hK _ _ (LKeep.refl _ _ _) rfl)
              go_simp
            | 2, hi, hm =>
              have z4 : a.tmps[4]?.getD undef = .pointer (some ⟨w.heap.size + 1, 0, none⟩) := hU.same 4 (by decide)
              have y0 := (hk.cell (b := w.heap.size + 1) (o := 0) (by omega) (by omega)).trans (rl)
              refine wpOp_value (v := .int .i64 (k : Nat)) (W' := W) rfl rfl ?_ (hK _ _ (LKeep.refl _ _ _) rfl)
              go_simp
            | 3, hi, hm =>
              have l0 := haft _ rfl { on := 0, ground := .data } (by simp) rfl
              have hv0 : vs 0 = .pointer (some ⟨b, 0, none⟩) := hpv 0 l0
              have s0 : a.tmps[39]?.getD undef = vs 0 := hU.slot 0 (by decide) l0
              rw [hv0] at s0
              have l1 := haft _ rfl { on := 1, ground := .data } (by simp) rfl
              have hv1 : vs 1 = .agg #[.int .i64 (nth x 0), .int .i64 (nth x 1), .int .i64 (nth x 2), .int .i64 (nth x 3)] := hpv 1 l1
              have s1 : a.tmps[40]?.getD undef = vs 1 := hU.slot 1 (by decide) l1
              rw [hv1] at s1
              have l2 := haft _ rfl { on := 2, ground := .data } (by simp) rfl
              have hv2 : vs 2 = .int .i64 (k : Nat) := hpv 2 l2
              have s2 : a.tmps[41]?.getD undef = vs 2 := hU.slot 2 (by decide) l2
              rw [hv2] at s2
              refine wpOp_enter (f := 60) (args := #[.pointer (some ⟨b, 0, none⟩), .agg #[.int .i64 (nth x 0), .int .i64 (nth x 1), .int .i64 (nth x 2), .int .i64 (nth x 3)], .int .i64 (k : Nat)]) (W' := W) rfl rfl ?_ (((pays_any2 (HLW.out.keep hk (fun k h => .inl h) (hkm HLW.out.k)) HV.out hx (k : Int)).mono (fun e w h => by rw [HPB.out] at h; exact h)).mono (fun e w'' h => ?_))
              · go_simp
              · obtain ⟨he, hkw, hn⟩ := h
                exact ⟨_, he, hK _ _ (⟨hkw, fun _ => hn⟩) rfl⟩
            | 4, hi, hm =>
              have l3 := haft _ rfl { on := 3, ground := .data } (by simp) rfl
              have hv3 : vs 3 = .bool false := hpv 3 l3
              have s3 : a.tmps[42]?.getD undef = vs 3 := hU.slot 3 (by decide) l3
              rw [hv3] at s3
              refine wpOp_value (v := .bool true) (W' := W) rfl rfl ?_ (hK _ _ (LKeep.refl _ _ _) rfl)
              go_simp
            | 5, hi, hm =>
              have l4 := haft _ rfl { on := 4, ground := .data } (by simp) rfl
              have hv4 : vs 4 = .bool true := hpv 4 l4
              have s4 : a.tmps[43]?.getD undef = vs 4 := hU.slot 4 (by decide) l4
              rw [hv4] at s4
              refine wpOp_value (v := .bool true) (W' := W) rfl rfl ?_ (hK _ _ (LKeep.refl _ _ _) rfl)
              go_simp
            | 6, hi, hm =>
              have l5 := haft _ rfl { on := 5, ground := .guard } (by simp) rfl
              have hv5 : vs 5 = .bool true := hpv 5 l5
              have s5 : a.tmps[44]?.getD undef = vs 5 := hU.slot 5 (by decide) l5
              rw [hv5] at s5
              have z5 : a.tmps[5]?.getD undef = .pointer (some ⟨w.heap.size + 1 + 1, 0, none⟩) := hU.same 5 (by decide)
              have y0 := (hk.cell (b := w.heap.size + 1 + 1) (o := 0) (by omega) (by omega)).trans (rd)
              refine wpOp_wanted (v := .int .i64 day) (W' := W) rfl ?_ ?_ (hK _ _ (LKeep.refl _ _ _) rfl)
              · refine wanted_yes (j := 5) (d := 44) ?_ ?_ s5 <;> rfl
              go_simp
            | 7, hi, hm =>
              have l5 := haft _ rfl { on := 5, ground := .guard } (by simp) rfl
              have hv5 : vs 5 = .bool true := hpv 5 l5
              have s5 : a.tmps[44]?.getD undef = vs 5 := hU.slot 5 (by decide) l5
              rw [hv5] at s5
              have z3 : a.tmps[3]?.getD undef = .pointer (some ⟨w.heap.size, 0, none⟩) := hU.same 3 (by decide)
              refine wpOp_wanted (v := .pointer (some ⟨w.heap.size, 1, none⟩)) (W' := W) rfl ?_ ?_ (hK _ _ (LKeep.refl _ _ _) rfl)
              · refine wanted_yes (j := 5) (d := 44) ?_ ?_ s5 <;> rfl
              go_simp
            | 8, hi, hm =>
              have l5 := haft _ rfl { on := 5, ground := .guard } (by simp) rfl
              have hv5 : vs 5 = .bool true := hpv 5 l5
              have s5 : a.tmps[44]?.getD undef = vs 5 := hU.slot 5 (by decide) l5
              rw [hv5] at s5
              have l7 := haft _ rfl { on := 7, ground := .data } (by simp) rfl
              have hv7 : vs 7 = .pointer (some ⟨w.heap.size, 1, none⟩) := hpv 7 l7
              have s7 : a.tmps[46]?.getD undef = vs 7 := hU.slot 7 (by decide) l7
              rw [hv7] at s7
              have y0 := (hk.cell (b := w.heap.size) (o := 1) (by omega) (by omega)).trans (ru)
              refine wpOp_wanted (v := .slice (some ⟨bu, ou, none⟩) f.untils.length fa.c2) (W' := W) rfl ?_ ?_ (hK _ _ (LKeep.refl _ _ _) rfl)
              · refine wanted_yes (j := 5) (d := 44) ?_ ?_ s5 <;> rfl
              go_simp
            | 9, hi, hm =>
              have l5 := haft _ rfl { on := 5, ground := .guard } (by simp) rfl
              have hv5 : vs 5 = .bool true := hpv 5 l5
              have s5 : a.tmps[44]?.getD undef = vs 5 := hU.slot 5 (by decide) l5
              rw [hv5] at s5
              have z13 : a.tmps[13]?.getD undef = .int .i64 (q : Nat) := hU.same 13 (by decide)
              refine wpOp_wanted (v := .int .i64 (q : Nat)) (W' := W) rfl ?_ ?_ (hK _ _ (LKeep.refl _ _ _) rfl)
              · refine wanted_yes (j := 5) (d := 44) ?_ ?_ s5 <;> rfl
              go_simp
            | 10, hi, hm =>
              have l5 := haft _ rfl { on := 5, ground := .guard } (by simp) rfl
              have hv5 : vs 5 = .bool true := hpv 5 l5
              have s5 : a.tmps[44]?.getD undef = vs 5 := hU.slot 5 (by decide) l5
              rw [hv5] at s5
              have l8 := haft _ rfl { on := 8, ground := .data } (by simp) rfl
              have hv8 : vs 8 = .slice (some ⟨bu, ou, none⟩) f.untils.length fa.c2 := hpv 8 l8
              have s8 : a.tmps[47]?.getD undef = vs 8 := hU.slot 8 (by decide) l8
              rw [hv8] at s8
              have l9 := haft _ rfl { on := 9, ground := .data } (by simp) rfl
              have hv9 : vs 9 = .int .i64 (q : Nat) := hpv 9 l9
              have s9 : a.tmps[48]?.getD undef = vs 9 := hU.slot 9 (by decide) l9
              rw [hv9] at s9
              refine wpOp_wanted (v := .pointer (some ⟨bu, ou + q, none⟩)) (W' := W) rfl ?_ ?_ (hK _ _ (LKeep.refl _ _ _) rfl)
              · refine wanted_yes (j := 5) (d := 44) ?_ ?_ s5 <;> rfl
              go_simp
            | 11, hi, hm =>
              have l5 := haft _ rfl { on := 5, ground := .guard } (by simp) rfl
              have hv5 : vs 5 = .bool true := hpv 5 l5
              have s5 : a.tmps[44]?.getD undef = vs 5 := hU.slot 5 (by decide) l5
              rw [hv5] at s5
              have l10 := haft _ rfl { on := 10, ground := .data } (by simp) rfl
              have hv10 : vs 10 = .pointer (some ⟨bu, ou + q, none⟩) := hpv 10 l10
              have s10 : a.tmps[49]?.getD undef = vs 10 := hU.slot 10 (by decide) l10
              rw [hv10] at s10
              have y0 := (hk.cell (b := bu) (o := ou + q) (by omega) (by omega)).trans (gu)
              refine wpOp_wanted (v := .int .i64 (nth f.untils q)) (W' := W) rfl ?_ ?_ (hK _ _ (LKeep.refl _ _ _) rfl)
              · refine wanted_yes (j := 5) (d := 44) ?_ ?_ s5 <;> rfl
              go_simp
            | 12, hi, hm =>
              have l5 := haft _ rfl { on := 5, ground := .guard } (by simp) rfl
              have hv5 : vs 5 = .bool true := hpv 5 l5
              have s5 : a.tmps[44]?.getD undef = vs 5 := hU.slot 5 (by decide) l5
              rw [hv5] at s5
              have l6 := haft _ rfl { on := 6, ground := .data } (by simp) rfl
              have hv6 : vs 6 = .int .i64 day := hpv 6 l6
              have s6 : a.tmps[45]?.getD undef = vs 6 := hU.slot 6 (by decide) l6
              rw [hv6] at s6
              have l11 := haft _ rfl { on := 11, ground := .data } (by simp) rfl
              have hv11 : vs 11 = .int .i64 (nth f.untils q) := hpv 11 l11
              have s11 : a.tmps[50]?.getD undef = vs 11 := hU.slot 11 (by decide) l11
              rw [hv11] at s11
              refine wpOp_wanted (v := .bool true) (W' := W) rfl ?_ ?_ (hK _ _ (LKeep.refl _ _ _) rfl)
              · refine wanted_yes (j := 5) (d := 44) ?_ ?_ s5 <;> rfl
              go_simp
            | 13, hi, hm =>
              have l5 := haft _ rfl { on := 5, ground := .data } (by simp) rfl
              have hv5 : vs 5 = .bool true := hpv 5 l5
              have s5 : a.tmps[44]?.getD undef = vs 5 := hU.slot 5 (by decide) l5
              rw [hv5] at s5
              have l12 := haft _ rfl { on := 12, ground := .data } (by simp) rfl
              have hv12 : vs 12 = .bool true := hpv 12 l12
              have s12 : a.tmps[51]?.getD undef = vs 12 := hU.slot 12 (by decide) l12
              rw [hv12] at s12
              refine wpOp_value (v := .bool true) (W' := W) rfl rfl ?_ (hK _ _ (LKeep.refl _ _ _) rfl)
              go_simp
            | i + 14, hi, hm => exact absurd (of_decide_eq_true hm) (by omega)
          case hend =>
            intro listed vs a W hG hk0 hpv hpre
            have hkk := (LKeep.drew (fun k => k = bm) (M := fun W => Known W bm (paidV f)) w5 (fun h => h)).trans hk0
            have hk := hkk.1
            have hkm := hkk.2
            clear hkk
            have hact := hG.act
            have hT := hG.lst hpre 0 #[true, true, true, true, true, true, true, true, true, true, true, true, true, true] rfl (by kernel_rfl) (hpre 0 (by decide) (by decide))
            rw [hG.ix hT (l := [0, 1, 2, 3, 4, 5, 6, 7, 8, 9, 10, 11, 12, 13]) (by kernel_rfl)] at hact
            rw [hG.lo hT (k := 0) (by kernel_rfl)]
            have hv0 : vs 0 = .pointer (some ⟨b, 0, none⟩) := hpv 0 (hpre 0 (by decide) (by decide))
            have hv1 : vs 1 = .agg #[.int .i64 (nth x 0), .int .i64 (nth x 1), .int .i64 (nth x 2), .int .i64 (nth x 3)] := hpv 1 (hpre 1 (by decide) (by decide))
            have hv2 : vs 2 = .int .i64 (k : Nat) := hpv 2 (hpre 2 (by decide) (by decide))
            have hv3 : vs 3 = .bool false := hpv 3 (hpre 3 (by decide) (by decide))
            have hv4 : vs 4 = .bool true := hpv 4 (hpre 4 (by decide) (by decide))
            have hv5 : vs 5 = .bool true := hpv 5 (hpre 5 (by decide) (by decide))
            have hv6 : vs 6 = .int .i64 day := hpv 6 (hpre 6 (by decide) (by decide))
            have hv7 : vs 7 = .pointer (some ⟨w.heap.size, 1, none⟩) := hpv 7 (hpre 7 (by decide) (by decide))
            have hv8 : vs 8 = .slice (some ⟨bu, ou, none⟩) f.untils.length fa.c2 := hpv 8 (hpre 8 (by decide) (by decide))
            have hv9 : vs 9 = .int .i64 (q : Nat) := hpv 9 (hpre 9 (by decide) (by decide))
            have hv10 : vs 10 = .pointer (some ⟨bu, ou + q, none⟩) := hpv 10 (hpre 10 (by decide) (by decide))
            have hv11 : vs 11 = .int .i64 (nth f.untils q) := hpv 11 (hpre 11 (by decide) (by decide))
            have hv12 : vs 12 = .bool true := hpv 12 (hpre 12 (by decide) (by decide))
            have hv13 : vs 13 = .bool true := hpv 13 (hpre 13 (by decide) (by decide))
            clear hpv hpre hG hk0
            obtain rfl : a = _ := hact
            subst hT
            simp only [setAll, List.setIfInBounds_toArray, List.set_cons_succ, List.set_cons_zero, List.getD_cons_succ, List.getD_cons_zero]
            simp only [hv0, hv1, hv2, hv3, hv4, hv5, hv6, hv7, hv8, hv9, hv10, hv11, hv12, hv13]
            clear hv0 hv1 hv2 hv3 hv4 hv5 hv6 hv7 hv8 hv9 hv10 hv11 hv12 hv13
            refine wpAny_done (by kernel_rfl) ?_ _
            have hn := HLW.out.keep hk (fun k h => .inl h) (hkm HLW.out.k)
            have HKK := hide (HK5.out.trans hk)
            have HN := hide hn
            have hzk := hk.size
            have k_o := (hk.cell (b := w1.heap.size + 1) (o := q) (by omega) (by omega)).trans ro
            have j1 := HI1.out.keep hk (by omega)
            have j2 := HI2.out.keep hk (by omega)
            have j3 := HI3.out.keep hk (by omega)
            have j4 := HI4.out.keep hk (by omega)
            have j5 := HI5.out.keep hk (by omega)
            have k_f := j5.free q
            have J := hide (And.intro j1 (And.intro j2 (And.intro j3 (And.intro j4 j5))))
            clear hk hkm hn j1 j2 j3 j4 j5 ro fo r1 rl rd ru gu x0 x1 x2 x3
            gi_wp2_with fail
            obtain ⟨hu1, hu2⟩ := HUT.out HPB.out HDD.out
            have hks := Keep.setCell W ⟨w1.heap.size + 1, q, none⟩ (.int .i64 (wrap64 (oq + 1))) (fun k => k = w1.heap.size + 1) rfl
            have c5 := J.out.2.2.2.2.store q (.int .i64 (wrap64 (oq + 1)))
            rw [← hu1, oftA_set hq4n hu2] at c5
            rw [hu1] at c5
            exact ⟨(HKK.out.mono (fun k _ h => .inl h)).trans (hks.mono (fun k _ h => .inr h)), HN.out.k.keep hks (by omega), J.out.1.keep hks (by omega), J.out.2.1.keep hks (by omega), J.out.2.2.1.keep hks (by omega), J.out.2.2.2.1.keep hks (by omega), c5⟩
        | false =>
          have HDD := hide hdd
          have hdd' : ¬ day ≤ nth f.untils q := of_decide_eq_false hdd
          refine wpIn_round_rel (dst := fun i => [39, 40, 41, 42, 43, 44, 45, 46, 47, 48, 49, 50, 51, 52].getD i 0) (mono := fun i => decide (i < 14)) (pre := fun i => decide (i < 14)) (R := LKeep (fun k => k = bm) (fun W => Known W bm (paidV f)))
            (Pv := fun i v W => match i with
              | 0 => v = .pointer (some ⟨b, 0, none⟩)
              | 1 => v = .agg #[.int .i64 (nth x 0), .int .i64 (nth x 1), .int .i64 (nth x 2), .int .i64 (nth x 3)]
              | 2 => v = .int .i64 (k : Nat)
              | 3 => v = .bool false
              | 4 => v = .bool true
              | 5 => v = .bool true
              | 6 => v = .int .i64 day
              | 7 => v = .pointer (some ⟨w.heap.size, 1, none⟩)
              | 8 => v = .slice (some ⟨bu, ou, none⟩) f.untils.length fa.c2
              | 9 => v = .int .i64 (q : Nat)
              | 10 => v = .pointer (some ⟨bu, ou + q, none⟩)
              | 11 => v = .int .i64 (nth f.untils q)
              | 12 => v = .bool false
              | 13 => v = .bool false
              | _ => True) (by kernel_rfl) (by kernel_rfl) (by rintro ⟨a, w, h⟩; exact h) (by kernel_rfl) (LKeep.refl _ _) (fun _ _ _ h h' => h.trans h') ?hst ?hstep ?hend
          case hst =>
            intro i v W W' h hk
            match i, h with
            | 0, h => exact h
            | 1, h => exact h
            | 2, h => exact h
            | 3, h => exact h
            | 4, h => exact h
            | 5, h => exact h
            | 6, h => exact h
            | 7, h => exact h
            | 8, h => exact h
            | 9, h => exact h
            | 10, h => exact h
            | 11, h => exact h
            | 12, h => exact h
            | 13, h => exact h
            | i + 14, h => exact trivial
          case hstep =>
            intro i hi hm listed vs a W hU hk0 hpv haft K hK
            have hkk := (LKeep.drew (fun k => k = bm) (M := fun W => Known W bm (paidV f)) w5 (fun h => h)).trans hk0
            have hk := hkk.1
            have hkm := hkk.2
            clear hkk
            match i, hi, hm with
            | 0, hi, hm =>
              have z10 : a.tmps[10]?.getD undef = .pointer (some ⟨w1.heap.size, 0, none⟩) := hU.same 10 (by decide)
              have y0 := (hk.cell (b := w1.heap.size) (o := 0) (by omega) (by omega)).trans (r1)
              refine wpOp_value (v := .pointer (some ⟨b, 0, none⟩)) (W' := W) rfl rfl ?_ (hK _ _ (LKeep.refl _ _ _) rfl)
              go_simp
            | 1, hi, hm =>
              have z12 : a.tmps[12]?.getD undef = .pointer (some ⟨g, 0, none⟩) := hU.same 12 (by decide)
              have y0 := (hk.cell (b := g) (o := 0) (hgz) (by omega)).trans (x0)
              have y1 := (hk.cell (b := g) (o := 1) (hgz) (by omega)).trans (x1)
              have y2 := (hk.cell (b := g) (o := 2) (hgz) (by omega)).trans (x2)
              have y3 := (hk.cell (b := g) (o := 3) (hgz) (by omega)).trans (x3)
              refine wpOp_value (v := .agg #[.int .i64 (nth x 0), .int .i64 (nth x 1), .int .i64 (nth x 2), .int .i64 (nth x 3)]) (W' := W) rfl rfl ?_ (hK _ _ (LKeep.refl _ _ _) rfl)
              go_simp
            | 2, hi, hm =>
              have z4 : a.tmps[4]?.getD undef = .pointer (some ⟨w.heap.size + 1, 0, none⟩) := hU.same 4 (by decide)
              have y0 := (hk.cell (b := w.heap.size + 1) (o := 0) (by omega) (by omega)).trans (rl)
              refine wpOp_value (v := .int .i64 (k : Nat)) (W' := W) rfl rfl ?_ (hK _ _ (LKeep.refl _ _ _) rfl)
              go_simp
            | 3, hi, hm =>
              have l0 := haft _ rfl { on := 0, ground := .data } (by simp) rfl
              have hv0 : vs 0 = .pointer (some ⟨b, 0, none⟩) := hpv 0 l0
              have s0 : a.tmps[39]?.getD undef = vs 0 := hU.slot 0 (by decide) l0
              rw [hv0] at s0
              have l1 := haft _ rfl { on := 1, ground := .data } (by simp) rfl
              have hv1 : vs 1 = .agg #[.int .i64 (nth x 0), .int .i64 (nth x 1), .int .i64 (nth x 2), .int .i64 (nth x 3)] := hpv 1 l1
              have s1 : a.tmps[40]?.getD undef = vs 1 := hU.slot 1 (by decide) l1
              rw [hv1] at s1
              have l2 := haft _ rfl { on := 2, ground := .data } (by simp) rfl
              have hv2 : vs 2 = .int .i64 (k : Nat) := hpv 2 l2
              have s2 : a.tmps[41]?.getD undef = vs 2 := hU.slot 2 (by decide) l2
              rw [hv2] at s2
              refine wpOp_enter (f := 60) (args := #[.pointer (some ⟨b, 0, none⟩), .agg #[.int .i64 (nth x 0), .int .i64 (nth x 1), .int .i64 (nth x 2), .int .i64 (nth x 3)], .int .i64 (k : Nat)]) (W' := W) rfl rfl ?_ (((pays_any2 (HLW.out.keep hk (fun k h => .inl h) (hkm HLW.out.k)) HV.out hx (k : Int)).mono (fun e w h => by rw [HPB.out] at h; exact h)).mono (fun e w'' h => ?_))
              · go_simp
              · obtain ⟨he, hkw, hn⟩ := h
                exact ⟨_, he, hK _ _ (⟨hkw, fun _ => hn⟩) rfl⟩
            | 4, hi, hm =>
              have l3 := haft _ rfl { on := 3, ground := .data } (by simp) rfl
              have hv3 : vs 3 = .bool false := hpv 3 l3
              have s3 : a.tmps[42]?.getD undef = vs 3 := hU.slot 3 (by decide) l3
              rw [hv3] at s3
              refine wpOp_value (v := .bool true) (W' := W) rfl rfl ?_ (hK _ _ (LKeep.refl _ _ _) rfl)
              go_simp
            | 5, hi, hm =>
              have l4 := haft _ rfl { on := 4, ground := .data } (by simp) rfl
              have hv4 : vs 4 = .bool true := hpv 4 l4
              have s4 : a.tmps[43]?.getD undef = vs 4 := hU.slot 4 (by decide) l4
              rw [hv4] at s4
              refine wpOp_value (v := .bool true) (W' := W) rfl rfl ?_ (hK _ _ (LKeep.refl _ _ _) rfl)
              go_simp
            | 6, hi, hm =>
              have l5 := haft _ rfl { on := 5, ground := .guard } (by simp) rfl
              have hv5 : vs 5 = .bool true := hpv 5 l5
              have s5 : a.tmps[44]?.getD undef = vs 5 := hU.slot 5 (by decide) l5
              rw [hv5] at s5
              have z5 : a.tmps[5]?.getD undef = .pointer (some ⟨w.heap.size + 1 + 1, 0, none⟩) := hU.same 5 (by decide)
              have y0 := (hk.cell (b := w.heap.size + 1 + 1) (o := 0) (by omega) (by omega)).trans (rd)
              refine wpOp_wanted (v := .int .i64 day) (W' := W) rfl ?_ ?_ (hK _ _ (LKeep.refl _ _ _) rfl)
              · refine wanted_yes (j := 5) (d := 44) ?_ ?_ s5 <;> rfl
              go_simp
            | 7, hi, hm =>
              have l5 := haft _ rfl { on := 5, ground := .guard } (by simp) rfl
              have hv5 : vs 5 = .bool true := hpv 5 l5
              have s5 : a.tmps[44]?.getD undef = vs 5 := hU.slot 5 (by decide) l5
              rw [hv5] at s5
              have z3 : a.tmps[3]?.getD undef = .pointer (some ⟨w.heap.size, 0, none⟩) := hU.same 3 (by decide)
              refine wpOp_wanted (v := .pointer (some ⟨w.heap.size, 1, none⟩)) (W' := W) rfl ?_ ?_ (hK _ _ (LKeep.refl _ _ _) rfl)
              · refine wanted_yes (j := 5) (d := 44) ?_ ?_ s5 <;> rfl
              go_simp
            | 8, hi, hm =>
              have l5 := haft _ rfl { on := 5, ground := .guard } (by simp) rfl
              have hv5 : vs 5 = .bool true := hpv 5 l5
              have s5 : a.tmps[44]?.getD undef = vs 5 := hU.slot 5 (by decide) l5
              rw [hv5] at s5
              have l7 := haft _ rfl { on := 7, ground := .data } (by simp) rfl
              have hv7 : vs 7 = .pointer (some ⟨w.heap.size, 1, none⟩) := hpv 7 l7
              have s7 : a.tmps[46]?.getD undef = vs 7 := hU.slot 7 (by decide) l7
              rw [hv7] at s7
              have y0 := (hk.cell (b := w.heap.size) (o := 1) (by omega) (by omega)).trans (ru)
              refine wpOp_wanted (v := .slice (some ⟨bu, ou, none⟩) f.untils.length fa.c2) (W' := W) rfl ?_ ?_ (hK _ _ (LKeep.refl _ _ _) rfl)
              · refine wanted_yes (j := 5) (d := 44) ?_ ?_ s5 <;> rfl
              go_simp
            | 9, hi, hm =>
              have l5 := haft _ rfl { on := 5, ground := .guard } (by simp) rfl
              have hv5 : vs 5 = .bool true := hpv 5 l5
              have s5 : a.tmps[44]?.getD undef = vs 5 := hU.slot 5 (by decide) l5
              rw [hv5] at s5
              have z13 : a.tmps[13]?.getD undef = .int .i64 (q : Nat) := hU.same 13 (by decide)
              refine wpOp_wanted (v := .int .i64 (q : Nat)) (W' := W) rfl ?_ ?_ (hK _ _ (LKeep.refl _ _ _) rfl)
              · refine wanted_yes (j := 5) (d := 44) ?_ ?_ s5 <;> rfl
              go_simp
            | 10, hi, hm =>
              have l5 := haft _ rfl { on := 5, ground := .guard } (by simp) rfl
              have hv5 : vs 5 = .bool true := hpv 5 l5
              have s5 : a.tmps[44]?.getD undef = vs 5 := hU.slot 5 (by decide) l5
              rw [hv5] at s5
              have l8 := haft _ rfl { on := 8, ground := .data } (by simp) rfl
              have hv8 : vs 8 = .slice (some ⟨bu, ou, none⟩) f.untils.length fa.c2 := hpv 8 l8
              have s8 : a.tmps[47]?.getD undef = vs 8 := hU.slot 8 (by decide) l8
              rw [hv8] at s8
              have l9 := haft _ rfl { on := 9, ground := .data } (by simp) rfl
              have hv9 : vs 9 = .int .i64 (q : Nat) := hpv 9 l9
              have s9 : a.tmps[48]?.getD undef = vs 9 := hU.slot 9 (by decide) l9
              rw [hv9] at s9
              refine wpOp_wanted (v := .pointer (some ⟨bu, ou + q, none⟩)) (W' := W) rfl ?_ ?_ (hK _ _ (LKeep.refl _ _ _) rfl)
              · refine wanted_yes (j := 5) (d := 44) ?_ ?_ s5 <;> rfl
              go_simp
            | 11, hi, hm =>
              have l5 := haft _ rfl { on := 5, ground := .guard } (by simp) rfl
              have hv5 : vs 5 = .bool true := hpv 5 l5
              have s5 : a.tmps[44]?.getD undef = vs 5 := hU.slot 5 (by decide) l5
              rw [hv5] at s5
              have l10 := haft _ rfl { on := 10, ground := .data } (by simp) rfl
              have hv10 : vs 10 = .pointer (some ⟨bu, ou + q, none⟩) := hpv 10 l10
              have s10 : a.tmps[49]?.getD undef = vs 10 := hU.slot 10 (by decide) l10
              rw [hv10] at s10
              have y0 := (hk.cell (b := bu) (o := ou + q) (by omega) (by omega)).trans (gu)
              refine wpOp_wanted (v := .int .i64 (nth f.untils q)) (W' := W) rfl ?_ ?_ (hK _ _ (LKeep.refl _ _ _) rfl)
              · refine wanted_yes (j := 5) (d := 44) ?_ ?_ s5 <;> rfl
              go_simp
            | 12, hi, hm =>
              have l5 := haft _ rfl { on := 5, ground := .guard } (by simp) rfl
              have hv5 : vs 5 = .bool true := hpv 5 l5
              have s5 : a.tmps[44]?.getD undef = vs 5 := hU.slot 5 (by decide) l5
              rw [hv5] at s5
              have l6 := haft _ rfl { on := 6, ground := .data } (by simp) rfl
              have hv6 : vs 6 = .int .i64 day := hpv 6 l6
              have s6 : a.tmps[45]?.getD undef = vs 6 := hU.slot 6 (by decide) l6
              rw [hv6] at s6
              have l11 := haft _ rfl { on := 11, ground := .data } (by simp) rfl
              have hv11 : vs 11 = .int .i64 (nth f.untils q) := hpv 11 l11
              have s11 : a.tmps[50]?.getD undef = vs 11 := hU.slot 11 (by decide) l11
              rw [hv11] at s11
              refine wpOp_wanted (v := .bool false) (W' := W) rfl ?_ ?_ (hK _ _ (LKeep.refl _ _ _) rfl)
              · refine wanted_yes (j := 5) (d := 44) ?_ ?_ s5 <;> rfl
              go_simp
            | 13, hi, hm =>
              have l5 := haft _ rfl { on := 5, ground := .data } (by simp) rfl
              have hv5 : vs 5 = .bool true := hpv 5 l5
              have s5 : a.tmps[44]?.getD undef = vs 5 := hU.slot 5 (by decide) l5
              rw [hv5] at s5
              have l12 := haft _ rfl { on := 12, ground := .data } (by simp) rfl
              have hv12 : vs 12 = .bool false := hpv 12 l12
              have s12 : a.tmps[51]?.getD undef = vs 12 := hU.slot 12 (by decide) l12
              rw [hv12] at s12
              refine wpOp_value (v := .bool false) (W' := W) rfl rfl ?_ (hK _ _ (LKeep.refl _ _ _) rfl)
              go_simp
            | i + 14, hi, hm => exact absurd (of_decide_eq_true hm) (by omega)
          case hend =>
            intro listed vs a W hG hk0 hpv hpre
            have hkk := (LKeep.drew (fun k => k = bm) (M := fun W => Known W bm (paidV f)) w5 (fun h => h)).trans hk0
            have hk := hkk.1
            have hkm := hkk.2
            clear hkk
            have hact := hG.act
            have hT := hG.lst hpre 0 #[true, true, true, true, true, true, true, true, true, true, true, true, true, true] rfl (by kernel_rfl) (hpre 0 (by decide) (by decide))
            rw [hG.ix hT (l := [0, 1, 2, 3, 4, 5, 6, 7, 8, 9, 10, 11, 12, 13]) (by kernel_rfl)] at hact
            rw [hG.lo hT (k := 0) (by kernel_rfl)]
            have hv0 : vs 0 = .pointer (some ⟨b, 0, none⟩) := hpv 0 (hpre 0 (by decide) (by decide))
            have hv1 : vs 1 = .agg #[.int .i64 (nth x 0), .int .i64 (nth x 1), .int .i64 (nth x 2), .int .i64 (nth x 3)] := hpv 1 (hpre 1 (by decide) (by decide))
            have hv2 : vs 2 = .int .i64 (k : Nat) := hpv 2 (hpre 2 (by decide) (by decide))
            have hv3 : vs 3 = .bool false := hpv 3 (hpre 3 (by decide) (by decide))
            have hv4 : vs 4 = .bool true := hpv 4 (hpre 4 (by decide) (by decide))
            have hv5 : vs 5 = .bool true := hpv 5 (hpre 5 (by decide) (by decide))
            have hv6 : vs 6 = .int .i64 day := hpv 6 (hpre 6 (by decide) (by decide))
            have hv7 : vs 7 = .pointer (some ⟨w.heap.size, 1, none⟩) := hpv 7 (hpre 7 (by decide) (by decide))
            have hv8 : vs 8 = .slice (some ⟨bu, ou, none⟩) f.untils.length fa.c2 := hpv 8 (hpre 8 (by decide) (by decide))
            have hv9 : vs 9 = .int .i64 (q : Nat) := hpv 9 (hpre 9 (by decide) (by decide))
            have hv10 : vs 10 = .pointer (some ⟨bu, ou + q, none⟩) := hpv 10 (hpre 10 (by decide) (by decide))
            have hv11 : vs 11 = .int .i64 (nth f.untils q) := hpv 11 (hpre 11 (by decide) (by decide))
            have hv12 : vs 12 = .bool false := hpv 12 (hpre 12 (by decide) (by decide))
            have hv13 : vs 13 = .bool false := hpv 13 (hpre 13 (by decide) (by decide))
            clear hpv hpre hG hk0
            obtain rfl : a = _ := hact
            subst hT
            simp only [setAll, List.setIfInBounds_toArray, List.set_cons_succ, List.set_cons_zero, List.getD_cons_succ, List.getD_cons_zero]
            simp only [hv0, hv1, hv2, hv3, hv4, hv5, hv6, hv7, hv8, hv9, hv10, hv11, hv12, hv13]
            clear hv0 hv1 hv2 hv3 hv4 hv5 hv6 hv7 hv8 hv9 hv10 hv11 hv12 hv13
            refine wpAny_done (by kernel_rfl) ?_ _
            have hn := HLW.out.keep hk (fun k h => .inl h) (hkm HLW.out.k)
            have HKK := hide (HK5.out.trans hk)
            have HN := hide hn
            have j1 := HI1.out.keep hk (by omega)
            have j2 := HI2.out.keep hk (by omega)
            have j3 := HI3.out.keep hk (by omega)
            have j4 := HI4.out.keep hk (by omega)
            have j5 := HI5.out.keep hk (by omega)
            have J := hide (And.intro j1 (And.intro j2 (And.intro j3 (And.intro j4 j5))))
            clear hk hkm hn j1 j2 j3 j4 j5
            gi_wp2_with fail
            exact ⟨HKK.out.mono (fun k _ h => .inl h), HN.out.k, J.out.1, J.out.2.1, J.out.2.2.1, J.out.2.2.2.1, by rw [HUM.out (by rw [HPB.out, HDD.out]; rfl)]; exact J.out.2.2.2.2⟩
    case done =>
      rintro D W' hD ⟨i1, i2, i3, i4, i5⟩ hLW hk hd
      have hms : MarksOk w.heap.size [{ target := .collected D, args := #[] }] W' := ⟨⟨D, by have := HB3.out.size; omega, rfl, hd, by simp⟩, trivial⟩
      have HMS := hide hms
      have HBW := hide (HB3.out.trans (hk.below (fun k h => by omega) HB3.out.size))
      rw [show oftI f k day (truthsB f 0) = (fun i => ((cntH f k day i (truthsB f 0) : Nat) : Int)) from funext (fun i => oftI_nat HV.out k day i)] at i5
      obtain ⟨c, hc⟩ : ∃ c : Nat → Int, (fun i => ((cntH f k day i (truthsB f 0) : Nat) : Int)) = c := ⟨_, rfl⟩
      rw [hc] at i5 HX
      have r0 := i5.at_ 0
      have r1 := i5.at_ 1
      have r2 := i5.at_ 2
      have r3 := i5.at_ 3
      simp only [oftA, List.getElem?_toArray, List.getElem?_cons_zero, List.getElem?_cons_succ] at r0 r1 r2 r3
      have hz5 := i5.lt
      clear i1 i2 i3 i4 i5 hLW hk hd hc hms n1 n2 n3 n4 n5
      go_wp2_with fail
      go_loopw [6, 7, 14, 15, 59] (fun v6 v7 _ _ v59 wr => ∃ m : Nat, m ≤ 4 ∧ v59 = .int .i64 m ∧ v6 = .int .i64 (bestI c m).1 ∧ v7 = .int .i64 (bestI c m).2 ∧ wr = W') (fun _ _ _ _ v59 _ => 4 - (intOf v59).toNat)
      case atStart => exact ⟨0, by omega, rfl, rfl, rfl, rfl⟩
      case round =>
        obtain ⟨m, hm, rfl, rfl, rfl, rfl⟩ := hrel
        have hm0 : (0 : Int) ≤ (m : Int) := Int.natCast_nonneg _
        by_cases hlt : m < 4
        · have hm1 : (m : Int) < 4 := by omega
          have hix : ∀ W, Sem.run Try.prog (Instr.index 85 (.agg #[.int .i64 (c 0), .int .i64 (c 1), .int .i64 (c 2), .int .i64 (c 3)]) (.int .i64 m)) W = .ok (.int .i64 (c m)) W := fun W => idx4 hlt
          have HS := hide (show bestI c (m + 1) = if (bestI c m).2 < c m then ((m : Int), c m) else bestI c m from rfl)
          generalize bestI c m = bs at *
          by_cases hgt : bs.2 < c m
          · rw [if_pos hgt] at HS
            go_wp2_with fail
            exact ⟨⟨m + 1, by omega, by go_num, by rw [HS.out], by rw [HS.out], trivial⟩, by simp [intOf]; omega⟩
          · rw [if_neg hgt] at HS
            go_wp2_with fail
            exact ⟨⟨m + 1, by omega, by go_num, by rw [HS.out], by rw [HS.out], trivial⟩, by simp [intOf]; omega⟩
        · obtain rfl : m = 4 := by omega
          cases hz : ((bestI c 4).2 == 0) with
          | true =>
            have hz0 : (bestI c 4).2 = 0 := by simpa using hz
            rw [if_pos hz0] at HX
            generalize bestI c 4 = bs at *
            go_wp2_with fail
            refine leaves_marks2 HMS.out (fun w' hkw' => ?_)
            refine ⟨.tuple #[.int .i64 0, .int .i64 0, .int .i64 9], by simp [results, Try.results57, go_sem], by rw [HX.out], ?_⟩
            exact HBW.out.trans (hkw'.below (fun k h => HMS.out.ge h) HBW.out.size)
          | false =>
            have hz0 : ¬ (bestI c 4).2 = 0 := by simpa using hz
            rw [if_neg hz0] at HX
            generalize bestI c 4 = bs at *
            go_wp2_with fail
            refine leaves_marks2 HMS.out (fun w' hkw' => ?_)
            refine ⟨.tuple #[.int .i64 bs.1, .int .i64 bs.2, .int .i64 0], by simp [results, Try.results57, go_sem], by rw [HX.out], ?_⟩
            exact HBW.out.trans (hkw'.below (fun k h => HMS.out.ge h) HBW.out.size)
  · have HX := hide (show nextV f lot day = ((0, 0), enterE f lot f.lots.length (otherE day)) by rw [nextV, if_neg hE])
    generalize hEE : enterE f lot f.lots.length (otherE day) = E at *
    have hnb : (E != 0) = true := by simpa using hE
    have HB1 := hide (HB0.out.trans (hB1.mono HB0.out.size))
    clear hEE hE hB1
    go_wp2_with fail
    have hbe := HB1.out.alloc (by have := HB1.out.size; omega) (.cells #[.pointer none] 79)
    generalize w1.alloc (.cells #[.pointer none] 79) = wz at *
    have hms : MarksOk 0 [] wz := trivial
    refine leaves_marks2 hms (fun w' hkw' => ?_)
    refine ⟨.tuple #[.int .i64 0, .int .i64 0, .int .i64 E], by simp [results, Try.results57, go_sem], by rw [HX.out], ?_⟩
    exact hbe.trans (hkw'.below (fun k h => by simp at h) hbe.size)
end Go.Proofs.Ytllmahcanipcpaa
/- The contract of claim's Wrong: the fewest papers that must be wrong. -/
namespace Go.Proofs.Ytllmahcanipcpaa
open Go.RowKit
attribute [local go_sem ↓] Go.wp_at_zero Go.wp_at_succ
attribute [local go_sem] Oper.semAt_some
def cmp1 (x y : Int) : Int := if x < y then -1 else if y < x then 1 else 0
set_option maxRecDepth 100000 in
theorem cmp_any (x y : Int) (w : World) : Calls Try.prog 81 #[.int .i64 x, .int .i64 y] w fun e w' => e = .returned (.int .i64 (cmp1 x y)) ∧ w = w' := by
  have hn : ∀ z : Int, Calls Try.prog 90 #[.int .i64 z] w fun e w' => e = .returned (.bool false) ∧ w = w' := fun z => by
    go_enter Try.func90, Try.ntmps90
    go_wp2_with fail
    go_ret
    exact ⟨ret_b (by simp), rfl⟩
  have HN := hide hn
  clear hn
  by_cases h1 : x < y
  · have HE := hide (show cmp1 x y = -1 by rw [cmp1, if_pos h1])
    go_enter Try.func81, Try.ntmps81
    go_wp2_with (go_at_call 90; refine (HN.out _).mono ?_; rintro e w' ⟨rfl, rfl⟩)
    go_ret
    exact ⟨by rw [HE.out]; rfl, rfl⟩
  · by_cases h2 : y < x
    · have HE := hide (show cmp1 x y = 1 by rw [cmp1, if_neg h1, if_pos h2])
      go_enter Try.func81, Try.ntmps81
      go_wp2_with (go_at_call 90; refine (HN.out _).mono ?_; rintro e w' ⟨rfl, rfl⟩)
      go_ret
      exact ⟨by rw [HE.out]; rfl, rfl⟩
    · have HE := hide (show cmp1 x y = 0 by rw [cmp1, if_neg h1, if_neg h2])
      go_enter Try.func81, Try.ntmps81
      go_wp2_with (go_at_call 90; refine (HN.out _).mono ?_; rintro e w' ⟨rfl, rfl⟩)
      go_ret
      exact ⟨by rw [HE.out]; rfl, rfl⟩

def cmpL : List Int → List Int → Int
  | [], [] => 0
  | [], _ :: _ => -1
  | _ :: _, [] => 1
  | x :: xs, y :: ys => if cmp1 x y ≠ 0 then cmp1 x y else cmpL xs ys
set_option maxHeartbeats 1600000 in
set_option maxRecDepth 100000 in
theorem compare_any {A B : Option Addr} {n m c1 c2 : Nat} {xs ys : List Int} {w : World} (hx : IntsS w w.heap.size A n c1 xs) (hy : IntsS w w.heap.size B m c2 ys) (hn : n ≤ 100) (hm : m ≤ 100) :
    Calls Try.prog 61 #[.slice A n c1, .slice B m c2] w fun e w' => e = .returned (.int .i64 (cmpL xs ys)) ∧ w = w' := by
  have HX := hide hx
  have HY := hide hy
  have hxl := hx.len
  have hyl := hy.len
  have HXL := hide hxl
  have HYL := hide hyl
  clear hx hy hxl hyl
  have HC := hide (fun x y => cmp_any x y w)
  go_enter Try.func61, Try.ntmps61
  go_wp2_with fail
  go_loopw [5, 6, 7, 8, 11] (fun _ _ _ _ i wr => ∃ k : Nat, k ≤ n ∧ k ≤ m ∧ i = .int .i64 k ∧ w = wr ∧ Hid (cmpL xs ys = cmpL (xs.drop k) (ys.drop k))) (fun _ _ _ _ i _ => n - (intOf i).toNat)
  case atStart => exact ⟨0, Nat.zero_le _, Nat.zero_le _, rfl, rfl, hide rfl⟩
  case round =>
    obtain ⟨k, hk, hkm, rfl, rfl, HE⟩ := hrel
    have hk0 : (0 : Int) ≤ (k : Int) := Int.natCast_nonneg _
    by_cases hlt : k < n
    · have hk1 : (k : Int) < (n : Int) := by omega
      obtain ⟨ba, oa, rfl, hba, h0⟩ := HX.out.row.ints hlt
      have e1 := drop_nth (l := xs) (j := k) (by rw [HXL.out]; exact hlt)
      by_cases hlm : k < m
      · have hk2 : (k : Int) < (m : Int) := by omega
        have hk3 : ¬ (k : Int) ≥ (m : Int) := by omega
        obtain ⟨bb, ob, rfl, hbb, h1⟩ := HY.out.row.ints hlm
        have e2 := drop_nth (l := ys) (j := k) (by rw [HYL.out]; exact hlm)
        have HE2 := hide (show cmpL xs ys = if cmp1 (nth xs k) (nth ys k) ≠ 0 then cmp1 (nth xs k) (nth ys k) else cmpL (xs.drop (k + 1)) (ys.drop (k + 1)) by rw [HE.out, e1, e2]; rfl)
        clear e1 e2 HE
        by_cases hz : cmp1 (nth xs k) (nth ys k) = 0
        · have HE3 := hide (show cmpL xs ys = cmpL (xs.drop (k + 1)) (ys.drop (k + 1)) by rw [HE2.out, if_neg (by simp [hz])])
          clear HE2
          go_wp2_with (go_at_call 81; refine (HC.out _ _).mono ?_; rintro e w' ⟨rfl, rfl⟩)
          go_roundw
          case rel => exact ⟨k + 1, by omega, by omega, by go_num, trivial, HE3⟩
          case measure => simp [intOf]; omega
        · have HE3 := hide (show cmpL xs ys = cmp1 (nth xs k) (nth ys k) by rw [HE2.out, if_pos hz])
          clear HE2
          have hz2 : (cmp1 (nth xs k) (nth ys k) == 0) = false := by simpa using hz
          go_wp2_with (go_at_call 81; refine (HC.out _ _).mono ?_; rintro e w' ⟨rfl, rfl⟩)
          go_ret
          exact ⟨by rw [HE3.out]; rfl, rfl⟩
      · obtain rfl : k = m := by omega
        have e2 : ys.drop k = [] := List.drop_eq_nil_of_le (by rw [HYL.out]; exact Nat.le_refl _)
        have HE2 := hide (show cmpL xs ys = 1 by rw [HE.out, e1, e2]; rfl)
        clear e1 HE
        have hk3 : (k : Int) ≥ (k : Int) := by omega
        go_wp2_with fail
        go_ret
        exact ⟨by rw [HE2.out]; rfl, rfl⟩
    · obtain rfl : k = n := by omega
      have e0 : cmpL xs ys = cmpL [] (ys.drop k) := by rw [HE.out, List.drop_eq_nil_of_le (by rw [HXL.out]; exact Nat.le_refl _)]
      by_cases hlm : k < m
      · have hk2 : (k : Int) < (m : Int) := by omega
        have HE2 := hide (show cmpL xs ys = -1 by rw [e0, drop_nth (by rw [HYL.out]; exact hlm)]; rfl)
        clear e0 HE
        go_wp2_with fail
        go_ret
        exact ⟨by rw [HE2.out]; rfl, rfl⟩
      · obtain rfl : k = m := by omega
        have HE2 := hide (show cmpL xs ys = 0 by rw [e0, List.drop_eq_nil_of_le (by rw [HYL.out]; exact Nat.le_refl _)]; rfl)
        clear e0 HE
        have hk2 : ¬ (k : Int) < (k : Int) := by omega
        go_wp2_with fail
        go_ret
        exact ⟨by rw [HE2.out]; rfl, rfl⟩
def worse (l b : List Nat) : Bool := decide (b.length < l.length) || (decide (l.length = b.length) && decide (cmpL (natInts l) (natInts b) > 0))
/-- The best of the first k sets. -/
def fwTo (many : Nat) (ans : Nat → Bool) : Nat → Option (List Nat)
  | 0 => none
  | k + 1 => match fwTo many ans k with
    | none => if ans k then some (listN k many) else none
    | some b => if worse (listN k many) b then some b else if ans k then some (listN k many) else some b
theorem fwTo_len {many : Nat} {ans : Nat → Bool} : ∀ {k : Nat} {b : List Nat}, fwTo many ans k = some b → b.length ≤ many
  | 0, b, h => by cases h
  | k + 1, b, h => by
    rw [fwTo] at h
    cases ho : fwTo many ans k with
    | none =>
      rw [ho] at h
      simp only at h
      split at h
      · cases h; exact listN_le _ _
      · cases h
    | some b' =>
      rw [ho] at h
      simp only at h
      split at h
      · cases h; exact fwTo_len ho
      · split at h
        · cases h; exact listN_le _ _
        · cases h; exact fwTo_len ho
def Best (B : Nat) (wr : World) (v4 v5 : Value) : Option (List Nat) → Prop
  | none => v4 = .slice none 0 0 ∧ v5 = .bool false
  | some b => v5 = .bool true ∧ ∃ A c, v4 = .slice A b.length c ∧ IntsS wr wr.heap.size A b.length c (natInts b) ∧ (∀ ad, A = some ad → B ≤ ad.block)
theorem Row.keepS {w w' : World} {S : Nat → Prop} {B m : Nat} {A : Option Addr} {f : Nat → Value} (h : Row w w.heap.size A m f) (hk : Keep S w w') (hA : ∀ ad, A = some ad → B ≤ ad.block) (hS : ∀ k, S k → k < B) : Row w' w'.heap.size A m f := fun hm => by
  obtain ⟨b, off, e, hb, hc⟩ := h hm
  have hB := hA _ e
  refine ⟨b, off, e, Nat.lt_of_lt_of_le hb hk.size, fun j hj => (hk.cell hb (fun h => ?_)).trans (hc j hj)⟩
  have := hS b h
  exact absurd hB (by show ¬ B ≤ b; omega)
theorem Best.keep {B : Nat} {w w' : World} {v4 v5 : Value} {o : Option (List Nat)} {S : Nat → Prop} (h : Best B w v4 v5 o) (hk : Keep S w w') (hS : ∀ k, S k → k < B) : Best B w' v4 v5 o := by
  match o, h with
  | none, h => exact h
  | some b, ⟨h1, A, c, h2, h3, h4⟩ => exact ⟨h1, A, c, h2, ⟨h3.len, h3.cap, h3.max, h3.row.keepS hk h4 hS⟩, h4⟩
theorem Best.new {B : Nat} {w : World} {A : Option Addr} {c : Nat} {b : List Nat} (h : IntsS w w.heap.size A b.length c (natInts b)) (hA : ∀ ad, A = some ad → B ≤ ad.block) : Best B w (.slice A b.length c) (.bool true) (some b) := ⟨rfl, A, c, rfl, h, hA⟩


def wrongV (f : File) : List Nat × Int := if (checkM f).2.2 ≠ 0 then ([], (checkM f).2.2) else ((fwTo f.papers.length (someB f) (2 ^ f.papers.length)).getD [], 0)
set_option maxHeartbeats 4000000 in
set_option maxRecDepth 100000 in
theorem wrong_any {w : World} {f : File} {fa : FA} (h : FileV w w.heap.size f fa) :
    Calls Try.prog 20 #[fileVal f fa] w fun e w' => ∃ A cp, e = .returned (.tuple #[.slice A (wrongV f).1.length cp, .int .i64 (wrongV f).2]) ∧ IntsS w' w'.heap.size A (wrongV f).1.length cp (natInts (wrongV f).1) ∧ Below w.heap.size w w' := by
  have hB0 : Below w.heap.size w (w.alloc (.cells (fileCells f fa) 28)) := (Below.refl _ _).alloc (Nat.le_refl _) _
  have q1 : Blk (w.alloc (.cells (fileCells f fa) 28)) w.heap.size 28 (fileCells f fa) := Blk.made
  have HC0 := hide (h.next hB0)
  have HQ1 := hide q1
  have HB0 := hide hB0
  have hm4 := h.m4
  unfold maxLen at hm4
  have HWV := hide (show wrongV f = if (checkM f).2.2 ≠ 0 then ([], (checkM f).2.2) else ((fwTo f.papers.length (someB f) (2 ^ f.papers.length)).getD [], 0) from rfl)
  have HVO := hide (fun h => valid_of (f := f) h)
  clear h hB0 q1
  go_enter Try.func20, Try.ntmps20
  go_wp2_with fail
  generalize (w.alloc (.cells (fileCells f fa) 28)) = w0 at *
  refine (check_any HC0.out).mono ?_
  rintro e w1' ⟨rfl, hb1'⟩
  have hz0 := HQ1.out.lt
  have hz1' := hb1'.size
  have HC := hide (HC0.out.next hb1')
  have HQ := hide (HQ1.out.next hb1')
  have HB1 := hide (HB0.out.trans (hb1'.mono (by omega)))
  generalize (checkM f).2.2 = E at *
  clear hb1' HC0 HQ1
  cases hce : (E != 0) with
  | true =>
    have HNE := hide (show E ≠ 0 by simpa using hce)
    go_wp2_with fail
    go_ret2
    have hR := HWV.out
    rw [if_pos HNE.out] at hR
    rw [hR]
    exact ⟨none, 0, rfl, IntsS.nil_, HB1.out⟩
  | false =>
    have hE : E = 0 := by simpa using hce
    have hv := HVO.out hE
    have hR := HWV.out
    rw [if_neg (by simp [hE])] at hR
    have HR := hide hR
    have hm := hv.papers
    have HV := hide hv
    clear hR hv HWV HVO hce
    subst hE
    obtain ⟨wb, rfl⟩ : ∃ wb : World, wb = w1' := ⟨_, rfl⟩
    have p3 := HQ.out.at_ 3
    simp only [fileCells, List.getElem?_toArray, List.getElem?_cons_zero, List.getElem?_cons_succ] at p3
    have hbz := HQ.out.lt
    have hN : wrap64 (2 ^ f.papers.length) = ((2 ^ f.papers.length : Nat) : Int) := by
      have h : ∀ m : Fin 6, wrap64 (2 ^ (m : Nat)) = ((2 ^ (m : Nat) : Nat) : Int) := of_decide_eq_true (by kernel_rfl)
      exact h ⟨f.papers.length, by omega⟩
    have hN16 : 2 ^ f.papers.length ≤ 32 := Nat.pow_le_pow_right (by omega) hm
    have hm0 : (0 : Int) ≤ (f.papers.length : Int) := Int.natCast_nonneg _
    go_wp2_with fail
    rw [hN]
    clear hN
    have HF := hide (show ∀ k, fwTo f.papers.length (someB f) (k + 1) = match fwTo f.papers.length (someB f) k with
      | none => if someB f k then some (listN k f.papers.length) else none
      | some b => if worse (listN k f.papers.length) b then some b else if someB f k then some (listN k f.papers.length) else some b from fun _ => rfl)
    have HF0 := hide (show fwTo f.papers.length (someB f) 0 = none from rfl)
    have HFL := hide (fun k b => fwTo_len (many := f.papers.length) (ans := someB f) (k := k) (b := b))
    generalize hNN : 2 ^ f.papers.length = N at *
    have HNN := hide hNN
    clear hNN
    generalize fwTo f.papers.length (someB f) = FW at *
    go_loopw [2, 4, 5, 6, 20] (fun v2 v4 _ _ i wr => ∃ k : Nat, k ≤ N ∧ i = .int .i64 k ∧ Best 0 wr v2 v4 (FW k) ∧ Below wb.heap.size wb wr) (fun _ _ _ _ i _ => N - (intOf i).toNat)
    case atStart => exact ⟨0, Nat.zero_le _, rfl, by rw [HF0.out]; exact ⟨rfl, rfl⟩, Below.refl _ _⟩
    case round =>
      obtain ⟨k, hk, rfl, hbest, hkeep⟩ := hrel
      have hk0 : (0 : Int) ≤ (k : Int) := Int.natCast_nonneg _
      by_cases hlt : k < N
      · have hk1 : (k : Int) < (N : Int) := by omega
        have hz := hkeep.size
        have HL := hide (list_any (set := k) (many := f.papers.length) (by omega) hm wr)
        have HC := hide (HC.out.next hkeep)
        have q := HQ.out.next hkeep
        have p0 := q.at_ 0
        have p1 := q.at_ 1
        have p2 := q.at_ 2
        have p3 := q.at_ 3
        have p4 := q.at_ 4
        simp only [fileCells, List.getElem?_toArray, List.getElem?_cons_zero, List.getElem?_cons_succ] at p0 p1 p2 p3 p4
        have hbz := q.lt
        have HS := hide (HF.out k)
        have HB := hide hbest
        have HKP := hide hkeep
        clear hbest hkeep q
        cases ho : FW k with
        | none =>
          have hb := HB.out
          rw [ho] at hb
          obtain ⟨rfl, rfl⟩ := hb
          have HS := hide (HS.out.trans (by rw [ho] : _ = if someB f k then some (listN k f.papers.length) else none))
          cases ha : someB f k with
          | true =>
            have HA := hide ha
            clear ha
            go_wp2_with (first | (go_at_call 51; refine HL.out.mono ?_; rintro e w1 ⟨g1, c1, rfl, hi1, hA1, hb1⟩; have hz1 := hb1.size; have hC1 := HC.out.next hb1; have hkb := Keep.of_below' hb1 (fun _ => False); have u0 := (hb1.cell (p := ⟨w.heap.size, 0, none⟩) hbz).trans p0; have u1 := (hb1.cell (p := ⟨w.heap.size, 1, none⟩) hbz).trans p1; have u2 := (hb1.cell (p := ⟨w.heap.size, 2, none⟩) hbz).trans p2; have u3 := (hb1.cell (p := ⟨w.heap.size, 3, none⟩) hbz).trans p3; have u4 := (hb1.cell (p := ⟨w.heap.size, 4, none⟩) hbz).trans p4; have hbz1 : w.heap.size < w1.heap.size := (by omega); clear p0 p1 p2 p3 p4) | (go_at_call 61; refine hcm.mono ?_; rintro e w' ⟨rfl, rfl⟩) | (go_at_call 62; refine (look_any (but := (k : Nat)) hC1 (paidV f)).mono ?_; rintro e w2 ⟨b', bm, rfl, hbb, hbm, hB3, hL3⟩) | (go_at_call 63; refine (some_any (but := k) hL3.lookG HV.out (by omega)).mono ?_; rintro e w3 ⟨rfl, hk3, hn3⟩; rw [HA.out]))
            have hb13 : Below w1.heap.size w1 w3 := hB3.trans (hk3.below (fun k h => by omega) hB3.size)
            have hk13 := Keep.of_below' hb13 (fun _ => False)
            go_roundw
            case rel =>
              refine ⟨k + 1, by omega, by go_num, ?_, HKP.out.trans ((hb1.trans (hb13.mono hz1)).mono hz)⟩
              rw [HS.out, HA.out, if_pos rfl]
              exact Best.new ⟨hi1.len, hi1.cap, hi1.max, (hi1.next hb13).row⟩ (fun _ _ => Nat.zero_le _)
            case measure => simp [intOf]; omega
          | false =>
            have HA := hide ha
            clear ha
            go_wp2_with (first | (go_at_call 51; refine HL.out.mono ?_; rintro e w1 ⟨g1, c1, rfl, hi1, hA1, hb1⟩; have hz1 := hb1.size; have hC1 := HC.out.next hb1; have hkb := Keep.of_below' hb1 (fun _ => False); have u0 := (hb1.cell (p := ⟨w.heap.size, 0, none⟩) hbz).trans p0; have u1 := (hb1.cell (p := ⟨w.heap.size, 1, none⟩) hbz).trans p1; have u2 := (hb1.cell (p := ⟨w.heap.size, 2, none⟩) hbz).trans p2; have u3 := (hb1.cell (p := ⟨w.heap.size, 3, none⟩) hbz).trans p3; have u4 := (hb1.cell (p := ⟨w.heap.size, 4, none⟩) hbz).trans p4; have hbz1 : w.heap.size < w1.heap.size := (by omega); clear p0 p1 p2 p3 p4) | (go_at_call 61; refine hcm.mono ?_; rintro e w' ⟨rfl, rfl⟩) | (go_at_call 62; refine (look_any (but := (k : Nat)) hC1 (paidV f)).mono ?_; rintro e w2 ⟨b', bm, rfl, hbb, hbm, hB3, hL3⟩) | (go_at_call 63; refine (some_any (but := k) hL3.lookG HV.out (by omega)).mono ?_; rintro e w3 ⟨rfl, hk3, hn3⟩; rw [HA.out]))
            have hb13 : Below w1.heap.size w1 w3 := hB3.trans (hk3.below (fun k h => by omega) hB3.size)
            have hk13 := Keep.of_below' hb13 (fun _ => False)
            go_roundw
            case rel =>
              refine ⟨k + 1, by omega, by go_num, ?_, HKP.out.trans ((hb1.trans (hb13.mono hz1)).mono hz)⟩
              rw [HS.out, HA.out, if_neg (by simp)]
              exact ⟨rfl, rfl⟩
            case measure => simp [intOf]; omega
        | some b =>
          have hb := HB.out
          rw [ho] at hb
          obtain ⟨rfl, A, c, rfl, hb2, hb3⟩ := hb
          have HS := hide (HS.out.trans (by rw [ho] : _ = if worse (listN k f.papers.length) b then some b else if someB f k then some (listN k f.papers.length) else some b))
          have HBB := hide (Best.new hb2 hb3)
          have HB2 := hide hb2
          clear hb2 hb3
          have hll := listN_le k f.papers.length
          have hbl := HFL.out k b ho
          by_cases hg : b.length < (listN k f.papers.length).length
          · have HW := hide (show worse (listN k f.papers.length) b = true by simp [worse, hg])
            have hg1 : (b.length : Int) < ((listN k f.papers.length).length : Int) := by omega
            go_wp2_with (first | (go_at_call 51; refine HL.out.mono ?_; rintro e w1 ⟨g1, c1, rfl, hi1, hA1, hb1⟩; have hz1 := hb1.size; have hC1 := HC.out.next hb1; have hkb := Keep.of_below' hb1 (fun _ => False); have u0 := (hb1.cell (p := ⟨w.heap.size, 0, none⟩) hbz).trans p0; have u1 := (hb1.cell (p := ⟨w.heap.size, 1, none⟩) hbz).trans p1; have u2 := (hb1.cell (p := ⟨w.heap.size, 2, none⟩) hbz).trans p2; have u3 := (hb1.cell (p := ⟨w.heap.size, 3, none⟩) hbz).trans p3; have u4 := (hb1.cell (p := ⟨w.heap.size, 4, none⟩) hbz).trans p4; have hbz1 : w.heap.size < w1.heap.size := (by omega); clear p0 p1 p2 p3 p4; have hcm := compare_any hi1 (HB2.out.next hb1) (by omega) (by omega)) | (go_at_call 61; refine hcm.mono ?_; rintro e w' ⟨rfl, rfl⟩) | (go_at_call 62; refine (look_any (but := (k : Nat)) hC1 (paidV f)).mono ?_; rintro e w2 ⟨b', bm, rfl, hbb, hbm, hB3, hL3⟩) | (go_at_call 63; refine (some_any (but := k) hL3.lookG HV.out (by omega)).mono ?_; rintro e w3 ⟨rfl, hk3, hn3⟩; rw [HA.out]))
            go_roundw
            case rel =>
              refine ⟨k + 1, by omega, by go_num, ?_, HKP.out.trans (hb1.mono hz)⟩
              rw [HS.out, HW.out, if_pos rfl]
              exact HBB.out.keep hkb (fun q hq => hq.elim)
            case measure => simp [intOf]; omega
          · have hg1 : ¬ (b.length : Int) < ((listN k f.papers.length).length : Int) := by omega
            by_cases hq : (listN k f.papers.length).length = b.length
            · have hq1 : (((listN k f.papers.length).length : Int) == (b.length : Int)) = true := by simp; omega
              by_cases hc : cmpL (natInts (listN k f.papers.length)) (natInts b) > 0
              · have HW := hide (show worse (listN k f.papers.length) b = true by simp [worse, hq, hc])
                have hc1 : 0 < cmpL (natInts (listN k f.papers.length)) (natInts b) := hc
                have HQ' := hide hq
                clear hq hg
                go_wp2_with (first | (go_at_call 51; refine HL.out.mono ?_; rintro e w1 ⟨g1, c1, rfl, hi1, hA1, hb1⟩; have hz1 := hb1.size; have hC1 := HC.out.next hb1; have hkb := Keep.of_below' hb1 (fun _ => False); have u0 := (hb1.cell (p := ⟨w.heap.size, 0, none⟩) hbz).trans p0; have u1 := (hb1.cell (p := ⟨w.heap.size, 1, none⟩) hbz).trans p1; have u2 := (hb1.cell (p := ⟨w.heap.size, 2, none⟩) hbz).trans p2; have u3 := (hb1.cell (p := ⟨w.heap.size, 3, none⟩) hbz).trans p3; have u4 := (hb1.cell (p := ⟨w.heap.size, 4, none⟩) hbz).trans p4; have hbz1 : w.heap.size < w1.heap.size := (by omega); clear p0 p1 p2 p3 p4; have hcm := compare_any hi1 (HB2.out.next hb1) (by omega) (by omega)) | (go_at_call 61; refine hcm.mono ?_; rintro e w' ⟨rfl, rfl⟩) | (go_at_call 62; refine (look_any (but := (k : Nat)) hC1 (paidV f)).mono ?_; rintro e w2 ⟨b', bm, rfl, hbb, hbm, hB3, hL3⟩) | (go_at_call 63; refine (some_any (but := k) hL3.lookG HV.out (by omega)).mono ?_; rintro e w3 ⟨rfl, hk3, hn3⟩; rw [HA.out]))
                go_roundw
                case rel =>
                  refine ⟨k + 1, by omega, by go_num, ?_, HKP.out.trans (hb1.mono hz)⟩
                  rw [HS.out, HW.out, if_pos rfl]
                  exact HBB.out.keep hkb (fun q hq => hq.elim)
                case measure => simp [intOf]; omega
              · have HW := hide (show worse (listN k f.papers.length) b = false by simp [worse, hg, hq]; omega)
                have hc1 : ¬ 0 < cmpL (natInts (listN k f.papers.length)) (natInts b) := hc
                have HQ' := hide hq
                clear hq hg
                cases ha : someB f k with
                | true =>
                  have HA := hide ha
                  clear ha
                  go_wp2_with (first | (go_at_call 51; refine HL.out.mono ?_; rintro e w1 ⟨g1, c1, rfl, hi1, hA1, hb1⟩; have hz1 := hb1.size; have hC1 := HC.out.next hb1; have hkb := Keep.of_below' hb1 (fun _ => False); have u0 := (hb1.cell (p := ⟨w.heap.size, 0, none⟩) hbz).trans p0; have u1 := (hb1.cell (p := ⟨w.heap.size, 1, none⟩) hbz).trans p1; have u2 := (hb1.cell (p := ⟨w.heap.size, 2, none⟩) hbz).trans p2; have u3 := (hb1.cell (p := ⟨w.heap.size, 3, none⟩) hbz).trans p3; have u4 := (hb1.cell (p := ⟨w.heap.size, 4, none⟩) hbz).trans p4; have hbz1 : w.heap.size < w1.heap.size := (by omega); clear p0 p1 p2 p3 p4; have hcm := compare_any hi1 (HB2.out.next hb1) (by omega) (by omega)) | (go_at_call 61; refine hcm.mono ?_; rintro e w' ⟨rfl, rfl⟩) | (go_at_call 62; refine (look_any (but := (k : Nat)) hC1 (paidV f)).mono ?_; rintro e w2 ⟨b', bm, rfl, hbb, hbm, hB3, hL3⟩) | (go_at_call 63; refine (some_any (but := k) hL3.lookG HV.out (by omega)).mono ?_; rintro e w3 ⟨rfl, hk3, hn3⟩; rw [HA.out]))
                  have hb13 : Below w1.heap.size w1 w3 := hB3.trans (hk3.below (fun k h => by omega) hB3.size)
                  have hk13 := Keep.of_below' hb13 (fun _ => False)
                  go_roundw
                  case rel =>
                    refine ⟨k + 1, by omega, by go_num, ?_, HKP.out.trans ((hb1.trans (hb13.mono hz1)).mono hz)⟩
                    rw [HS.out, HW.out, if_neg (by simp), HA.out, if_pos rfl]
                    exact Best.new ⟨hi1.len, hi1.cap, hi1.max, (hi1.next hb13).row⟩ (fun _ _ => Nat.zero_le _)
                  case measure => simp [intOf]; omega
                | false =>
                  have HA := hide ha
                  clear ha
                  go_wp2_with (first | (go_at_call 51; refine HL.out.mono ?_; rintro e w1 ⟨g1, c1, rfl, hi1, hA1, hb1⟩; have hz1 := hb1.size; have hC1 := HC.out.next hb1; have hkb := Keep.of_below' hb1 (fun _ => False); have u0 := (hb1.cell (p := ⟨w.heap.size, 0, none⟩) hbz).trans p0; have u1 := (hb1.cell (p := ⟨w.heap.size, 1, none⟩) hbz).trans p1; have u2 := (hb1.cell (p := ⟨w.heap.size, 2, none⟩) hbz).trans p2; have u3 := (hb1.cell (p := ⟨w.heap.size, 3, none⟩) hbz).trans p3; have u4 := (hb1.cell (p := ⟨w.heap.size, 4, none⟩) hbz).trans p4; have hbz1 : w.heap.size < w1.heap.size := (by omega); clear p0 p1 p2 p3 p4; have hcm := compare_any hi1 (HB2.out.next hb1) (by omega) (by omega)) | (go_at_call 61; refine hcm.mono ?_; rintro e w' ⟨rfl, rfl⟩) | (go_at_call 62; refine (look_any (but := (k : Nat)) hC1 (paidV f)).mono ?_; rintro e w2 ⟨b', bm, rfl, hbb, hbm, hB3, hL3⟩) | (go_at_call 63; refine (some_any (but := k) hL3.lookG HV.out (by omega)).mono ?_; rintro e w3 ⟨rfl, hk3, hn3⟩; rw [HA.out]))
                  have hb13 : Below w1.heap.size w1 w3 := hB3.trans (hk3.below (fun k h => by omega) hB3.size)
                  have hk13 := Keep.of_below' hb13 (fun _ => False)
                  go_roundw
                  case rel =>
                    refine ⟨k + 1, by omega, by go_num, ?_, HKP.out.trans ((hb1.trans (hb13.mono hz1)).mono hz)⟩
                    rw [HS.out, HW.out, if_neg (by simp), HA.out, if_neg (by simp)]
                    exact (HBB.out.keep hkb (fun q hq => hq.elim)).keep hk13 (fun q hq => hq.elim)
                  case measure => simp [intOf]; omega
            · have hq1 : (((listN k f.papers.length).length : Int) == (b.length : Int)) = false := by simp; omega
              have HW := hide (show worse (listN k f.papers.length) b = false by simp [worse, hg, hq])
              have HQ' := hide hq
              clear hq hg
              cases ha : someB f k with
              | true =>
                have HA := hide ha
                clear ha
                go_wp2_with (first | (go_at_call 51; refine HL.out.mono ?_; rintro e w1 ⟨g1, c1, rfl, hi1, hA1, hb1⟩; have hz1 := hb1.size; have hC1 := HC.out.next hb1; have hkb := Keep.of_below' hb1 (fun _ => False); have u0 := (hb1.cell (p := ⟨w.heap.size, 0, none⟩) hbz).trans p0; have u1 := (hb1.cell (p := ⟨w.heap.size, 1, none⟩) hbz).trans p1; have u2 := (hb1.cell (p := ⟨w.heap.size, 2, none⟩) hbz).trans p2; have u3 := (hb1.cell (p := ⟨w.heap.size, 3, none⟩) hbz).trans p3; have u4 := (hb1.cell (p := ⟨w.heap.size, 4, none⟩) hbz).trans p4; have hbz1 : w.heap.size < w1.heap.size := (by omega); clear p0 p1 p2 p3 p4; have hcm := compare_any hi1 (HB2.out.next hb1) (by omega) (by omega)) | (go_at_call 61; refine hcm.mono ?_; rintro e w' ⟨rfl, rfl⟩) | (go_at_call 62; refine (look_any (but := (k : Nat)) hC1 (paidV f)).mono ?_; rintro e w2 ⟨b', bm, rfl, hbb, hbm, hB3, hL3⟩) | (go_at_call 63; refine (some_any (but := k) hL3.lookG HV.out (by omega)).mono ?_; rintro e w3 ⟨rfl, hk3, hn3⟩; rw [HA.out]))
                have hb13 : Below w1.heap.size w1 w3 := hB3.trans (hk3.below (fun k h => by omega) hB3.size)
                have hk13 := Keep.of_below' hb13 (fun _ => False)
                go_roundw
                case rel =>
                  refine ⟨k + 1, by omega, by go_num, ?_, HKP.out.trans ((hb1.trans (hb13.mono hz1)).mono hz)⟩
                  rw [HS.out, HW.out, if_neg (by simp), HA.out, if_pos rfl]
                  exact Best.new ⟨hi1.len, hi1.cap, hi1.max, (hi1.next hb13).row⟩ (fun _ _ => Nat.zero_le _)
                case measure => simp [intOf]; omega
              | false =>
                have HA := hide ha
                clear ha
                go_wp2_with (first | (go_at_call 51; refine HL.out.mono ?_; rintro e w1 ⟨g1, c1, rfl, hi1, hA1, hb1⟩; have hz1 := hb1.size; have hC1 := HC.out.next hb1; have hkb := Keep.of_below' hb1 (fun _ => False); have u0 := (hb1.cell (p := ⟨w.heap.size, 0, none⟩) hbz).trans p0; have u1 := (hb1.cell (p := ⟨w.heap.size, 1, none⟩) hbz).trans p1; have u2 := (hb1.cell (p := ⟨w.heap.size, 2, none⟩) hbz).trans p2; have u3 := (hb1.cell (p := ⟨w.heap.size, 3, none⟩) hbz).trans p3; have u4 := (hb1.cell (p := ⟨w.heap.size, 4, none⟩) hbz).trans p4; have hbz1 : w.heap.size < w1.heap.size := (by omega); clear p0 p1 p2 p3 p4; have hcm := compare_any hi1 (HB2.out.next hb1) (by omega) (by omega)) | (go_at_call 61; refine hcm.mono ?_; rintro e w' ⟨rfl, rfl⟩) | (go_at_call 62; refine (look_any (but := (k : Nat)) hC1 (paidV f)).mono ?_; rintro e w2 ⟨b', bm, rfl, hbb, hbm, hB3, hL3⟩) | (go_at_call 63; refine (some_any (but := k) hL3.lookG HV.out (by omega)).mono ?_; rintro e w3 ⟨rfl, hk3, hn3⟩; rw [HA.out]))
                have hb13 : Below w1.heap.size w1 w3 := hB3.trans (hk3.below (fun k h => by omega) hB3.size)
                have hk13 := Keep.of_below' hb13 (fun _ => False)
                go_roundw
                case rel =>
                  refine ⟨k + 1, by omega, by go_num, ?_, HKP.out.trans ((hb1.trans (hb13.mono hz1)).mono hz)⟩
                  rw [HS.out, HW.out, if_neg (by simp), HA.out, if_neg (by simp)]
                  exact (HBB.out.keep hkb (fun q hq => hq.elim)).keep hk13 (fun q hq => hq.elim)
                case measure => simp [intOf]; omega
      · obtain rfl : k = N := by omega
        have hk1 : ¬ (k : Int) < (k : Int) := by omega
        have HB := hide hbest
        have HKP := hide hkeep
        clear hbest hkeep
        cases ho : FW k with
        | none =>
          have hb := HB.out
          rw [ho] at hb
          obtain ⟨rfl, rfl⟩ := hb
          go_wp2_with fail
          go_ret2
          rw [HR.out, ho]
          exact ⟨none, 0, rfl, IntsS.nil_, HB1.out.trans (HKP.out.mono HB1.out.size)⟩
        | some b =>
          have hb := HB.out
          rw [ho] at hb
          obtain ⟨rfl, A, c, rfl, hb2, hb3⟩ := hb
          have HB2 := hide hb2
          clear hb2 hb3
          go_wp2_with fail
          go_ret2
          rw [HR.out, ho]
          exact ⟨A, c, rfl, HB2.out, HB1.out.trans (HKP.out.mono HB1.out.size)⟩
end Go.Proofs.Ytllmahcanipcpaa
