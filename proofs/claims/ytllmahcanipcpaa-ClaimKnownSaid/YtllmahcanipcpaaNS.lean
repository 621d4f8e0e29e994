/- The contract of claim's Wrong: the fewest papers that must be wrong. -/
import Derived.Test.YtllmahcanipcpaaNR
import Derived.OwnWalkIn
import Derived.TacticsInMore
import Derived.Deep.DeepCutAuto
set_option linter.unusedVariables false
set_option linter.unusedSimpArgs false
namespace Go.Proofs.Ytllmahcanipcpaa
open Go.RowKit
attribute [local go_sem ↓] Go.wp_at_zero Go.wp_at_succ
attribute [local go_sem] Oper.semAt_some
def cmp1 (x y : Int) : Int := if x < y then -1 else if y < x then 1 else 0
set_option maxRecDepth 100000 in
theorem cmp_any (x y : Int) (w : World) : Calls Try.prog 81 #[.int .i64 x, .int .i64 y] w fun e w' => e = .returned (.int .i64 (cmp1 x y)) ∧ w = w' := by
  have hn : ∀ z : Int, Calls Try.prog 90 #[.int .i64 z] w fun e w' => e = .returned (.bool false) ∧ w = w' := fun z => by
    go_enter Try.func90, Try.ntmps90
    go_wp2_with fail
    go_ret
    exact ⟨ret_b (by simp), rfl⟩
  have HN := hide hn
  clear hn
  by_cases h1 : x < y
  · have HE := hide (show cmp1 x y = -1 by rw [cmp1, if_pos h1])
    go_enter Try.func81, Try.ntmps81
    go_wp2_with (go_at_call 90; refine (HN.out _).mono ?_; rintro e w' ⟨rfl, rfl⟩)
    go_ret
    exact ⟨by rw [HE.out]; rfl, rfl⟩
  · by_cases h2 : y < x
    · have HE := hide (show cmp1 x y = 1 by rw [cmp1, if_neg h1, if_pos h2])
      go_enter Try.func81, Try.ntmps81
      go_wp2_with (go_at_call 90; refine (HN.out _).mono ?_; rintro e w' ⟨rfl, rfl⟩)
      go_ret
      exact ⟨by rw [HE.out]; rfl, rfl⟩
    · have HE := hide (show cmp1 x y = 0 by rw [cmp1, if_neg h1, if_neg h2])
      go_enter Try.func81, Try.ntmps81
      go_wp2_with (go_at_call 90; refine (HN.out _).mono ?_; rintro e w' ⟨rfl, rfl⟩)
      go_ret
      exact ⟨by rw [HE.out]; rfl, rfl⟩

def cmpL : List Int → List Int → Int
  | [], [] => 0
  | [], _ :: _ => -1
  | _ :: _, [] => 1
  | x :: xs, y :: ys => if cmp1 x y ≠ 0 then cmp1 x y else cmpL xs ys
set_option maxHeartbeats 1600000 in
set_option maxRecDepth 100000 in
theorem compare_any {A B : Option Addr} {n m c1 c2 : Nat} {xs ys : List Int} {w : World} (hx : IntsS w w.heap.size A n c1 xs) (hy : IntsS w w.heap.size B m c2 ys) (hn : n ≤ 100) (hm : m ≤ 100) :
    Calls Try.prog 61 #[.slice A n c1, .slice B m c2] w fun e w' => e = .returned (.int .i64 (cmpL xs ys)) ∧ w = w' := by
  have HX := hide hx
  have HY := hide hy
  have hxl := hx.len
  have hyl := hy.len
  have HXL := hide hxl
  have HYL := hide hyl
  clear hx hy hxl hyl
  have HC := hide (fun x y => cmp_any x y w)
  go_enter Try.func61, Try.ntmps61
  go_wp2_with fail
  go_loopw [5, 6, 7, 8, 11] (fun _ _ _ _ i wr => ∃ k : Nat, k ≤ n ∧ k ≤ m ∧ i = .int .i64 k ∧ w = wr ∧ Hid (cmpL xs ys = cmpL (xs.drop k) (ys.drop k))) (fun _ _ _ _ i _ => n - (intOf i).toNat)
  case atStart => exact ⟨0, Nat.zero_le _, Nat.zero_le _, rfl, rfl, hide rfl⟩
  case round =>
    obtain ⟨k, hk, hkm, rfl, rfl, HE⟩ := hrel
    have hk0 : (0 : Int) ≤ (k : Int) := Int.natCast_nonneg _
    by_cases hlt : k < n
    · have hk1 : (k : Int) < (n : Int) := by omega
      obtain ⟨ba, oa, rfl, hba, h0⟩ := HX.out.row.ints hlt
      have e1 := drop_nth (l := xs) (j := k) (by rw [HXL.out]; exact hlt)
      by_cases hlm : k < m
      · have hk2 : (k : Int) < (m : Int) := by omega
        have hk3 : ¬ (k : Int) ≥ (m : Int) := by omega
        obtain ⟨bb, ob, rfl, hbb, h1⟩ := HY.out.row.ints hlm
        have e2 := drop_nth (l := ys) (j := k) (by rw [HYL.out]; exact hlm)
        have HE2 := hide (show cmpL xs ys = if cmp1 (nth xs k) (nth ys k) ≠ 0 then cmp1 (nth xs k) (nth ys k) else cmpL (xs.drop (k + 1)) (ys.drop (k + 1)) by rw [HE.out, e1, e2]; rfl)
        clear e1 e2 HE
        by_cases hz : cmp1 (nth xs k) (nth ys k) = 0
        · have HE3 := hide (show cmpL xs ys = cmpL (xs.drop (k + 1)) (ys.drop (k + 1)) by rw [HE2.out, if_neg (by simp [hz])])
          clear HE2
          go_wp2_with (go_at_call 81; refine (HC.out _ _).mono ?_; rintro e w' ⟨rfl, rfl⟩)
          go_roundw
          case rel => exact ⟨k + 1, by omega, by omega, by go_num, trivial, HE3⟩
          case measure => simp [intOf]; omega
        · have HE3 := hide (show cmpL xs ys = cmp1 (nth xs k) (nth ys k) by rw [HE2.out, if_pos hz])
          clear HE2
          have hz2 : (cmp1 (nth xs k) (nth ys k) == 0) = false := by simpa using hz
          go_wp2_with (go_at_call 81; refine (HC.out _ _).mono ?_; rintro e w' ⟨rfl, rfl⟩)
          go_ret
          exact ⟨by rw [HE3.out]; rfl, rfl⟩
      · obtain rfl : k = m := by omega
        have e2 : ys.drop k = [] := List.drop_eq_nil_of_le (by rw [HYL.out]; exact Nat.le_refl _)
        have HE2 := hide (show cmpL xs ys = 1 by rw [HE.out, e1, e2]; rfl)
        clear e1 HE
        have hk3 : (k : Int) ≥ (k : Int) := by omega
        go_wp2_with fail
        go_ret
        exact ⟨by rw [HE2.out]; rfl, rfl⟩
    · obtain rfl : k = n := by omega
      have e0 : cmpL xs ys = cmpL [] (ys.drop k) := by rw [HE.out, List.drop_eq_nil_of_le (by rw [HXL.out]; exact Nat.le_refl _)]
      by_cases hlm : k < m
      · have hk2 : (k : Int) < (m : Int) := by omega
        have HE2 := hide (show cmpL xs ys = -1 by rw [e0, drop_nth (by rw [HYL.out]; exact hlm)]; rfl)
        clear e0 HE
        go_wp2_with fail
        go_ret
        exact ⟨by rw [HE2.out]; rfl, rfl⟩
      · obtain rfl : k = m := by omega
        have HE2 := hide (show cmpL xs ys = 0 by rw [e0, List.drop_eq_nil_of_le (by rw [HYL.out]; exact Nat.le_refl _)]; rfl)
        clear e0 HE
        have hk2 : ¬ (k : Int) < (k : Int) := by omega
        go_wp2_with fail
        go_ret
        exact ⟨by rw [HE2.out]; rfl, rfl⟩
def worse (l b : List Nat) : Bool := decide (b.length < l.length) || (decide (l.length = b.length) && decide (cmpL (natInts l) (natInts b) > 0))
/-- The best of the first k sets. -/
def fwTo (many : Nat) (ans : Nat → Bool) : Nat → Option (List Nat)
  | 0 => none
  | k + 1 => match fwTo many ans k with
    | none => if ans k then some (listN k many) else none
    | some b => if worse (listN k many) b then some b else if ans k then some (listN k many) else some b
theorem fwTo_len {many : Nat} {ans : Nat → Bool} : ∀ {k : Nat} {b : List Nat}, fwTo many ans k = some b → b.length ≤ many
  | 0, b, h => by cases h
  | k + 1, b, h => by
    rw [fwTo] at h
    cases ho : fwTo many ans k with
    | none =>
      rw [ho] at h
      simp only at h
      split at h
      · cases h; exact listN_le _ _
      · cases h
    | some b' =>
      rw [ho] at h
      simp only at h
      split at h
      · cases h; exact fwTo_len ho
      · split at h
        · cases h; exact listN_le _ _
        · cases h; exact fwTo_len ho
def Best (B : Nat) (wr : World) (v4 v5 : Value) : Option (List Nat) → Prop
  | none => v4 = .slice none 0 0 ∧ v5 = .bool false
  | some b => v5 = .bool true ∧ ∃ A c, v4 = .slice A b.length c ∧ IntsS wr wr.heap.size A b.length c (natInts b) ∧ (∀ ad, A = some ad → B ≤ ad.block)
theorem Row.keepS {w w' : World} {S : Nat → Prop} {B m : Nat} {A : Option Addr} {f : Nat → Value} (h : Row w w.heap.size A m f) (hk : Keep S w w') (hA : ∀ ad, A = some ad → B ≤ ad.block) (hS : ∀ k, S k → k < B) : Row w' w'.heap.size A m f := fun hm => by
  obtain ⟨b, off, e, hb, hc⟩ := h hm
  have hB := hA _ e
  refine ⟨b, off, e, Nat.lt_of_lt_of_le hb hk.size, fun j hj => (hk.cell hb (fun h => ?_)).trans (hc j hj)⟩
  have := hS b h
  exact absurd hB (by show ¬ B ≤ b; omega)
theorem Best.keep {B : Nat} {w w' : World} {v4 v5 : Value} {o : Option (List Nat)} {S : Nat → Prop} (h : Best B w v4 v5 o) (hk : Keep S w w') (hS : ∀ k, S k → k < B) : Best B w' v4 v5 o := by
  match o, h with
  | none, h => exact h
  | some b, ⟨h1, A, c, h2, h3, h4⟩ => exact ⟨h1, A, c, h2, ⟨h3.len, h3.cap, h3.max, h3.row.keepS hk h4 hS⟩, h4⟩
theorem Best.new {B : Nat} {w : World} {A : Option Addr} {c : Nat} {b : List Nat} (h : IntsS w w.heap.size A b.length c (natInts b)) (hA : ∀ ad, A = some ad → B ≤ ad.block) : Best B w (.slice A b.length c) (.bool true) (some b) := ⟨rfl, A, c, rfl, h, hA⟩


def wrongV (f : File) : List Nat × Int := if (checkM f).2.2 ≠ 0 then ([], (checkM f).2.2) else ((fwTo f.papers.length (someB f) (2 ^ f.papers.length)).getD [], 0)
set_option maxHeartbeats 4000000 in
set_option maxRecDepth 100000 in
theorem wrong_any {w : World} {f : File} {fa : FA} (h : FileV w w.heap.size f fa) :
    Calls Try.prog 20 #[fileVal f fa] w fun e w' => ∃ A cp, e = .returned (.tuple #[.slice A (wrongV f).1.length cp, .int .i64 (wrongV f).2]) ∧ IntsS w' w'.heap.size A (wrongV f).1.length cp (natInts (wrongV f).1) ∧ Below w.heap.size w w' := by
  have hB0 : Below w.heap.size w (w.alloc (.cells (fileCells f fa) 28)) := (Below.refl _ _).alloc (Nat.le_refl _) _
  have q1 : Blk (w.alloc (.cells (fileCells f fa) 28)) w.heap.size 28 (fileCells f fa) := Blk.made
  have HC0 := hide (h.next hB0)
  have HQ1 := hide q1
  have HB0 := hide hB0
  have hm4 := h.m4
  unfold maxLen at hm4
  have HWV := hide (show wrongV f = if (checkM f).2.2 ≠ 0 then ([], (checkM f).2.2) else ((fwTo f.papers.length (someB f) (2 ^ f.papers.length)).getD [], 0) from rfl)
  have HVO := hide (fun h => valid_of (f := f) h)
  clear h hB0 q1
  go_enter Try.func20, Try.ntmps20
  go_wp2_with fail
  generalize (w.alloc (.cells (fileCells f fa) 28)) = w0 at *
  refine (check_any HC0.out).mono ?_
  rintro e w1' ⟨rfl, hb1'⟩
  have hz0 := HQ1.out.lt
  have hz1' := hb1'.size
  have HC := hide (HC0.out.next hb1')
  have HQ := hide (HQ1.out.next hb1')
  have HB1 := hide (HB0.out.trans (hb1'.mono (by omega)))
  generalize (checkM f).2.2 = E at *
  clear hb1' HC0 HQ1
  cases hce : (E != 0) with
  | true =>
    have HNE := hide (show E ≠ 0 by simpa using hce)
    go_wp2_with fail
    go_ret2
    have hR := HWV.out
    rw [if_pos HNE.out] at hR
    rw [hR]
    exact ⟨none, 0, rfl, IntsS.nil_, HB1.out⟩
  | false =>
    have hE : E = 0 := by simpa using hce
    have hv := HVO.out hE
    have hR := HWV.out
    rw [if_neg (by simp [hE])] at hR
    have HR := hide hR
    have hm := hv.papers
    have HV := hide hv
    clear hR hv HWV HVO hce
    subst hE
    obtain ⟨wb, rfl⟩ : ∃ wb : World, wb = w1' := ⟨_, rfl⟩
    have p3 := HQ.out.at_ 3
    simp only [fileCells, List.getElem?_toArray, List.getElem?_cons_zero, List.getElem?_cons_succ] at p3
    have hbz := HQ.out.lt
    have hN : wrap64 (2 ^ f.papers.length) = ((2 ^ f.papers.length : Nat) : Int) := by
      have h : ∀ m : Fin 6, wrap64 (2 ^ (m : Nat)) = ((2 ^ (m : Nat) : Nat) : Int) := of_decide_eq_true (by kernel_rfl)
      exact h ⟨f.papers.length, by omega⟩
    have hN16 : 2 ^ f.papers.length ≤ 32 := Nat.pow_le_pow_right (by omega) hm
    have hm0 : (0 : Int) ≤ (f.papers.length : Int) := Int.natCast_nonneg _
    go_wp2_with fail
    rw [hN]
    clear hN
    have HF := hide (show ∀ k, fwTo f.papers.length (someB f) (k + 1) = match fwTo f.papers.length (someB f) k with
      | none => if someB f k then some (listN k f.papers.length) else none
      | some b => if worse (listN k f.papers.length) b then some b else if someB f k then some (listN k f.papers.length) else some b from fun _ => rfl)
    have HF0 := hide (show fwTo f.papers.length (someB f) 0 = none from rfl)
    have HFL := hide (fun k b => fwTo_len (many := f.papers.length) (ans := someB f) (k := k) (b := b))
    generalize hNN : 2 ^ f.papers.length = N at *
    have HNN := hide hNN
    clear hNN
    generalize fwTo f.papers.length (someB f) = FW at *
    go_loopw [2, 4, 5, 6, 20] (fun v2 v4 _ _ i wr => ∃ k : Nat, k ≤ N ∧ i = .int .i64 k ∧ Best 0 wr v2 v4 (FW k) ∧ Below wb.heap.size wb wr) (fun _ _ _ _ i _ => N - (intOf i).toNat)
    case atStart => exact ⟨0, Nat.zero_le _, rfl, by rw [HF0.out]; exact ⟨rfl, rfl⟩, Below.refl _ _⟩
    case round =>
      obtain ⟨k, hk, rfl, hbest, hkeep⟩ := hrel
      have hk0 : (0 : Int) ≤ (k : Int) := Int.natCast_nonneg _
      by_cases hlt : k < N
      · have hk1 : (k : Int) < (N : Int) := by omega
        have hz := hkeep.size
        have HL := hide (list_any (set := k) (many := f.papers.length) (by omega) hm wr)
        have HC := hide (HC.out.next hkeep)
        have q := HQ.out.next hkeep
        have p0 := q.at_ 0
        have p1 := q.at_ 1
        have p2 := q.at_ 2
        have p3 := q.at_ 3
        have p4 := q.at_ 4
        simp only [fileCells, List.getElem?_toArray, List.getElem?_cons_zero, List.getElem?_cons_succ] at p0 p1 p2 p3 p4
        have hbz := q.lt
        have HS := hide (HF.out k)
        have HB := hide hbest
        have HKP := hide hkeep
        clear hbest hkeep q
        cases ho : FW k with
        | none =>
          have hb := HB.out
          rw [ho] at hb
          obtain ⟨rfl, rfl⟩ := hb
          have HS := hide (HS.out.trans (by rw [ho] : _ = if someB f k then some (listN k f.papers.length) else none))
          cases ha : someB f k with
          | true =>
            have HA := hide ha
            clear ha
            go_wp2_with (first | (go_at_call 51; refine HL.out.mono ?_; rintro e w1 ⟨g1, c1, rfl, hi1, hA1, hb1⟩; have hz1 := hb1.size; have hC1 := HC.out.next hb1; have hkb := Keep.of_below' hb1 (fun _ => False); have u0 := (hb1.cell (p := ⟨w.heap.size, 0, none⟩) hbz).trans p0; have u1 := (hb1.cell (p := ⟨w.heap.size, 1, none⟩) hbz).trans p1; have u2 := (hb1.cell (p := ⟨w.heap.size, 2, none⟩) hbz).trans p2; have u3 := (hb1.cell (p := ⟨w.heap.size, 3, none⟩) hbz).trans p3; have u4 := (hb1.cell (p := ⟨w.heap.size, 4, none⟩) hbz).trans p4; have hbz1 : w.heap.size < w1.heap.size := (by omega); clear p0 p1 p2 p3 p4) | (go_at_call 61; refine hcm.mono ?_; rintro e w' ⟨rfl, rfl⟩) | (go_at_call 62; refine (look_any (but := (k : Nat)) hC1 (paidV f)).mono ?_; rintro e w2 ⟨b', bm, rfl, hbb, hbm, hB3, hL3⟩) | (go_at_call 63; refine (some_any (but := k) hL3.lookG HV.out (by omega)).mono ?_; rintro e w3 ⟨rfl, hk3, hn3⟩; rw [HA.out]))
            have hb13 : Below w1.heap.size w1 w3 := hB3.trans (hk3.below (fun k h => by omega) hB3.size)
            have hk13 := Keep.of_below' hb13 (fun _ => False)
            go_roundw
            case rel =>
              refine ⟨k + 1, by omega, by go_num, ?_, HKP.out.trans ((hb1.trans (hb13.mono hz1)).mono hz)⟩
              rw [HS.out, HA.out, if_pos rfl]
              exact Best.new ⟨hi1.len, hi1.cap, hi1.max, (hi1.next hb13).row⟩ (fun _ _ => Nat.zero_le _)
            case measure => simp [intOf]; omega
          | false =>
            have HA := hide ha
            clear ha
            go_wp2_with (first | (go_at_call 51; refine HL.out.mono ?_; rintro e w1 ⟨g1, c1, rfl, hi1, hA1, hb1⟩; have hz1 := hb1.size; have hC1 := HC.out.next hb1; have hkb := Keep.of_below' hb1 (fun _ => False); have u0 := (hb1.cell (p := ⟨w.heap.size, 0, none⟩) hbz).trans p0; have u1 := (hb1.cell (p := ⟨w.heap.size, 1, none⟩) hbz).trans p1; have u2 := (hb1.cell (p := ⟨w.heap.size, 2, none⟩) hbz).trans p2; have u3 := (hb1.cell (p := ⟨w.heap.size, 3, none⟩) hbz).trans p3; have u4 := (hb1.cell (p := ⟨w.heap.size, 4, none⟩) hbz).trans p4; have hbz1 : w.heap.size < w1.heap.size := (by omega); clear p0 p1 p2 p3 p4) | (go_at_call 61; refine hcm.mono ?_; rintro e w' ⟨rfl, rfl⟩) | (go_at_call 62; refine (look_any (but := (k : Nat)) hC1 (paidV f)).mono ?_; rintro e w2 ⟨b', bm, rfl, hbb, hbm, hB3, hL3⟩) | (go_at_call 63; refine (some_any (but := k) hL3.lookG HV.out (by omega)).mono ?_; rintro e w3 ⟨rfl, hk3, hn3⟩; rw [HA.out]))
            have hb13 : Below w1.heap.size w1 w3 := hB3.trans (hk3.below (fun k h => by omega) hB3.size)
            have hk13 := Keep.of_below' hb13 (fun _ => False)
            go_roundw
            case rel =>
              refine ⟨k + 1, by omega, by go_num, ?_, HKP.out.trans ((hb1.trans (hb13.mono hz1)).mono hz)⟩
              rw [HS.out, HA.out, if_neg (by simp)]
              exact ⟨rfl, rfl⟩
            case measure => simp [intOf]; omega
        | some b =>
          have hb := HB.out
          rw [ho] at hb
          obtain ⟨rfl, A, c, rfl, hb2, hb3⟩ := hb
          have HS := hide (HS.out.trans (by rw [ho] : _ = if worse (listN k f.papers.length) b then some b else if someB f k then some (listN k f.papers.length) else some b))
          have HBB := hide (Best.new hb2 hb3)
          have HB2 := hide hb2
          clear hb2 hb3
          have hll := listN_le k f.papers.length
          have hbl := HFL.out k b ho
          by_cases hg : b.length < (listN k f.papers.length).length
          · have HW := hide (show worse (listN k f.papers.length) b = true by simp [worse, hg])
            have hg1 : (b.length : Int) < ((listN k f.papers.length).length : Int) := by omega
            go_wp2_with (first | (go_at_call 51; refine HL.out.mono ?_; rintro e w1 ⟨g1, c1, rfl, hi1, hA1, hb1⟩; have hz1 := hb1.size; have hC1 := HC.out.next hb1; have hkb := Keep.of_below' hb1 (fun _ => False); have u0 := (hb1.cell (p := ⟨w.heap.size, 0, none⟩) hbz).trans p0; have u1 := (hb1.cell (p := ⟨w.heap.size, 1, none⟩) hbz).trans p1; have u2 := (hb1.cell (p := ⟨w.heap.size, 2, none⟩) hbz).trans p2; have u3 := (hb1.cell (p := ⟨w.heap.size, 3, none⟩) hbz).trans p3; have u4 := (hb1.cell (p := ⟨w.heap.size, 4, none⟩) hbz).trans p4; have hbz1 : w.heap.size < w1.heap.size := (by omega); clear p0 p1 p2 p3 p4; have hcm := compare_any hi1 (HB2.out.next hb1) (by omega) (by omega)) | (go_at_call 61; refine hcm.mono ?_; rintro e w' ⟨rfl, rfl⟩) | (go_at_call 62; refine (look_any (but := (k : Nat)) hC1 (paidV f)).mono ?_; rintro e w2 ⟨b', bm, rfl, hbb, hbm, hB3, hL3⟩) | (go_at_call 63; refine (some_any (but := k) hL3.lookG HV.out (by omega)).mono ?_; rintro e w3 ⟨rfl, hk3, hn3⟩; rw [HA.out]))
            go_roundw
            case rel =>
              refine ⟨k + 1, by omega, by go_num, ?_, HKP.out.trans (hb1.mono hz)⟩
              rw [HS.out, HW.out, if_pos rfl]
              exact HBB.out.keep hkb (fun q hq => hq.elim)
            case measure => simp [intOf]; omega
          · have hg1 : ¬ (b.length : Int) < ((listN k f.papers.length).length : Int) := by omega
            by_cases hq : (listN k f.papers.length).length = b.length
            · have hq1 : (((listN k f.papers.length).length : Int) == (b.length : Int)) = true := by simp; omega
              by_cases hc : cmpL (natInts (listN k f.papers.length)) (natInts b) > 0
              · have HW := hide (show worse (listN k f.papers.length) b = true by simp [worse, hq, hc])
                have hc1 : 0 < cmpL (natInts (listN k f.papers.length)) (natInts b) := hc
                have HQ' := hide hq
                clear hq hg
                go_wp2_with (first | (go_at_call 51; refine HL.out.mono ?_; rintro e w1 ⟨g1, c1, rfl, hi1, hA1, hb1⟩; have hz1 := hb1.size; have hC1 := HC.out.next hb1; have hkb := Keep.of_below' hb1 (fun _ => False); have u0 := (hb1.cell (p := ⟨w.heap.size, 0, none⟩) hbz).trans p0; have u1 := (hb1.cell (p := ⟨w.heap.size, 1, none⟩) hbz).trans p1; have u2 := (hb1.cell (p := ⟨w.heap.size, 2, none⟩) hbz).trans p2; have u3 := (hb1.cell (p := ⟨w.heap.size, 3, none⟩) hbz).trans p3; have u4 := (hb1.cell (p := ⟨w.heap.size, 4, none⟩) hbz).trans p4; have hbz1 : w.heap.size < w1.heap.size := (by omega); clear p0 p1 p2 p3 p4; have hcm := compare_any hi1 (HB2.out.next hb1) (by omega) (by omega)) | (go_at_call 61; refine hcm.mono ?_; rintro e w' ⟨rfl, rfl⟩) | (go_at_call 62; refine (look_any (but := (k : Nat)) hC1 (paidV f)).mono ?_; rintro e w2 ⟨b', bm, rfl, hbb, hbm, hB3, hL3⟩) | (go_at_call 63; refine (some_any (but := k) hL3.lookG HV.out (by omega)).mono ?_; rintro e w3 ⟨rfl, hk3, hn3⟩; rw [HA.out]))
                go_roundw
                case rel =>
                  refine ⟨k + 1, by omega, by go_num, ?_, HKP.out.trans (hb1.mono hz)⟩
                  rw [HS.out, HW.out, if_pos rfl]
                  exact HBB.out.keep hkb (fun q hq => hq.elim)
                case measure => simp [intOf]; omega
              · have HW := hide (show worse (listN k f.papers.length) b = false by simp [worse, hg, hq]; omega)
                have hc1 : ¬ 0 < cmpL (natInts (listN k f.papers.length)) (natInts b) := hc
                have HQ' := hide hq
                clear hq hg
                cases ha : someB f k with
                | true =>
                  have HA := hide ha
                  clear ha
                  go_wp2_with (first | (go_at_call 51; refine HL.out.mono ?_; rintro e w1 ⟨g1, c1, rfl, hi1, hA1, hb1⟩; have hz1 := hb1.size; have hC1 := HC.out.next hb1; have hkb := Keep.of_below' hb1 (fun _ => False); have u0 := (hb1.cell (p := ⟨w.heap.size, 0, none⟩) hbz).trans p0; have u1 := (hb1.cell (p := ⟨w.heap.size, 1, none⟩) hbz).trans p1; have u2 := (hb1.cell (p := ⟨w.heap.size, 2, none⟩) hbz).trans p2; have u3 := (hb1.cell (p := ⟨w.heap.size, 3, none⟩) hbz).trans p3; have u4 := (hb1.cell (p := ⟨w.heap.size, 4, none⟩) hbz).trans p4; have hbz1 : w.heap.size < w1.heap.size := (by omega); clear p0 p1 p2 p3 p4; have hcm := compare_any hi1 (HB2.out.next hb1) (by omega) (by omega)) | (go_at_call 61; refine hcm.mono ?_; rintro e w' ⟨rfl, rfl⟩) | (go_at_call 62; refine (look_any (but := (k : Nat)) hC1 (paidV f)).mono ?_; rintro e w2 ⟨b', bm, rfl, hbb, hbm, hB3, hL3⟩) | (go_at_call 63; refine (some_any (but := k) hL3.lookG HV.out (by omega)).mono ?_; rintro e w3 ⟨rfl, hk3, hn3⟩; rw [HA.out]))
                  have hb13 : Below w1.heap.size w1 w3 := hB3.trans (hk3.below (fun k h => by omega) hB3.size)
                  have hk13 := Keep.of_below' hb13 (fun _ => False)
                  go_roundw
                  case rel =>
                    refine ⟨k + 1, by omega, by go_num, ?_, HKP.out.trans ((hb1.trans (hb13.mono hz1)).mono hz)⟩
                    rw [HS.out, HW.out, if_neg (by simp), HA.out, if_pos rfl]
                    exact Best.new ⟨hi1.len, hi1.cap, hi1.max, (hi1.next hb13).row⟩ (fun _ _ => Nat.zero_le _)
                  case measure => simp [intOf]; omega
                | false =>
                  have HA := hide ha
                  clear ha
                  go_wp2_with (first | (go_at_call 51; refine HL.out.mono ?_; rintro e w1 ⟨g1, c1, rfl, hi1, hA1, hb1⟩; have hz1 := hb1.size; have hC1 := HC.out.next hb1; have hkb := Keep.of_below' hb1 (fun _ => False); have u0 := (hb1.cell (p := ⟨w.heap.size, 0, none⟩) hbz).trans p0; have u1 := (hb1.cell (p := ⟨w.heap.size, 1, none⟩) hbz).trans p1; have u2 := (hb1.cell (p := ⟨w.heap.size, 2, none⟩) hbz).trans p2; have u3 := (hb1.cell (p := ⟨w.heap.size, 3, none⟩) hbz).trans p3; have u4 := (hb1.cell (p := ⟨w.heap.size, 4, none⟩) hbz).trans p4; have hbz1 : w.heap.size < w1.heap.size := (by omega); clear p0 p1 p2 p3 p4; have hcm := compare_any hi1 (HB2.out.next hb1) (by omega) (by omega)) | (go_at_call 61; refine hcm.mono ?_; rintro e w' ⟨rfl, rfl⟩) | (go_at_call 62; refine (look_any (but := (k : Nat)) hC1 (paidV f)).mono ?_; rintro e w2 ⟨b', bm, rfl, hbb, hbm, hB3, hL3⟩) | (go_at_call 63; refine (some_any (but := k) hL3.lookG HV.out (by omega)).mono ?_; rintro e w3 ⟨rfl, hk3, hn3⟩; rw [HA.out]))
                  have hb13 : Below w1.heap.size w1 w3 := hB3.trans (hk3.below (fun k h => by omega) hB3.size)
                  have hk13 := Keep.of_below' hb13 (fun _ => False)
                  go_roundw
                  case rel =>
                    refine ⟨k + 1, by omega, by go_num, ?_, HKP.out.trans ((hb1.trans (hb13.mono hz1)).mono hz)⟩
                    rw [HS.out, HW.out, if_neg (by simp), HA.out, if_neg (by simp)]
                    exact (HBB.out.keep hkb (fun q hq => hq.elim)).keep hk13 (fun q hq => hq.elim)
                  case measure => simp [intOf]; omega
            · have hq1 : (((listN k f.papers.length).length : Int) == (b.length : Int)) = false := by simp; omega
              have HW := hide (show worse (listN k f.papers.length) b = false by simp [worse, hg, hq])
              have HQ' := hide hq
              clear hq hg
              cases ha : someB f k with
              | true =>
                have HA := hide ha
                clear ha
                go_wp2_with (first | (go_at_call 51; refine HL.out.mono ?_; rintro e w1 ⟨g1, c1, rfl, hi1, hA1, hb1⟩; have hz1 := hb1.size; have hC1 := HC.out.next hb1; have hkb := Keep.of_below' hb1 (fun _ => False); have u0 := (hb1.cell (p := ⟨w.heap.size, 0, none⟩) hbz).trans p0; have u1 := (hb1.cell (p := ⟨w.heap.size, 1, none⟩) hbz).trans p1; have u2 := (hb1.cell (p := ⟨w.heap.size, 2, none⟩) hbz).trans p2; have u3 := (hb1.cell (p := ⟨w.heap.size, 3, none⟩) hbz).trans p3; have u4 := (hb1.cell (p := ⟨w.heap.size, 4, none⟩) hbz).trans p4; have hbz1 : w.heap.size < w1.heap.size := (by omega); clear p0 p1 p2 p3 p4; have hcm := compare_any hi1 (HB2.out.next hb1) (by omega) (by omega)) | (go_at_call 61; refine hcm.mono ?_; rintro e w' ⟨rfl, rfl⟩) | (go_at_call 62; refine (look_any (but := (k : Nat)) hC1 (paidV f)).mono ?_; rintro e w2 ⟨b', bm, rfl, hbb, hbm, hB3, hL3⟩) | (go_at_call 63; refine (some_any (but := k) hL3.lookG HV.out (by omega)).mono ?_; rintro e w3 ⟨rfl, hk3, hn3⟩; rw [HA.out]))
                have hb13 : Below w1.heap.size w1 w3 := hB3.trans (hk3.below (fun k h => by omega) hB3.size)
                have hk13 := Keep.of_below' hb13 (fun _ => False)
                go_roundw
                case rel =>
                  refine ⟨k + 1, by omega, by go_num, ?_, HKP.out.trans ((hb1.trans (hb13.mono hz1)).mono hz)⟩
                  rw [HS.out, HW.out, if_neg (by simp), HA.out, if_pos rfl]
                  exact Best.new ⟨hi1.len, hi1.cap, hi1.max, (hi1.next hb13).row⟩ (fun _ _ => Nat.zero_le _)
                case measure => simp [intOf]; omega
              | false =>
                have HA := hide ha
                clear ha
                go_wp2_with (first | (go_at_call 51; refine HL.out.mono ?_; rintro e w1 ⟨g1, c1, rfl, hi1, hA1, hb1⟩; have hz1 := hb1.size; have hC1 := HC.out.next hb1; have hkb := Keep.of_below' hb1 (fun _ => False); have u0 := (hb1.cell (p := ⟨w.heap.size, 0, none⟩) hbz).trans p0; have u1 := (hb1.cell (p := ⟨w.heap.size, 1, none⟩) hbz).trans p1; have u2 := (hb1.cell (p := ⟨w.heap.size, 2, none⟩) hbz).trans p2; have u3 := (hb1.cell (p := ⟨w.heap.size, 3, none⟩) hbz).trans p3; have u4 := (hb1.cell (p := ⟨w.heap.size, 4, none⟩) hbz).trans p4; have hbz1 : w.heap.size < w1.heap.size := (by omega); clear p0 p1 p2 p3 p4; have hcm := compare_any hi1 (HB2.out.next hb1) (by omega) (by omega)) | (go_at_call 61; refine hcm.mono ?_; rintro e w' ⟨rfl, rfl⟩) | (go_at_call 62; refine (look_any (but := (k : Nat)) hC1 (paidV f)).mono ?_; rintro e w2 ⟨b', bm, rfl, hbb, hbm, hB3, hL3⟩) | (go_at_call 63; refine (some_any (but := k) hL3.lookG HV.out (by omega)).mono ?_; rintro e w3 ⟨rfl, hk3, hn3⟩; rw [HA.out]))
                have hb13 : Below w1.heap.size w1 w3 := hB3.trans (hk3.below (fun k h => by omega) hB3.size)
                have hk13 := Keep.of_below' hb13 (fun _ => False)
                go_roundw
                case rel =>
                  refine ⟨k + 1, by omega, by go_num, ?_, HKP.out.trans ((hb1.trans (hb13.mono hz1)).mono hz)⟩
                  rw [HS.out, HW.out, if_neg (by simp), HA.out, if_neg (by simp)]
                  exact (HBB.out.keep hkb (fun q hq => hq.elim)).keep hk13 (fun q hq => hq.elim)
                case measure => simp [intOf]; omega
      · obtain rfl : k = N := by omega
        have hk1 : ¬ (k : Int) < (k : Int) := by omega
        have HB := hide hbest
        have HKP := hide hkeep
        clear hbest hkeep
        cases ho : FW k with
        | none =>
          have hb := HB.out
          rw [ho] at hb
          obtain ⟨rfl, rfl⟩ := hb
          go_wp2_with fail
          go_ret2
          rw [HR.out, ho]
          exact ⟨none, 0, rfl, IntsS.nil_, HB1.out.trans (HKP.out.mono HB1.out.size)⟩
        | some b =>
          have hb := HB.out
          rw [ho] at hb
          obtain ⟨rfl, A, c, rfl, hb2, hb3⟩ := hb
          have HB2 := hide hb2
          clear hb2 hb3
          go_wp2_with fail
          go_ret2
          rw [HR.out, ho]
          exact ⟨A, c, rfl, HB2.out, HB1.out.trans (HKP.out.mono HB1.out.size)⟩
end Go.Proofs.Ytllmahcanipcpaa
