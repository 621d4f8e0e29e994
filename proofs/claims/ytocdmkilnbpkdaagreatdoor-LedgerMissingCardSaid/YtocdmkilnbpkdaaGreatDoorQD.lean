/- Behind, Ends and tallied of the reference. -/
import Derived.Test.YtocdmkilnbpkdaaGreatDoorQC
import Derived.Test.YtocdmkilnbpkdaaGreatDoorZF
import Derived.OwnWalkIn
import Derived.OwnWalk
import Derived.Laws.AppendOwn
import Derived.Laws.ResultCell
import Derived.TacticsInMore
import Derived.Deep.DeepCutAuto
set_option linter.unusedVariables false
set_option linter.unusedSimpArgs false
namespace Go.Proofs.YtocdmkilnbpkdaaGreatDoor
open Go.RowKit
attribute [local go_sem] Oper.semAt_some

theorem behTo_le (b : Book) (i j : Nat) : (behTo b i j).length ≤ j := by
 have := List.length_filter_le (fun k => (nth b.steps k).from_ == (i : Int)) (List.range j)
 simpa [behTo] using this
set_option maxHeartbeats 2000000 in
set_option maxRecDepth 100000 in
theorem behind12_any {b : Book} {a : BA} {w : World} (h : BookV w w.heap.size b a) (h6 : b.steps.length ≤ 6) (i : Nat) :
 Calls Tryz.prog 44 #[bookVal b a, .int .i64 (i : Int)] w fun e w' => ∃ A c, e = .returned (.slice A (behindB b i).length c) ∧ IntsS w' w'.heap.size A (behindB b i).length c (natInts (behindB b i)) ∧ (∀ ad, A = some ad → w.heap.size ≤ ad.block) ∧ Below w.heap.size w w' := by
 have HX := hide (BoxB.made h)
 have HB := hide (show Below w.heap.size w (w.alloc (.cells (bookCells b a) 25)) from (Below.refl _ _).alloc (Nat.le_refl _) _)
 have hm1 := h.m1
 unfold maxLen at hm1
 clear h
 obtain ⟨i0, hinf, hz0, hz1, hz2⟩ := info_parts Tryz.infoInt
 go_enter Tryz.func44, Tryz.ntmps44
 go_upto_region 1 with (fail)
 generalize w.alloc (.cells (bookCells b a) 25) = v at *
 obtain ⟨gz, x0, x1⟩ := HX.out.cells
 have hzv := HB.out.size
 go_wp2_with fail
 clear x0 x1 gz
 go_loopw [5, 6, 7, 8, 9, 10, 11, 12, 13, 14, 15, 16, 17, 18, 19, 20, 21, 22, 23, 24, 25] (fun v5 v6 _ _ _ _ _ _ _ _ _ _ _ _ _ _ _ _ _ _ _ wr => ∃ j : Nat, j ≤ b.steps.length ∧ v6 = .int .i64 j ∧ Hid (wr.ownsRow v.heap.size 3 1 v5 (behTo b i j).length ((behTo b i j).map fun n : Nat => .int .i64 n)) ∧ Hid (Below v.heap.size v wr)) (fun v5 v6 _ _ _ _ _ _ _ _ _ _ _ _ _ _ _ _ _ _ _ _ => b.steps.length - (intOf v6).toNat)
 case atStart => exact ⟨0, Nat.zero_le _, rfl, hide (World.ownsRow_nil _ _ _ _), hide (Below.refl _ _)⟩
 case round =>
  obtain ⟨j, hj, rfl, HO, HBW⟩ := hrel
  have hj0 : (0 : Int) ≤ (j : Int) := Int.natCast_nonneg _
  have HX2 := hide (HX.out.next HBW.out)
  obtain ⟨gz, x0, x1⟩ := HX2.out.cells
  have hsz : v.heap.size ≤ wr.heap.size := HBW.out.size
  by_cases hlt : j < b.steps.length
  · have hjl : (j : Int) < (b.steps.length : Int) := by omega
    obtain ⟨g1, o1, hA1, hg1, s0, s1, s2⟩ := HX2.out.v.steps.steps hlt
    rw [hA1] at x0
    clear hA1 s0 s2
    have hle := behTo_le b i j
    have HS := hide (behTo_succ b i j)
    generalize (nth b.steps j).from_ = fr at *
    cases hq : (fr == (i : Int)) with
    | true =>
     rw [hq, if_pos rfl] at HS
     go_wp2_with (first
      | (at_builtin
         refine wpList_append_own _ rfl _ _ 35 rfl v.heap.size 3 i0 (.int .i64 0) 1 8 Tryz.underlying35 hinf hz0 hz1 hz2 rfl (by decide) _ _ _ rfl (HO.out.alloc _) ⟨wr.heap.size, 0, none⟩ 1 1 [.int .i64 j] rfl rfl ?c1 ?c2 ?c3 ?c4 ?c5 ?_
         case c1 => exact cell_one_new _ _ _
         case c2 => simp [Value.oneCell']
         case c3 => simp [maxLen]; omega
         case c4 => omega
         case c5 => simp; omega
         intro v' w1 hown' hg _
         have hb1 := app_below hsz HO.out hg
         clear hg))
     have hb2 : Below v.heap.size v w1 := HBW.out.trans hb1
     go_roundw
     case rel => exact ⟨j + 1, by omega, by go_num, hide (by rw [HS.out]; simpa using hown'), hide hb2⟩
     case measure => simp [intOf]; omega
    | false =>
     rw [hq, if_neg (by simp), List.append_nil] at HS
     go_wp2_with fail
     go_roundw
     case rel => exact ⟨j + 1, by omega, by go_num, hide (by rw [HS.out]; exact HO.out), HBW⟩
     case measure => simp [intOf]; omega
  · obtain rfl : j = b.steps.length := by omega
    go_wp2_with fail
    go_ret
    obtain ⟨A', c', rfl, hs'⟩ := IntsS.of_own (xs := natInts (behTo b i b.steps.length)) (by rw [natInts_vals]; exact HO.out)
    exact ⟨A', c', rfl, hs', (fun ad e => by have := (World.ownsRow.lt HO.out ad.block (by rw [e]; rfl)).1; omega), HB.out.trans (HBW.out.mono HB.out.size)⟩
/-- The ends of what a set has below n. -/
def endsTo (s : Nat → Bool) : Nat → Span
 | 0 => ⟨100, -1⟩
 | n + 1 => if s n then ⟨min (endsTo s n).lo n, max (endsTo s n).hi n⟩ else endsTo s n
theorem endsTo_ext {s t : Nat → Bool} : ∀ n, (∀ k, k < n → s k = t k) → endsTo s n = endsTo t n
 | 0, _ => rfl
 | n + 1, h => by rw [endsTo, endsTo, h n (by omega), endsTo_ext n fun k hk => h k (by omega)]
theorem endsTo_set {p : Span} (h : 0 ≤ p.lo) : ∀ n : Nat, endsTo (setOf p) n = if p.lo ≤ min p.hi ((n : Int) - 1) ∧ p.lo ≤ 99 then ⟨min 100 p.lo, min p.hi ((n : Int) - 1)⟩ else endsTo (setOf p) n := by
 intro n
 split
 · rename_i hc
   induction n with
   | zero => omega
   | succ n ih =>
    rw [endsTo]
    by_cases hm : setOf p n = true
    · rw [if_pos hm]
      rw [setOf_iff] at hm
      by_cases hn : p.lo ≤ min p.hi ((n : Int) - 1) ∧ p.lo ≤ 99
      · rw [ih hn]; simp only [Span.mk.injEq]; omega
      · have : endsTo (setOf p) n = ⟨100, -1⟩ := by
         have key : ∀ m, m ≤ n → endsTo (setOf p) m = ⟨100, -1⟩ := fun m => by
          induction m with
          | zero => intro _; rfl
          | succ m ih2 =>
           intro h2
           rw [endsTo, if_neg (by rw [setOf_iff]; omega), ih2 (by omega)]
         exact key n (Nat.le_refl _)
        rw [this]; simp only [Span.mk.injEq]; omega
    · rw [if_neg hm]
      rw [setOf_iff] at hm
      have hq : min p.hi ((n : Int) - 1) = min p.hi (((n + 1 : Nat) : Int) - 1) := by omega
      rw [ih (by omega), hq]
 · rfl
theorem ends_set {p : Span} (h : 0 ≤ p.lo ∧ p.lo ≤ p.hi ∧ p.hi ≤ 99) : endsTo (setOf p) 100 = p := by
 rw [endsTo_set h.1, if_pos (by omega)]
 cases p; simp only at h ⊢; simp only [Span.mk.injEq]; omega
theorem ends_none {p : Span} (h : ¬ p.lo ≤ p.hi) : ∀ n, endsTo (setOf p) n = ⟨100, -1⟩
 | 0 => rfl
 | n + 1 => by rw [endsTo, if_neg (by rw [setOf_iff]; omega), ends_none h n]
def endsV (s : Nat → Bool) : Value := .tuple #[spanVal (endsTo s 100), .bool (decide (0 ≤ (endsTo s 100).hi))]
set_option maxHeartbeats 2000000 in
set_option maxRecDepth 100000 in
theorem ends12_any (s : Nat → Bool) (w : World) : Calls Tryz.prog 69 #[setV s] w fun e w' => e = .returned (endsV s) ∧ Below w.heap.size w w' := by
 go_enter Tryz.func69, Tryz.ntmps69
 go_upto_region 2 with (fail)
 have hb : Below w.heap.size w (((w.alloc (.cells (setL s).toArray 95)).alloc (.cells #[.int .i64 0, .int .i64 0] 30)).alloc (.cells #[.int .i64 100, .int .i64 (-1)] 30)) := (((Below.refl _ _).alloc (Nat.le_refl _) _).alloc (by simp) _).alloc (by simp; omega) _
 have n0 : SetB (((w.alloc (.cells (setL s).toArray 95)).alloc (.cells #[.int .i64 0, .int .i64 0] 30)).alloc (.cells #[.int .i64 100, .int .i64 (-1)] 30)) w.heap.size s := (SetB.made.alloc _).alloc _
 have n1 : Blk (((w.alloc (.cells (setL s).toArray 95)).alloc (.cells #[.int .i64 0, .int .i64 0] 30)).alloc (.cells #[.int .i64 100, .int .i64 (-1)] 30)) (w.heap.size + 1) 30 #[.int .i64 0, .int .i64 0] := (Blk.made' (by simp)).alloc _
 have n2 : Blk (((w.alloc (.cells (setL s).toArray 95)).alloc (.cells #[.int .i64 0, .int .i64 0] 30)).alloc (.cells #[.int .i64 100, .int .i64 (-1)] 30)) (w.heap.size + 1 + 1) 30 #[.int .i64 100, .int .i64 (-1)] := Blk.made' (by simp)
 generalize (((w.alloc (.cells (setL s).toArray 95)).alloc (.cells #[.int .i64 0, .int .i64 0] 30)).alloc (.cells #[.int .i64 100, .int .i64 (-1)] 30)) = v at *
 have hz0 := n2.lt
 have N0 := hide n0
 have N1 := hide n1
 have N2 := hide n2
 have HB := hide hb
 clear n0 n1 n2 hb
 go_wp2_with fail
 go_loopw [5, 7, 8, 9, 10, 11, 12, 13, 14, 15, 16, 17] (fun v5 _ _ _ _ _ _ _ _ _ _ _ wr => ∃ j : Nat, j ≤ 100 ∧ v5 = .int .i64 j ∧ Hid (Blk wr (w.heap.size + 1 + 1) 30 #[.int .i64 (endsTo s j).lo, .int .i64 (endsTo s j).hi]) ∧ Hid (Keep (fun k => k = w.heap.size + 1 + 1) v wr)) (fun v5 _ _ _ _ _ _ _ _ _ _ _ _ => 100 - (intOf v5).toNat)
 case atStart => exact ⟨0, by omega, rfl, N2, hide (Keep.refl _ _)⟩
 case round =>
  obtain ⟨j, hj, rfl, HS, HK⟩ := hrel
  have hj0 : (0 : Int) ≤ (j : Int) := Int.natCast_nonneg _
  have r0 := HS.out.at_ 0
  have r1 := HS.out.at_ 1
  have f0 := HS.out.free 0
  have f1 := HS.out.free 1
  simp only [List.getElem?_toArray, List.getElem?_cons_zero, List.getElem?_cons_succ] at r0 r1
  have hzz := HS.out.lt
  by_cases hlt : j < 100
  · have hj9 : (j : Int) < 100 := by omega
    have x := (N0.out.keep HK.out (by omega)).cell hlt
    have HE := hide (show endsTo s (j + 1) = if s j then ⟨min (endsTo s j).lo j, max (endsTo s j).hi j⟩ else endsTo s j from rfl)
    generalize endsTo s j = p at *
    obtain ⟨p1, p2⟩ := p
    cases hsj : s j with
    | true =>
     rw [hsj] at x
     rw [hsj, if_pos rfl] at HE
     clear hsj
     go_wp2_with (go_at_call 97; refine (join_any ⟨p1, p2⟩ j wr).mono ?_; rintro e w1 ⟨rfl, hb1⟩; have r0 := (hb1.cell (p := ⟨w.heap.size + 1 + 1, 0, none⟩) hzz).trans r0; have r1 := (hb1.cell (p := ⟨w.heap.size + 1 + 1, 1, none⟩) hzz).trans r1; have HS1 := hide (HS.out.next hb1); have f0 := HS1.out.free 0; have f1 := HS1.out.free 1; have hzz := HS1.out.lt; have HK1 := hide (HK.out.trans (Keep.of_below' hb1 (fun k => k = w.heap.size + 1 + 1))); clear hb1; dsimp only)
     go_roundw
     case rel => exact ⟨j + 1, by omega, by go_num, hide (by rw [HE.out]; exact (HS1.out.store 0 _).store 1 _), hide ((HK1.out.trans (Keep.setCell _ _ _ _ rfl)).trans (Keep.setCell _ _ _ _ rfl))⟩
     case measure => simp [intOf]; omega
    | false =>
     rw [hsj] at x
     rw [hsj, if_neg (by simp)] at HE
     clear hsj
     go_wp2_with fail
     go_roundw
     case rel => exact ⟨j + 1, by omega, by go_num, hide (by rw [HE.out]; exact HS.out), HK⟩
     case measure => simp [intOf]; omega
  · obtain rfl : j = 100 := by omega
    have m1 := (N1.out.keep HK.out (by omega))
    have HM1 := hide m1
    have q0 := m1.free 0
    have q1 := m1.free 1
    have hz1 := m1.lt
    clear m1
    have HEV := hide (show endsV s = .tuple #[spanVal (endsTo s 100), .bool (decide (0 ≤ (endsTo s 100).hi))] from rfl)
    generalize endsTo s 100 = p at *
    obtain ⟨p1, p2⟩ := p
    have m2 := HM1.out.at_ 0
    have m3 := HM1.out.at_ 1
    simp only [List.getElem?_toArray, List.getElem?_cons_zero, List.getElem?_cons_succ] at m2 m3
    go_upto_region 7 with (fail)
    apply wp_one
    case h =>
     go_region
     all_goals exact ⟨rfl, rfl, rfl⟩
    case hq =>
    go_wp2_with fail
    have b1 : Blk (((wr.setCell ⟨w.heap.size + 1, 0, none⟩ (.int .i64 p1)).setCell ⟨w.heap.size + 1, 1, none⟩ (.int .i64 p2)).drew) (w.heap.size + 1) 30 #[.int .i64 p1, .int .i64 p2] := ((HM1.out.store 0 (.int .i64 p1)).store 1 (.int .i64 p2))
    have hks : Keep (fun k => k = w.heap.size + 1) wr (((wr.setCell ⟨w.heap.size + 1, 0, none⟩ (.int .i64 p1)).setCell ⟨w.heap.size + 1, 1, none⟩ (.int .i64 p2)).drew) := ((Keep.setCell _ _ _ (fun k => k = w.heap.size + 1) rfl).trans (Keep.setCell _ _ _ (fun k => k = w.heap.size + 1) rfl)).trans (Keep.of_below' ((Below.refl _ _).drew) _)
    have c0 := b1.at_ 0
    have c1 := b1.at_ 1
    simp only [List.getElem?_toArray, List.getElem?_cons_zero, List.getElem?_cons_succ] at c0 c1
    have hBB := (HB.out.trans (HK.out.below (fun k hk => by omega) (by have := HB.out.size; omega))).trans (hks.below (fun k hk => by omega) (by omega))
    generalize ((wr.setCell ⟨w.heap.size + 1, 0, none⟩ (.int .i64 p1)).setCell ⟨w.heap.size + 1, 1, none⟩ (.int .i64 p2)).drew = wz at *
    refine bodyPost_ret (v := .tuple #[spanVal ⟨p1, p2⟩, .bool (decide (0 ≤ p2))]) (by simp [results, Tryz.results69, go_sem, c0, c1]) rfl ⟨by rw [HEV.out], hBB⟩
end Go.Proofs.YtocdmkilnbpkdaaGreatDoor
