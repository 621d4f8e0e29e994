/- Contracts of claim's list. -/
import Derived.Test.YtllmahcanipcpaaNF
set_option linter.unusedVariables false
set_option linter.unusedSimpArgs false
namespace Go.Proofs.Ytllmahcanipcpaa
open Go.RowKit
attribute [local go_sem ↓] Go.wp_at_zero Go.wp_at_succ

def listN (set many : Nat) : List Nat := (List.range many).filter fun i => set.testBit i
theorem listN_succ (set k : Nat) : listN set (k + 1) = listN set k ++ if set.testBit k then [k] else [] := by
  simp only [listN, List.range_succ, List.filter_append, List.filter_cons, List.filter_nil]
theorem listN_le (set k : Nat) : (listN set k).length ≤ k := by simpa [listN] using List.length_filter_le (fun i => set.testBit i) (List.range k)
/-- The row of list, when j numbers have been looked at. -/
def rowN (set many j : Nat) : List Int := natInts (listN set j) ++ List.replicate (many - (listN set j).length) 0
theorem rowN_set {set many j : Nat} (hj : j < many) (h : set.testBit j = true) : (rowN set many j).set (listN set j).length (j : Int) = rowN set many (j + 1) := by
  have hl := listN_le set j
  rw [rowN, rowN, listN_succ, h, if_pos rfl, List.set_append_right _ _ (by simp [natInts])]
  simp only [natInts, List.length_map, Nat.sub_self, List.map_append, List.map_cons, List.map_nil, List.length_append, List.length_cons, List.length_nil, List.append_assoc]
  congr 1
  rw [show many - (listN set j).length = (many - ((listN set j).length + (0 + 1))) + 1 by omega, List.replicate_succ]
  rfl
theorem rowN_same {set many j : Nat} (h : set.testBit j = false) : rowN set many (j + 1) = rowN set many j := by
  rw [rowN, rowN, listN_succ, h]; simp
theorem OwnI.part {w : World} {base g n cap : Nat} {xs ys : List Int} (h : OwnI w base g n cap (xs ++ ys)) : IntsS w w.heap.size (some ⟨g, 0, none⟩) xs.length cap xs := by
  have hi := h.ints
  have hl := h.len
  rw [List.length_append] at hl
  refine ⟨rfl, by have := hi.cap; omega, hi.max, fun hm => ?_⟩
  obtain ⟨b, off, e, hb, hc⟩ := hi.row (by omega)
  refine ⟨b, off, e, hb, fun j hj => ?_⟩
  rw [hc j (by omega), intsF, intsF, nth_app', if_pos hj]
set_option maxHeartbeats 1600000 in
set_option maxRecDepth 100000 in
theorem list_any {set many : Nat} (hs : set < 32) (hm : many ≤ 5) (w : World) :
    Calls Try.prog 51 #[.int .i64 set, .int .i64 many] w fun e w' =>
      ∃ g c, e = .returned (.slice (some ⟨g, 0, none⟩) (listN set many).length c) ∧ IntsS w' w'.heap.size (some ⟨g, 0, none⟩) (listN set many).length c (natInts (listN set many)) ∧ w.heap.size ≤ g ∧ Below w.heap.size w w' := by
  obtain ⟨i0, hi, hz0, hz1, hz2⟩ := info_parts Try.infoInt
  go_enter Try.func51, Try.ntmps51
  go_wp2_with (first
    | (at_make
       go_must (refine wpList_make_full _ rfl _ _ 23 rfl w.heap.size 3 i0 (.int .i64 0) 1 Try.underlying23 hi hz0 hz1 _ _ _ _ many rfl rfl rfl rfl (by rw [hz2]; omega) (by simp [maxLen]; omega) (by simp) ?_)
       intro wm hown1 hg1
       have hbm := (Below.refl w.heap.size _).grown hg1 (by simp) (by simp)
       have hO1 : OwnI wm w.heap.size w.heap.size many many (List.replicate many 0) := by simpa [OwnI, Value.cells, toList_madeCells_one] using hown1))
  go_loopw [6, 7, 11] (fun v6 _ v11 wr => ∃ j : Nat, j ≤ many ∧ v11 = .int .i64 j ∧ v6 = .int .i64 ((listN set j).length : Nat) ∧ Below w.heap.size w wr ∧ Hid (OwnI wr w.heap.size w.heap.size many many (rowN set many j))) (fun _ _ v11 _ => many - (intOf v11).toNat)
  case atStart => exact ⟨0, Nat.zero_le _, rfl, rfl, hbm, hide (by simpa [rowN, listN, natInts] using hO1)⟩
  case round =>
    obtain ⟨j, hj, rfl, rfl, hB, HO⟩ := hrel
    have hj0 : (0 : Int) ≤ (j : Int) := Int.natCast_nonneg _
    have hle := listN_le set j
    by_cases hlt : j < many
    · have hj1 : (j : Int) < (many : Int) := by omega
      have hba := bits_and hs (show j < 5 by omega)
      have hsz := hB.size
      cases hb : set.testBit j with
      | true =>
        rw [hb, if_pos rfl] at hba
        have HR := hide (rowN_set hlt hb)
        have HL := hide (show (listN set (j + 1)).length = (listN set j).length + 1 by rw [listN_succ, hb]; simp)
        generalize (listN set j).length = m at *
        have hm0 : (0 : Int) ≤ (m : Int) := Int.natCast_nonneg _
        have hm1 : (m : Int) ≤ (many : Int) := by omega
        clear hb
        have hA : Below w.heap.size w (wr.alloc (.cells #[.int .i64 (j : Int)] 3)) := hB.alloc hsz _
        have hO2 : OwnI (wr.alloc (.cells #[.int .i64 (j : Int)] 3)) w.heap.size w.heap.size many many (rowN set many j) := HO.out.block (Below.heap_alloc _ _ _ HO.out.lt.2)
        have hcp : (Builtin.copy_ #[23, 23] 3 #[.slice (some ⟨w.heap.size, m, none⟩) (many - m) (many - m), .slice (some ⟨wr.heap.size, 0, none⟩) 1 1]).run Try.prog (wr.alloc (.cells #[.int .i64 (j : Int)] 3)) = .ok (.int .i64 1) ((wr.alloc (.cells #[.int .i64 (j : Int)] 3)).setCell ⟨w.heap.size, m, none⟩ (.int .i64 (j : Int))) := by
          have hmin : Nat.min 1 (many - m) = 1 := Nat.min_eq_left (by omega)
          have hc : (wr.alloc (.cells #[.int .i64 (j : Int)] 3)).cell? ⟨w.heap.size, m, none⟩ = some (.int .i64 (nth (rowN set many j) m)) := hO2.cell (by omega)
          have := run_copy_k (P := Try.prog) (wr.alloc (.cells #[.int .i64 (j : Int)] 3)) 23 23 3 3 1 w.heap.size m (many - m) (many - m) (some ⟨w.heap.size, m, none⟩) (some ⟨wr.heap.size, 0, none⟩) 1 1 [.int .i64 (j : Int)] Try.underlying23 (by kernel_rfl) (by rw [hmin]; rfl)
            (fun _ => ⟨rfl, _, rfl, cell_one_new _ _ _⟩)
            (fun k hk => by obtain rfl : k = 0 := by simpa using hk
                            rw [Nat.add_zero, hc]; rfl)
            (fun k _ => hO2.frozen _) (fun v hv => by simp at hv; subst hv; rfl)
          rw [hmin] at this
          exact this
        have hO3 := hO2.set m (j : Int)
        have hA3 : Below w.heap.size w ((wr.alloc (.cells #[.int .i64 (j : Int)] 3)).setCell ⟨w.heap.size, m, none⟩ (.int .i64 (j : Int))) := hA.setCell (Nat.le_refl _) _
        have HO3 := hide hO3
        have HA3 := hide hA3
        clear hA hO2 hO3 hA3
        go_wp2_with fail
        go_roundw
        case rel => exact ⟨j + 1, by omega, by go_num, by rw [HL.out]; go_num, HA3.out, hide (by rw [← HR.out]; exact HO3.out)⟩
        case measure => simp [intOf]; omega
      | false =>
        rw [hb, if_neg (by simp)] at hba
        have HR := hide (rowN_same (many := many) hb)
        have HL := hide (show (listN set (j + 1)).length = (listN set j).length by rw [listN_succ, hb]; simp)
        clear hb
        go_wp2_with fail
        go_roundw
        case rel => exact ⟨j + 1, by omega, by go_num, by rw [HL.out], hB, hide (by rw [HR.out]; exact HO.out)⟩
        case measure => simp [intOf]; omega
    · obtain rfl : j = many := by omega
      have hm0 : (0 : Int) ≤ ((listN set j).length : Int) := Int.natCast_nonneg _
      have hm1 : ((listN set j).length : Int) ≤ (j : Int) := by omega
      go_wp2_with fail
      go_ret
      have hp := OwnI.part HO.out
      rw [natInts_length] at hp
      exact ⟨_, _, rfl, hp, Nat.le_refl _, hB⟩
end Go.Proofs.Ytllmahcanipcpaa
