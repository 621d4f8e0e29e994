/- Contracts of Name (package hand), and of Name, Where and Fresh (reference 01). -/
import Derived.Test.YtocdmkilnbpkdaaGreatDoorZB
import Derived.IntWalk
set_option linter.unusedVariables false
set_option linter.unusedSimpArgs false
namespace Go.Proofs.YtocdmkilnbpkdaaGreatDoor
open Go.RowKit

theorem byteAt_eq {s : ByteArray} {i : Nat} (h : i < s.size) : byteAt s i = (s[i]'h).toNat := by
 have h' : i < s.data.size := h
 rw [byteAt, Array.getD_eq_getD_getElem?, Array.getElem?_eq_getElem h', Option.getD_some]; rfl
theorem below_iter {B : Nat} {w : World} (s : ByteArray) (pos : Nat) (h : B ≤ w.heap.size) : Below B w (w.iter s pos) := (Below.refl _ _).alloc h _
theorem nameB_bad {s : ByteArray} {k : Nat} (hk : k < s.size) (h : nameC (decide (0 < k)) (byteAt s k) = false) : nameB s = false := by
 rw [nameB, nameTo_false (k := k + 1) (by rw [nameTo_succ, h]; simp) (by omega)]; simp
set_option maxHeartbeats 2000000 in
set_option maxRecDepth 100000 in
theorem name_any (s : ByteArray) (w : World) : Calls Tryz.prog 59 #[.string s] w fun e w' => e = .returned (.bool (nameB s)) ∧ Below w.heap.size w w' := by
 go_enter Tryz.func59, Tryz.ntmps59
 go_wp2_with fail
 go_loopw [3, 4, 5] (fun _ _ _ wr => ∃ pos : Nat, wr = w.iter s pos ∧ pos ≤ s.size ∧ Hid (nameTo s pos = true)) (fun _ _ _ wr => s.size - wr.iterPos w.heap.size)
 case atStart => exact ⟨0, rfl, Nat.zero_le _, rfl⟩
 case round =>
  obtain ⟨pos, rfl, hps, HN⟩ := hrel
  by_cases hp : pos < s.size
  · have HBY := hide (byteAt_eq hp)
    have HNS := hide (nameTo_succ s pos)
    by_cases ha : (s[pos]'hp).toNat < 128
    · have hnx : ∀ ty, (Instr.next (.pointer (some ⟨w.heap.size, 0, none⟩)) true ty).run Tryz.prog (w.iter s pos) = _ := fun ty => run_next_ascii w s pos ty hp ha
      generalize (s[pos]'hp).toNat = c at *
      have hp0 : (0 : Int) ≤ (pos : Int) := Int.natCast_nonneg _
      have hc0 : (0 : Int) ≤ (c : Int) := Int.natCast_nonneg _
      by_cases h1 : 97 ≤ c ∧ c ≤ 122
      · have h1a : (97 : Int) ≤ (c : Int) := by omega
        have h1b : (c : Int) ≤ 122 := by omega
        have HG := hide (show nameC (decide (0 < pos)) c = true by simp [nameC, h1])
        clear h1
        go_wp2_with fail
        go_roundw
        case rel => exact ⟨pos + 1, rfl, by omega, by show _ = _; rw [HNS.out, HN.out, HBY.out, HG.out]; rfl⟩
        case measure => simp; omega
      · rcases (show (c : Int) < 97 ∨ 122 < (c : Int) by omega) with h2 | h2
        · have t1 := decide_eq_false (show ¬ (97 : Int) ≤ (c : Int) by omega)
          by_cases h0 : pos = 0
          · have h0' : ((pos : Int) == 0) = true := by rw [beq_iff_eq]; omega
            have HG := hide (show nameC (decide (0 < pos)) c = false by simp [nameC, h0]; omega)
            clear h1 h0
            go_wp2_with fail
            go_ret
            exact ⟨ret_b (nameB_bad hp (by rw [HBY.out, HG.out])).symm, below_iter _ _ (Nat.le_refl _)⟩
          · have h0' : ((pos : Int) == 0) = false := by rw [beq_eq_false_iff_ne]; omega
            by_cases h3 : c = 46
            · have h3' : ((c : Int) != 46) = false := by simp; omega
              have HG := hide (show nameC (decide (0 < pos)) c = true by simp [nameC, h3]; omega)
              clear h1 h0 h3
              go_wp2_with fail
              go_roundw
              case rel => exact ⟨pos + 1, rfl, by omega, by show _ = _; rw [HNS.out, HN.out, HBY.out, HG.out]; rfl⟩
              case measure => simp; omega
            · have h3' : ((c : Int) != 46) = true := by simp; omega
              by_cases h4 : 48 ≤ c ∧ c ≤ 57
              · have t3 := decide_eq_false (show ¬ (c : Int) < 48 by omega)
                have t4 := decide_eq_false (show ¬ (57 : Int) < (c : Int) by omega)
                have HG := hide (show nameC (decide (0 < pos)) c = true by simp [nameC, h4]; omega)
                clear h1 h0 h3 h4
                go_wp2_with fail
                go_roundw
                case rel => exact ⟨pos + 1, rfl, by omega, by show _ = _; rw [HNS.out, HN.out, HBY.out, HG.out]; rfl⟩
                case measure => simp; omega
              · have HG := hide (show nameC (decide (0 < pos)) c = false by simp [nameC]; omega)
                rcases (show (c : Int) < 48 ∨ 57 < (c : Int) by omega) with h5 | h5
                · have t3 := decide_eq_true (show (c : Int) < 48 by omega)
                  clear h1 h0 h3 h4
                  go_wp2_with fail
                  go_ret
                  exact ⟨ret_b (nameB_bad hp (by rw [HBY.out, HG.out])).symm, below_iter _ _ (Nat.le_refl _)⟩
                · have t3 := decide_eq_false (show ¬ (c : Int) < 48 by omega)
                  have t4 := decide_eq_true (show (57 : Int) < (c : Int) by omega)
                  clear h1 h0 h3 h4
                  go_wp2_with fail
                  go_ret
                  exact ⟨ret_b (nameB_bad hp (by rw [HBY.out, HG.out])).symm, below_iter _ _ (Nat.le_refl _)⟩
        · have h3' : ((c : Int) != 46) = true := by simp; omega
          have t1 := decide_eq_true (show (97 : Int) ≤ (c : Int) by omega)
          have t2 := decide_eq_false (show ¬ (c : Int) ≤ 122 by omega)
          have t3 := decide_eq_false (show ¬ (c : Int) < 48 by omega)
          have t4 := decide_eq_true (show (57 : Int) < (c : Int) by omega)
          have HG := hide (show nameC (decide (0 < pos)) c = false by simp [nameC]; omega)
          cases h0' : ((pos : Int) == 0)
          all_goals
           clear h1
           go_wp2_with fail
           go_ret
           exact ⟨ret_b (nameB_bad hp (by rw [HBY.out, HG.out])).symm, below_iter _ _ (Nat.le_refl _)⟩
    · have hnx : ∀ ty, (Instr.next (.pointer (some ⟨w.heap.size, 0, none⟩)) true ty).run Tryz.prog (w.iter s pos) = _ := fun ty => run_next_any w s pos ty hp
      have hd := (decode_high s pos hp (by omega)).1
      have HG := hide (show nameC (decide (0 < pos)) (byteAt s pos) = false by rw [HBY.out]; simp [nameC]; omega)
      generalize (Utf8.decode s pos).1 = r at *
      generalize (Utf8.decode s pos).2 = wd at *
      have t1 := decide_eq_true (show (97 : Int) ≤ (r : Int) by omega)
      have t2 := decide_eq_false (show ¬ (r : Int) ≤ 122 by omega)
      have t3 := decide_eq_false (show ¬ (r : Int) < 48 by omega)
      have t4 := decide_eq_true (show (57 : Int) < (r : Int) by omega)
      have h3' : ((r : Int) != 46) = true := by simp; omega
      cases h0' : ((pos : Int) == 0)
      all_goals
       clear ha
       go_wp2_with fail
       go_ret
       exact ⟨ret_b (nameB_bad hp HG.out).symm, below_iter _ _ (Nat.le_refl _)⟩
  · have hnx : ∀ ty, (Instr.next (.pointer (some ⟨w.heap.size, 0, none⟩)) true ty).run Tryz.prog (w.iter s pos) = _ := fun ty => run_next_end w s pos ty hp
    have hpe : pos = s.size := by omega
    subst hpe
    go_wp2_with (go_at_call 92; refine (hoff_1 (by simp) _ _ _).mono ?_; rintro e w' ⟨rfl, hb⟩)
    go_ret
    refine ⟨ret_b ?_, (below_iter _ _ (Nat.le_refl _)).trans (hb.mono (below_iter (B := w.heap.size) _ _ (Nat.le_refl _)).size)⟩
    rw [nameB, HN.out, Bool.and_true, Bool.eq_iff_iff]
    simp [offP]; omega
set_option maxHeartbeats 2000000 in
set_option maxRecDepth 100000 in
theorem name7_any (s : ByteArray) (hs : s.size ≤ maxLen) (w : World) : Calls Tryz.prog 96 #[.string s] w fun e w' => e = .returned (.bool (nameB s)) ∧ w = w' := by
 unfold maxLen at hs
 go_enter Tryz.func96, Tryz.ntmps96
 go_wp2_with (go_at_call 56; refine (in_any _ _ _ _).mono ?_; rintro e w' ⟨rfl, rfl⟩)
 go_loop [3, 4, 5] (fun fi i _ => ∃ k : Nat, k ≤ s.size ∧ i = .int .i64 k ∧ fi = .bool (inB s.size 1 16 && nameTo s k)) (fun _ i _ => s.size - (intOf i).toNat)
 case atStart => exact ⟨0, Nat.zero_le _, rfl, by simp [nameTo]⟩
 case round =>
  obtain ⟨k, hk, rfl, rfl⟩ := hrel
  have hk0 : (0 : Int) ≤ (k : Int) := Int.natCast_nonneg _
  by_cases hlt : k < s.size
  · have hk1 : (k : Int) < (s.size : Int) := by omega
    have HBY := hide (byteAt_eq hlt)
    have HNS := hide (nameTo_succ s k)
    have hcb : byteAt s k < 256 := by rw [byteAt_eq hlt]; exact UInt8.toNat_lt _
    have hix : ∀ w, (Instr.index 9 (.string s) (.int .i64 (k : Int))).run Tryz.prog w = .ok (.int .u8 (byteAt s k : Int)) w := fun w => by
     rw [run_index_string _ _ _ _ _ Tryz.underlying9, dif_pos ⟨hk0, hk1⟩, byteAt_eq hlt]; simp
    have HNC := hide (show nameC (decide (0 < k)) (byteAt s k) = (inB (byteAt s k : Int) 97 122 || (decide ((k : Int) > 0) && (((byteAt s k : Int) == 46) || inB (byteAt s k : Int) 48 57))) by
     rw [nameC, inB, inB]
     have e1 : decide (97 ≤ byteAt s k ∧ byteAt s k ≤ 122) = decide (97 ≤ (byteAt s k : Int) ∧ (byteAt s k : Int) ≤ 122) := by rw [decide_eq_decide]; omega
     have e2 : decide (48 ≤ byteAt s k ∧ byteAt s k ≤ 57) = decide (48 ≤ (byteAt s k : Int) ∧ (byteAt s k : Int) ≤ 57) := by rw [decide_eq_decide]; omega
     have e3 : decide (byteAt s k = 46) = ((byteAt s k : Int) == 46) := by rw [Bool.eq_iff_iff]; simp; omega
     have e4 : decide (0 < k) = decide ((k : Int) > 0) := by rw [decide_eq_decide]; omega
     rw [e1, e2, e3, e4])
    generalize byteAt s k = c at *
    have hw : IntKind.i64.wrap (c : Int) = c := IntWalk.i64_in _ (by omega)
    rcases (show 0 < k ∨ ¬ 0 < k by omega) with h0' | h0'
    all_goals have h0 : decide ((k : Int) > 0) = decide (0 < k) := by rw [decide_eq_decide]; omega
    all_goals first | rw [decide_eq_true h0'] at h0 | rw [decide_eq_false h0'] at h0
    all_goals cases h46 : ((c : Int) == 46)
    all_goals cases hf : (inB s.size 1 16 && nameTo s k)
    all_goals cases hA : inB (c : Int) 97 122
    all_goals
     have HF := hide hf
     rw [hA, h0, h46] at HNC
     clear hf h0
     go_wp2_with (go_at_call 56; refine (in_any _ _ _ _).mono ?_; rintro e w' ⟨rfl, rfl⟩; try rw [hA])
     go_round
     case rel => exact ⟨k + 1, by omega, by go_num, by rw [HNS.out, ← Bool.and_assoc, HF.out, HNC.out]; simp⟩
     case measure => simp [intOf]; omega
  · have hke : k = s.size := by omega
    subst hke
    go_wp2
    go_ret
    refine ⟨ret_b ?_, rfl⟩
    rw [nameB, inB]; congr 1; rw [decide_eq_decide]; omega
/-- The first index at which the reference finds a string. -/
theorem where7_any {A : Option Addr} {n c B : Nat} {xs : List ByteArray} {w : World} (h : Row w B A n (strsF xs)) (hl : n ≤ xs.length) (hm : n ≤ 9223372036854775807) (v : ByteArray) :
 Calls Tryz.prog 88 #[.slice A n c, .string v] w fun e w' => e = .returned (.int .i64 (idxS (xs.take n) v)) ∧ w = w' := by
 have hnt : ∀ k, k < n → nth (xs.take n) k = nth xs k := fun k hk => by simp [nth, hk]
 have HNT := hide hnt
 clear hnt
 go_enter Tryz.func88, Tryz.ntmps88
 go_wp2_with fail
 go_loop [5] (fun i => ∃ j : Nat, j ≤ n ∧ i = .int .i64 j ∧ Hid (∀ k, k < j → eqS v (nth xs k) = false)) (fun i => n - (intOf i).toNat)
 case atStart => exact ⟨0, Nat.zero_le _, rfl, fun k hk => by omega⟩
 case round =>
  obtain ⟨j, hj, rfl, H⟩ := hrel
  have hj0 : (0 : Int) ≤ (j : Int) := Int.natCast_nonneg _
  by_cases hlt : j < n
  · have hj1 : (j : Int) < (n : Int) := by omega
    have hj2 : ((j : Int) == (n : Int)) = false := by rw [beq_eq_false_iff_ne]; omega
    obtain ⟨b, off, rfl, hb, hc⟩ := h.strs hlt
    cases hq : eqS v (nth xs j) with
    | true =>
     have hq' : ((nth xs j).toList == v.toList) = true := by rw [eqS_comm] at hq; exact hq
     have hq2 : ((nth xs j).toList != v.toList) = false := by simp [bne, hq']
     have HQ := hide hq
     clear hq
     go_wp2_with fail
     go_ret
     exact ⟨ret_i (idxS_hit (by simp; omega) (by rw [HNT.out j hlt]; exact HQ.out) (fun k hk => by rw [HNT.out k (by omega)]; exact H.out k hk)).symm, rfl⟩
    | false =>
     have hq' : ((nth xs j).toList == v.toList) = false := by rw [eqS_comm] at hq; exact hq
     have hq2 : ((nth xs j).toList != v.toList) = true := by simp [bne, hq']
     have HQ := hide hq
     clear hq
     go_wp2_with fail
     go_round
     case rel => exact ⟨j + 1, by omega, by go_num, fun k hk => by
      rcases Nat.lt_or_ge k j with h1 | h1
      · exact H.out k h1
      · rw [show k = j by omega]; exact HQ.out⟩
     case measure => simp [intOf]; omega
  · have hje : j = n := by omega
    subst hje
    have hj2 : ((j : Int) == (j : Int)) = true := by simp
    have hj3 : decide ((j : Int) < (j : Int)) = false := by simp
    go_wp2
    go_ret
    exact ⟨ret_i (idxS_miss (fun k hk => by
     have hk' : k < j := by simp at hk; omega
     rw [HNT.out k hk']; exact H.out k (by omega))).symm, rfl⟩
theorem fresh7_any {A : Option Addr} {n c B : Nat} {xs : List ByteArray} {w : World} (h : Row w B A n (strsF xs)) (hl : n ≤ xs.length) (hm : n ≤ 9223372036854775807) (v : ByteArray) (hs : v.size ≤ maxLen) :
 Calls Tryz.prog 65 #[.string v, .slice A n c] w fun e w' => e = .returned (.int .i64 (if nameB v then (if (xs.take n).any (eqS v) then 5 else 0) else 6)) ∧ w = w' := by
 have HW := hide (where7_any (c := c) h hl hm v)
 have HN := hide (name7_any v hs w)
 have HI := hide (idxS_any (xs.take n) v)
 generalize (xs.take n).any (eqS v) = tw at *
 generalize idxS (xs.take n) v = ix at *
 cases hb : nameB v
 all_goals cases tw
 all_goals
  have HB := hide hb
  have hi := HI.out
  have hi2 : decide (ix ≥ 0) = _ := hi
  clear hb
  go_enter Tryz.func65, Tryz.ntmps65
  go_wp2_with (first | (go_at_call 88; refine HW.out.mono ?_; rintro e w' ⟨rfl, rfl⟩) | (go_at_call 96; refine HN.out.mono ?_; rintro e w' ⟨rfl, rfl⟩; rw [HB.out]))
  go_ret
  exact ⟨rfl, rfl⟩
end Go.Proofs.YtocdmkilnbpkdaaGreatDoor
