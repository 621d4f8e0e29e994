/- The reader's need and number. -/
import Derived.Test.YtocdmkilnbpkdaaGreatDoorYF
import Derived.Test.YtocdmkilnbpkdaaGreatDoorVD
import Derived.OwnWalkIn
import Derived.Laws.EntriesVeiled
import Derived.Laws.RangeString
import Derived.Laws.RangeAny
import Derived.WalkLawsBesides
import Derived.WalkSmall
import Derived.TacticsInMore
import Derived.Deep.DeepCutAuto
set_option linter.unusedVariables false
set_option linter.unusedSimpArgs false
namespace Go.Proofs.YtocdmkilnbpkdaaGreatDoor
open Go.RowKit
attribute [local go_sem] Oper.semAt_some

/-- What a reader panics with. -/
abbrev BAD : List PanicEntry := [{ v := .iface 109 (.agg #[]), recovered := false }]
theorem need_true (w : World) : Calls Tryz.prog 84 #[.bool true] w fun e w' => e = .returned (.tuple #[]) ∧ w' = w := by
 go_enter Tryz.func84, Tryz.ntmps84
 go_wp2
 go_end0
 exact ⟨rfl, rfl⟩
theorem need_false (w : World) : Calls Tryz.prog 84 #[.bool false] w fun e w' => e = .panicked BAD ∧ w' = w := by
 go_enter Tryz.func84, Tryz.ntmps84
 go_wp2
 exact ⟨rfl, rfl, rfl⟩
/-- How what is asked of a word ends: with its value, or with a panic. -/
def NumE (o : Option Nat) (e : Ending) : Prop := match o with | some n => e = .returned (.int .i64 (n : Int)) | none => e = .panicked BAD
theorem numL_bd : ∀ (l : List UInt8) (n m : Nat), numL l n = some m → m < (n + 1) * 10 ^ l.length
 | [], n, m, h => by simp [numL] at h; subst h; simp
 | c :: l, n, m, h => by
  rw [numL] at h
  split at h
  · rename_i hd
    have := numL_bd l _ m h
    have hc : c.toNat - 48 ≤ 9 := by simp [digB] at hd; omega
    rw [List.length_cons, Nat.pow_succ]
    have h2 : (10 * n + (c.toNat - 48) + 1) * 10 ^ l.length ≤ (10 * (n + 1)) * 10 ^ l.length := Nat.mul_le_mul_right _ (by omega)
    have h3 : (10 * (n + 1)) * 10 ^ l.length = (n + 1) * (10 ^ l.length * 10) := by rw [Nat.mul_comm 10, Nat.mul_assoc, Nat.mul_comm 10]
    omega
  · simp at h
set_option maxHeartbeats 1000000 in
set_option maxRecDepth 100000 in
theorem number_any (r : Value) (s : ByteArray) (w : World) (hs : s.size ≤ 4294967281) :
 Calls Tryz.prog 119 #[r, .string s] w fun e w' => NumE (numP s) e ∧ Below w.heap.size w w' := by
 by_cases h1 : 1 ≤ s.size ∧ s.size < 4
 · have HP := hide (show numP s = numL s.data.toList 0 from if_pos h1)
   have hl : s.toList.length = s.size := by rw [Lib.toList_data]; rfl
   have hnn : ¬ s.toList = [] := fun h => by rw [h] at hl; simp at hl; omega
   have hne : s.toList.isEmpty = false := by simpa using hnn
   have h4 : (s.size : Int) < 4 := by omega
   obtain ⟨hp1, hp2⟩ := h1
   go_enter Tryz.func119, Tryz.ntmps119
   go_wp2_with (go_at_call 84; refine (need_true _).mono ?_; rintro e w1 ⟨rfl, rfl⟩)
   go_loopw [4, 6, 17, 18, 19, 20, 21, 22, 23, 24, 25, 26, 27, 28, 29, 30, 31, 32] (fun n _ _ _ _ _ _ _ _ _ _ _ _ _ _ _ _ _ wr => ∃ (pos m : Nat), pos ≤ s.size ∧ wr = w1.iter s pos ∧ n = .int .i64 (m : Nat) ∧ ((pos = 0 ∧ m = 0) ∨ (pos = 1 ∧ m ≤ 9) ∨ (pos = 2 ∧ m ≤ 99) ∨ (pos = 3 ∧ m ≤ 999)) ∧ Hid (numL (s.data.toList.drop pos) m = numL s.data.toList 0)) (fun n _ _ _ _ _ _ _ _ _ _ _ _ _ _ _ _ _ wr => s.size - wr.iterPos w1.heap.size)
   case atStart => exact ⟨0, 0, Nat.zero_le _, rfl, rfl, .inl ⟨rfl, rfl⟩, rfl⟩
   case round =>
    obtain ⟨pos, m, hps, rfl, rfl, hm, HN⟩ := hrel
    have hit : (w1.iter s pos).iterPos w1.heap.size = pos := iterPos_of (World.iter_heap w1 s pos)
    by_cases hp : pos < s.size
    · have hm99 : m ≤ 99 := by omega
      have hdrop : s.data.toList.drop pos = s[pos]'hp :: s.data.toList.drop (pos + 1) := List.drop_eq_getElem_cons (l := s.data.toList) (i := pos) hp
      have HS := hide (show numL (s.data.toList.drop pos) m = if digB (s[pos]'hp) then numL (s.data.toList.drop (pos + 1)) (10 * m + ((s[pos]'hp).toNat - 48)) else none by rw [hdrop, numL])
      clear hdrop
      cases hd : digB (s[pos]'hp) with
      | true =>
       have hd2 : 48 ≤ (s[pos]'hp).toNat ∧ (s[pos]'hp).toNat ≤ 57 := by simpa [digB] using hd
       have hnx : ∀ ty, (Instr.next (.pointer (some ⟨w1.heap.size, 0, none⟩)) true ty).run Tryz.prog (w1.iter s pos) = _ := fun ty => run_next_ascii w1 s pos ty hp (by omega)
       rw [hd, if_pos rfl] at HS
       generalize (s[pos]'hp).toNat = c at *
       obtain ⟨hc1, hc2⟩ := hd2
       have hc1' : (48 : Int) ≤ (c : Int) := by omega
       have hc2' : (c : Int) ≤ 57 := by omega
       go_wp2_with (go_at_call 84; refine (need_true _).mono ?_; rintro e w2 ⟨rfl, rfl⟩)
       refine ⟨⟨pos + 1, 10 * m + (c - 48), by omega, rfl, congrArg (Value.int .i64) (by omega), by omega, hide (HS.out.symm.trans HN.out)⟩, ?_⟩
       rw [hit, iterPos_of (World.iter_heap w1 s (pos + 1))]
       omega
      | false =>
       have hd2 : (s[pos]'hp).toNat < 48 ∨ 57 < (s[pos]'hp).toNat := by simp [digB] at hd; omega
       obtain ⟨rv, p2, hnx, hr⟩ : ∃ rv p2 : Nat, (∀ ty, (Instr.next (.pointer (some ⟨w1.heap.size, 0, none⟩)) true ty).run Tryz.prog (w1.iter s pos) = .ok (.tuple #[.bool true, .int .i64 pos, .int .i32 (rv : Nat)]) (w1.iter s p2)) ∧ (rv < 48 ∨ 57 < rv) := by
        by_cases ha : (s[pos]'hp).toNat < 128
        · exact ⟨_, _, fun ty => run_next_ascii w1 s pos ty hp ha, hd2⟩
        · exact ⟨_, _, fun ty => run_next_any w1 s pos ty hp, .inr (by have := (decode_high s pos hp (by omega)).1; omega)⟩
       rw [hd, if_neg (by decide)] at HS
       have HE := hide (show numP s = none from HP.out.trans (HN.out.symm.trans HS.out))
       clear hd hd2
       rcases hr with hr | hr
       · have hr' : (rv : Int) < 48 := by omega
         have hr2 : ¬ (48 : Int) ≤ (rv : Int) := by omega
         go_wp2_with (go_at_call 84; refine (need_false _).mono ?_; rintro e w2 ⟨rfl, rfl⟩)
         exact ⟨rfl, by rw [HE.out]; rfl, (Below.refl _ w1).alloc (Nat.le_refl _) _⟩
       · have hr' : (48 : Int) ≤ (rv : Int) := by omega
         have hr2 : ¬ (rv : Int) ≤ 57 := by omega
         go_wp2_with (go_at_call 84; refine (need_false _).mono ?_; rintro e w2 ⟨rfl, rfl⟩)
         exact ⟨rfl, by rw [HE.out]; rfl, (Below.refl _ w1).alloc (Nat.le_refl _) _⟩
    · have hnx : ∀ ty, (Instr.next (.pointer (some ⟨w1.heap.size, 0, none⟩)) true ty).run Tryz.prog (w1.iter s pos) = _ := fun ty => run_next_end w1 s pos ty hp
      have HE := hide (show numP s = some m by rw [HP.out, ← HN.out, List.drop_of_length_le (by show s.size ≤ pos; omega)]; rfl)
      go_wp2
      go_ret
      exact ⟨by rw [HE.out]; rfl, (Below.refl _ w1).alloc (Nat.le_refl _) _⟩
 · have HP := hide (show numP s = none from if_neg h1)
   have hl : s.toList.length = s.size := by rw [Lib.toList_data]; rfl
   by_cases h0 : s.size = 0
   · have hnn : s.toList = [] := List.length_eq_zero_iff.1 (by omega)
     have hne : s.toList.isEmpty = true := by rw [hnn]; rfl
     go_enter Tryz.func119, Tryz.ntmps119
     go_wp2_with (go_at_call 84; refine (need_false _).mono ?_; rintro e w1 ⟨rfl, rfl⟩)
     exact ⟨rfl, by rw [HP.out]; rfl, Below.refl _ _⟩
   · have hnn : ¬ s.toList = [] := fun h => by rw [h] at hl; simp at hl; omega
     have hne : s.toList.isEmpty = false := by simpa using hnn
     have h4 : ¬ (s.size : Int) < 4 := by omega
     go_enter Tryz.func119, Tryz.ntmps119
     go_wp2_with (go_at_call 84; refine (need_false _).mono ?_; rintro e w1 ⟨rfl, rfl⟩)
     exact ⟨rfl, by rw [HP.out]; rfl, Below.refl _ _⟩
end Go.Proofs.YtocdmkilnbpkdaaGreatDoor
