/- The hand of a text: the program's Hand, the reference's Goes, the law AgentHands (Awake's answer is its condition). -/
import Derived.Test.YtkaahiddngmdbaaGreatDoorAH
import Derived.Deep.DeepCutAuto
import Derived.OwnWalkIn
import Derived.TacticsInMore
import Derived.Laws.IdiomStrings
import Derived.Laws.Concat
set_option linter.unusedVariables false
set_option linter.unusedSimpArgs false
namespace Go.Proofs.YtkaahiddngmdbaaGreatDoor
open Go.RowKit

def byteAt (s : ByteArray) (i : Nat) : Nat := (s.data.getD i 0).toNat
theorem byteAt_eq {s : ByteArray} {i : Nat} (h : i < s.size) : byteAt s i = (s[i]'h).toNat := by
 have h' : i < s.data.size := h
 rw [byteAt, Array.getD_eq_getD_getElem?, Array.getElem?_eq_getElem h', Option.getD_some]; rfl
def handS (n : Int) (s : ByteArray) (i : Nat) : Int := handTo n (s.data.toList.take i)
theorem handS_next (n : Int) (s : ByteArray) (i : Nat) (h : i < s.size) : handS n s (i + 1) = (31 * handS n s i + byteAt s i) % 9973 := by
 have h' : i < s.data.toList.length := h
 rw [handS, handS, List.take_succ_eq_append_getElem h', handTo_snoc, byteAt_eq h]
 rfl
theorem handS_all (n : Int) (s : ByteArray) (i : Nat) (h : i = s.size) : handS n s i = handTo n s.data.toList := by
 subst h
 rw [handS, List.take_of_length_le (show s.data.toList.length ≤ s.size from Nat.le_refl _)]
theorem handS_bd {n : Int} (hn : 0 ≤ n ∧ n ≤ 9972) (s : ByteArray) (i : Nat) : 0 ≤ handS n s i ∧ handS n s i ≤ 9972 := handTo_bd hn
theorem byteAt_lt (s : ByteArray) (i : Nat) : byteAt s i < 256 := UInt8.toNat_lt _
set_option maxHeartbeats 1000000 in
set_option maxRecDepth 100000 in
theorem goes_any {n : Int} (hn : 0 ≤ n ∧ n ≤ 9972) (s : ByteArray) (hs : s.size ≤ 4611686018427387904) (w : World) :
 Calls Tryz.prog 19 #[.int .i64 n, .string s] w fun e w' => e = .returned (.int .i64 (handTo n s.data.toList)) ∧ w = w' := by
 have HN := hide (handS_next n s)
 have HA := hide (handS_all n s)
 have HB := hide (handS_bd hn s)
 have H0 := hide (show handS n s 0 = n from rfl)
 clear hn
 go_enter Tryz.func19, Tryz.ntmps19
 go_wp2_with fail
 go_loopw [0, 5] (fun v0 v5 wr => (∃ i : Nat, i ≤ s.size ∧ v5 = .int .i64 i ∧ v0 = .int .i64 (handS n s i)) ∧ w = wr) (fun _ v5 _ => s.size - (intOf v5).toNat)
 case atStart => exact ⟨⟨0, by omega, rfl, by rw [H0.out]⟩, rfl⟩
 case round =>
  obtain ⟨⟨i, hi, rfl, rfl⟩, rfl⟩ := hrel
  have hi0 : (0 : Int) ≤ (i : Int) := Int.natCast_nonneg _
  by_cases hlt : i < s.size
  · have hi1 : (i : Int) < (s.size : Int) := by omega
    have hix : ∀ w, (Instr.index 9 (.string s) (.int .i64 (i : Int))).run Tryz.prog w = .ok (.int .u8 (byteAt s i : Int)) w := fun w => by
     rw [run_index_string _ _ _ _ _ Tryz.underlying9, dif_pos ⟨hi0, hi1⟩, byteAt_eq hlt]; simp
    have hb := byteAt_lt s i
    have hh := HB.out i
    have HX := hide (HN.out i hlt)
    generalize handS n s i = h at *
    generalize byteAt s i = c at *
    have hw1 : IntKind.i64.wrap (31 * h) = 31 * h := IntWalk.i64_in _ (by omega)
    have hw2 : IntKind.i64.wrap (c : Int) = c := IntWalk.i64_in _ (by omega)
    have hw3 : IntKind.i64.wrap (31 * h + c) = 31 * h + c := IntWalk.i64_in _ (by omega)
    have hr : (31 * h + (c : Int)).tmod 9973 = (31 * h + c) % 9973 := Int.tmod_eq_emod_of_nonneg (by omega)
    have hw4 : IntKind.i64.wrap ((31 * h + (c : Int)) % 9973) = (31 * h + c) % 9973 := IntWalk.i64_in _ (by omega)
    go_wp2_with fail
    go_roundw
    case rel => exact ⟨⟨i + 1, by omega, by go_num, by rw [HX.out]⟩, by first | rfl | trivial⟩
    case measure => simp [intOf]; omega
  · have hx : i = s.size := by omega
    have hf : ((i : Int) < (s.size : Int)) = False := by simp; omega
    have HX := hide (HA.out i hx)
    clear hx
    go_wp2_with fail
    go_ret
    exact ⟨by rw [HX.out]; rfl, rfl⟩
set_option maxHeartbeats 1000000 in
set_option maxRecDepth 100000 in
theorem hand_any (s : ByteArray) (hs : s.size ≤ 4611686018427387904) (w : World) :
 Calls Tryz.prog 16 #[.string s] w fun e w' => e = .returned (.int .i64 (handTo 0 s.data.toList)) ∧ Below w.heap.size w w' := by
 have HN := hide (handS_next 0 s)
 have HA := hide (handS_all 0 s)
 have HB := hide (handS_bd (n := 0) (by omega) s)
 have H0 := hide (show handS 0 s 0 = 0 from rfl)
 have hcv := fun w : World => run_bytes_of_string (P := Tryz.prog) w 9 85 5 s Tryz.underlying9 Tryz.underlying85 Tryz.underlying5
 go_enter Tryz.func16, Tryz.ntmps16
 obtain ⟨w1, hw1⟩ : ∃ w1, w1 = (w.alloc (.cells (bytesRow s (grownCap w s.size 0 5)) 5 ((bytesRow s (grownCap w s.size 0 5)).size, (bytesRow s (grownCap w s.size 0 5)).size + 1))).drew := ⟨_, rfl⟩
 have hB1 : Below w.heap.size w w1 := by rw [hw1]; exact ((Below.refl _ w).alloc (Nat.le_refl _) _).drew
 have hcl : ∀ i, i < s.size → w1.cell? ⟨w.heap.size, i, none⟩ = some (.int .u8 (byteAt s i : Int)) := fun i hi => by
  rw [hw1]
  refine (World.cell?_alloc_mark w _ _ _ i).trans ?_
  rw [bytesRow_at s _ i hi, byteAt_eq hi]
  rfl
 go_wp2_with fail
 rw [← hw1]
 generalize grownCap w s.size 0 5 = cp at *
 have HB1 := hide hB1
 have HCL := hide hcl
 clear hw1 hB1 hcl hcv
 go_loopw [2, 8] (fun v2 v8 wr => (∃ i : Nat, i ≤ s.size ∧ v8 = .int .i64 i ∧ v2 = .int .i64 (handS 0 s i)) ∧ w1 = wr) (fun _ v8 _ => s.size - (intOf v8).toNat)
 case atStart => exact ⟨⟨0, by omega, rfl, by rw [H0.out]⟩, by first | rfl | trivial⟩
 case round =>
  obtain ⟨⟨i, hi, rfl, rfl⟩, rfl⟩ := hrel
  have hi0 : (0 : Int) ≤ (i : Int) := Int.natCast_nonneg _
  by_cases hlt : i < s.size
  · have hi1 : (i : Int) < (s.size : Int) := by omega
    have g0 := HCL.out i hlt
    have hb := byteAt_lt s i
    have hh := HB.out i
    have HX := hide (HN.out i hlt)
    generalize handS 0 s i = h at *
    generalize byteAt s i = c at *
    have hw1 : IntKind.i64.wrap (31 * h) = 31 * h := IntWalk.i64_in _ (by omega)
    have hw2 : IntKind.i64.wrap (c : Int) = c := IntWalk.i64_in _ (by omega)
    have hw3 : IntKind.i64.wrap (31 * h + c) = 31 * h + c := IntWalk.i64_in _ (by omega)
    have hr : (31 * h + (c : Int)).tmod 9973 = (31 * h + c) % 9973 := Int.tmod_eq_emod_of_nonneg (by omega)
    have hw4 : IntKind.i64.wrap ((31 * h + (c : Int)) % 9973) = (31 * h + c) % 9973 := IntWalk.i64_in _ (by omega)
    go_wp2_with fail
    go_roundw
    case rel => exact ⟨⟨i + 1, by omega, by go_num, by rw [HX.out]⟩, by first | rfl | trivial⟩
    case measure => simp [intOf]; omega
  · have hx : i = s.size := by omega
    have hf : ((i : Int) < (s.size : Int)) = False := by simp; omega
    have HX := hide (HA.out i hx)
    clear hx
    go_wp2_with fail
    go_ret
    exact ⟨by rw [HX.out]; rfl, HB1.out⟩
/-- Awake answers true, wherever it is asked behind w. -/
def AwakeOk (w : World) : Prop := ∀ W, Below w.heap.size w W → Calls Tryz.prog 17 #[] W fun e W' => e = .returned (.bool true) ∧ Below W.heap.size W W'
end Go.Proofs.YtkaahiddngmdbaaGreatDoor
