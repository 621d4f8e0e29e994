/- The law AgentHands returns true for any texts, if Awake does. -/
import Derived.Test.YtkaahiddngmdbaaGreatDoorAG
set_option linter.unusedVariables false
set_option linter.unusedSimpArgs false
namespace Go.Proofs.YtkaahiddngmdbaaGreatDoor
open Go.RowKit

set_option maxRecDepth 100000 in
theorem in1_any (n lo hi : Int) (w : World) : Calls Tryz.prog 18 #[.int .i64 n, .int .i64 lo, .int .i64 hi] w fun e w' => e = .returned (.bool (decide (lo ≤ n) && decide (n ≤ hi))) ∧ w = w' := by
 go_enter Tryz.func18, Tryz.ntmps18
 by_cases h1 : lo ≤ n <;> by_cases h2 : n ≤ hi
 all_goals
  go_wp2_with fail
  go_ret
  exact ⟨by simp [h1, h2], rfl⟩
theorem in1_yes {n : Int} (h : 0 ≤ n ∧ n ≤ 9972) (w : World) : Calls Tryz.prog 18 #[.int .i64 n, .int .i64 0, .int .i64 9972] w fun e w' => e = .returned (.bool true) ∧ w = w' :=
 (in1_any n 0 9972 w).mono fun _ _ ⟨he, hw⟩ => ⟨he.trans (by simp [h.1, h.2]), hw⟩
theorem hand_none (a : ByteArray) (h : a.size = 0) : handTo 0 a.data.toList = 0 := by
 have : a.data.toList = [] := List.eq_nil_of_length_eq_zero h
 rw [this]; rfl
theorem data_app (a b : ByteArray) : (a ++ b).data.toList = a.data.toList ++ b.data.toList := by simp [ByteArray.data_append]
theorem addr_lit0 (b : Nat) : (⟨b, 0, none⟩ : Addr).add 0 = ⟨b, 0, none⟩ := rfl
theorem one_byte_sz (c : Nat) : (⟨#[UInt8.ofNat c]⟩ : ByteArray).size = 1 := rfl
theorem turned_hand (a : ByteArray) (i c : Nat) (hi : i < a.size) (hc : c < 256) :
 (handTo 0 (a.extract 0 i ++ (⟨#[UInt8.ofNat c]⟩ : ByteArray) ++ a.extract (i + 1) a.size).data.toList == handTo 0 a.data.toList) = ((byteAt a i : Int) == (c : Int)) := by
 have hl : i < a.data.toList.length := hi
 have e0 : (a.extract 0 i ++ (⟨#[UInt8.ofNat c]⟩ : ByteArray) ++ a.extract (i + 1) a.size).data.toList = a.data.toList.take i ++ UInt8.ofNat c :: a.data.toList.drop (i + 1) := by
  rw [data_app, data_app]
  have h1 : (a.extract 0 i).data.toList = a.data.toList.take i := by simp [ByteArray.data_extract]
  have h2 : (a.extract (i + 1) a.size).data.toList = a.data.toList.drop (i + 1) := by
   rw [ByteArray.data_extract, Array.toList_extract, List.extract_eq_take_drop]
   rw [List.take_of_length_le]
   rw [List.length_drop]
   exact Nat.le_refl _
  rw [h1, h2]; simp
 rw [e0]
 conv => lhs; rhs; rw [hand_split hl]
 have hb := hand_turned (a.data.toList.take i) (a.data.toList.drop (i + 1)) a.data.toList[i] (UInt8.ofNat c)
 rw [Bool.eq_iff_iff, beq_iff_eq, beq_iff_eq, hb, byteAt_eq hi]
 constructor
 · intro h
   have h2 : (a[i]'hi).toNat = (UInt8.ofNat c).toNat := by rw [← h]; rfl
   rw [h2, UInt8.toNat_ofNat']
   omega
 · intro h
   apply UInt8.toNat_inj.1
   rw [UInt8.toNat_ofNat']
   have : (a.data.toList[i]).toNat = (a[i]'hi).toNat := rfl
   omega
set_option maxHeartbeats 2000000 in
set_option maxRecDepth 100000 in
theorem agentHands_any {w : World} {a b : ByteArray} {x0 x1 : Int} (ha : a.size ≤ 281474976710656) (hb : b.size ≤ 281474976710656) (hx0 : 0 ≤ x0 ∧ x0 ≤ 65535) (hx1 : 0 ≤ x1 ∧ x1 ≤ 65535) (hA : AwakeOk w) :
 Calls Tryz.prog 4 #[.string a, .string b, .agg #[.int .u16 x0, .int .u16 x1]] w fun e w' => e = .returned (.bool true) ∧ Below w.heap.size w w' := by
 have HA := hide hA
 have b1 : Below w.heap.size w (w.alloc (.cells #[.int .u16 x0, .int .u16 x1] 82)) := (Below.refl _ _).alloc (Nat.le_refl _) _
 have k1 : Blk (w.alloc (.cells #[.int .u16 x0, .int .u16 x1] 82)) w.heap.size 82 #[.int .u16 x0, .int .u16 x1] := Blk.made
 clear hA
 go_enter Tryz.func4, Tryz.ntmps4
 go_upto_region 1 with (fail)
 generalize (w.alloc (.cells #[.int .u16 x0, .int .u16 x1] 82)) = w1 at *
 have z1 := k1.lt
 have s0 := k1.at_ 0
 have s1 := k1.at_ 1
 simp only [List.getElem?_toArray, List.getElem?_cons_zero, List.getElem?_cons_succ] at s0 s1
 have HK := hide k1
 have HB1 := hide b1
 clear k1 b1
 obtain ⟨c, hc0, hcl⟩ : ∃ c : Nat, x1 % 256 = (c : Int) ∧ c < 256 := ⟨(x1 % 256).toNat, by omega, by omega⟩
 have hc1 : x1.tmod 256 = (c : Int) := by rw [← hc0]; exact Int.tmod_eq_emod_of_nonneg (by omega)
 have hc2 : IntKind.u16.wrap (c : Int) = c := IntWalk.u16_in _ (by omega)
 have hc3 : IntKind.u8.wrap (c : Int) = c := IntWalk.u8_in _ (by omega)
 clear hc0
 go_wp2_with fail
 clear hc1 hc2 hc3 s1
 refine (hand_any a (by omega) _).mono ?_
 rintro e w2 ⟨rfl, hb2⟩
 have hz2 := hb2.size
 have hsum : ¬ 9223372036854775807 < a.size + b.size := by omega
 have t0 := (hb2.cell (p := ⟨w.heap.size, 0, none⟩) z1).trans s0
 have HB2 := hide (HB1.out.trans (hb2.mono HB1.out.size))
 clear s0 hb2 HK
 go_wp2_with fail
 refine (hand_any (a ++ b) (by rw [ByteArray.size_append]; omega) _).mono ?_
 rintro e w3 ⟨rfl, hb3⟩
 rw [data_app, handTo_app]
 have hz3 := hb3.size
 have z2 : w.heap.size < w2.heap.size := by omega
 have u0 := (hb3.cell (p := ⟨w.heap.size, 0, none⟩) z2).trans t0
 have HB3 := hide (HB2.out.trans (hb3.mono HB2.out.size))
 clear t0 hb3
 have hbn := handTo_bd (s := a.data.toList) (n := 0) (by omega)
 have hg := fun w => goes_any hbn b (by omega) w
 have hi1 := fun w => in1_yes hbn w
 have HT := hide (turned_hand a)
 have H0 := hide (hand_none a)
 generalize handTo 0 a.data.toList = n at *
 generalize handTo n b.data.toList = m at *
 by_cases hq : a.size = 0
 · have hn := H0.out hq
   subst hn
   have hq2 : ((a.size : Int) == 0) = true := by rw [hq]; rfl
   clear HT H0
   have HQ := hide hq
   clear hq
   go_wp2_with (first | (go_at_call 18; refine (hi1 _).mono ?_; rintro e w9 ⟨rfl, rfl⟩) | (go_at_call 19; refine (hg _).mono ?_; rintro e w9 ⟨rfl, rfl⟩) | (go_at_call 17; refine (HA.out _ HB3.out).mono ?_; rintro e w9 ⟨rfl, hb9⟩))
   go_ret
   exact ⟨rfl, HB3.out.trans (hb9.mono HB3.out.size)⟩
 · have hq2 : ((a.size : Int) == 0) = false := beq_eq_false_iff_ne.2 (by omega)
   clear H0
   have hp0 : (0 : Int) < (a.size : Int) := by omega
   have hm0 := Int.emod_nonneg x0 (show (a.size : Int) ≠ 0 by omega)
   have hm1 := Int.emod_lt_of_pos x0 hp0
   obtain ⟨i, hi0, hil⟩ : ∃ i : Nat, x0 % (a.size : Int) = (i : Int) ∧ i < a.size := ⟨(x0 % (a.size : Int)).toNat, by omega, by omega⟩
   have hx00 := hx0.1
   have hi2 : x0.tmod (a.size : Int) = (i : Int) := by rw [← hi0]; exact Int.tmod_eq_emod_of_nonneg hx00
   have hi3 : IntKind.i64.wrap x0 = x0 := IntWalk.i64_in _ (by omega)
   have hi4 : IntKind.i64.wrap (i : Int) = i := IntWalk.i64_in _ (by omega)
   have hne : ¬ a.size = 0 := hq
   clear hi0 hq hm0 hm1
   go_wp2_with (first | (go_at_call 18; refine (hi1 _).mono ?_; rintro e w9 ⟨rfl, rfl⟩) | (go_at_call 19; refine (hg _).mono ?_; rintro e w9 ⟨rfl, rfl⟩))
   have hi5 : (0 : Int) ≤ (i : Int) := Int.natCast_nonneg _
   have hi6 : (i : Int) ≤ (a.size : Int) := by omega
   have hi7 : (0 : Int) ≤ (i : Int) + 1 := by omega
   have hi8 : (i : Int) + 1 ≤ (a.size : Int) := by omega
   have hi9 : IntKind.i64.wrap ((i : Int) + 1) = (i : Int) + 1 := IntWalk.i64_in _ (by omega)
   have hsn : ((i : Int) + 1).toNat = i + 1 := by omega
   have hcv : (convert 85 9 (.slice (some ⟨w3.heap.size, 0, none⟩) 1 1)).run Tryz.prog (w3.alloc (.cells #[.int .u8 c] 5)).drew = .ok (.string ⟨#[UInt8.ofNat c]⟩) (w3.alloc (.cells #[.int .u8 c] 5)).drew := by
    refine run_convert_bytes_back (P := Tryz.prog) _ 85 9 5 ⟨w3.heap.size, 0, none⟩ 1 [UInt8.ofNat c] Tryz.underlying85 Tryz.underlying5 Tryz.underlying9 (fun j hj => ?_)
    obtain rfl : j = 0 := by simpa using hj
    rw [addr_lit0]
    show (w3.alloc (.cells #[.int .u8 c] 5)).cell? ⟨w3.heap.size, 0, none⟩ = _
    rw [World.cell?_alloc_at _ _ _ _ rfl]
    simp [UInt8.toNat_ofNat']
    omega
   have e1 : (a.extract 0 i).size = i := by simp [ByteArray.size_extract]; omega
   have e2 : (a.extract (i + 1) a.size).size = a.size - (i + 1) := by simp [ByteArray.size_extract]
   have e3 : ¬ 9223372036854775807 < (a.extract 0 i).size + (⟨#[UInt8.ofNat c]⟩ : ByteArray).size := by rw [e1, one_byte_sz]; omega
   have e4 : ¬ 9223372036854775807 < (a.extract 0 i ++ (⟨#[UInt8.ofNat c]⟩ : ByteArray)).size + (a.extract (i + 1) a.size).size := by rw [ByteArray.size_append, e1, e2, one_byte_sz]; omega
   apply wp_one
   case h =>
    go_region
    all_goals exact ⟨rfl, rfl, rfl⟩
   case hq =>
   have bB : Below w3.heap.size w3 (w3.alloc (.cells #[.int .u8 c] 5)).drew := ((Below.refl _ _).alloc (Nat.le_refl _) _).drew
   generalize (w3.alloc (.cells #[.int .u8 c] 5)).drew = w4 at *
   have HB4 := hide (HB3.out.trans (bB.mono HB3.out.size))
   have hX := HT.out i c hil hcl
   have hXs : (a.extract 0 i ++ (⟨#[UInt8.ofNat c]⟩ : ByteArray) ++ a.extract (i + 1) a.size).size ≤ 4611686018427387904 := by rw [ByteArray.size_append, ByteArray.size_append, e1, e2, one_byte_sz]; omega
   have hix : ∀ w, (Instr.index 9 (.string a) (.int .i64 (i : Int))).run Tryz.prog w = .ok (.int .u8 (byteAt a i : Int)) w := fun w => by
    rw [run_index_string _ _ _ _ _ Tryz.underlying9, dif_pos ⟨hi5, by omega⟩, byteAt_eq hil]; simp
   clear HT e1 e2 e3 e4 bB hcv hi1 hg u0
   generalize (a.extract 0 i ++ (⟨#[UInt8.ofNat c]⟩ : ByteArray) ++ a.extract (i + 1) a.size) = s at *
   have hh := fun w => hand_any s hXs w
   generalize handTo 0 s.data.toList = m2 at *
   generalize byteAt a i = d at *
   have hE : ((m2 == n) == ((d : Int) == (c : Int))) = true := by rw [hX]; simp
   have HE := hide hX
   clear hX
   go_wp2_with fail
   go_region_held3 (fun _ => True) (trivial)
    (first | (go_at_call 16; refine (hh _).mono ?_; rintro e w5 ⟨rfl, hb5⟩) | (go_at_call 17; refine (HA.out _ (HB4.out.drew.trans (hb5.mono HB4.out.drew.size))).mono ?_; rintro e w6 ⟨rfl, hb6⟩))
   all_goals
    have hB5 := HB4.out.drew.trans (hb5.mono HB4.out.drew.size)
    have hB6 := hB5.trans (hb6.mono hB5.size)
    go_wp2_with fail
    go_ret
    exact ⟨rfl, hB6⟩
end Go.Proofs.YtkaahiddngmdbaaGreatDoor
