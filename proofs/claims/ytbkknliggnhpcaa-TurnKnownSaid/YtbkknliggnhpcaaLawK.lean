/- The law TurnKnown: the examples of the document come out as it says. -/
import Derived.Test.YtbkknliggnhpcaaLawC
set_option linter.unusedVariables false
set_option linter.unusedSimpArgs false
namespace Go.Proofs.Ytbkknliggnhpcaa
open Go.RowKit
attribute [local go_sem ↓] Go.wp_at_zero Go.wp_at_succ

set_option maxHeartbeats 4000000 in
set_option maxRecDepth 100000 in
theorem turnKnown_any (w : World) : Calls Try.prog 7 #[] w fun e w' => e = .returned (.bool true) ∧ Below w.heap.size w w' := by
  go_enter Try.func7, Try.ntmps7
  go_wp2_with fail
  refine (cargo_any (-1) _).mono ?_
  rintro e w1 ⟨A1, A2, A3, A4, c1, c2, c3, c4, rfl, hv1, hb1⟩
  rw [show lawH (-1) = lawC [] from rfl] at hv1 ⊢
  go_wp2_with fail
  refine (cargo_any 3 _).mono ?_
  rintro e w2 ⟨B1, B2, B3, B4, d1, d2, d3, d4, rfl, hv2, hb2⟩
  rw [show lawH 3 = lawC [⟨0, 3, false⟩] from rfl] at hv2 ⊢
  have hv1 := hv1.next hb2
  have HB := hide (hb1.trans (hb2.mono hb1.size))
  go_upto_region 2 with (fail)
  have hA1 : Below w2.heap.size w2 (w2.alloc (.cells #[.slice A1 (lawC []).heat.length c1, .int .i64 (lawC []).gas, .slice A2 (lawC []).holds.length c2, .slice A3 (lawC []).lots.length c3, .slice A4 (lawC []).seen.length c4] 27)) := (Below.refl _ _).alloc (Nat.le_refl _) _
  have hA2 : Below (w2.alloc (.cells #[.slice A1 (lawC []).heat.length c1, .int .i64 (lawC []).gas, .slice A2 (lawC []).holds.length c2, .slice A3 (lawC []).lots.length c3, .slice A4 (lawC []).seen.length c4] 27)).heap.size (w2.alloc (.cells #[.slice A1 (lawC []).heat.length c1, .int .i64 (lawC []).gas, .slice A2 (lawC []).holds.length c2, .slice A3 (lawC []).lots.length c3, .slice A4 (lawC []).seen.length c4] 27)) ((w2.alloc (.cells #[.slice A1 (lawC []).heat.length c1, .int .i64 (lawC []).gas, .slice A2 (lawC []).holds.length c2, .slice A3 (lawC []).lots.length c3, .slice A4 (lawC []).seen.length c4] 27)).alloc (.cells #[.slice B1 (lawC [⟨0, 3, false⟩]).heat.length d1, .int .i64 (lawC [⟨0, 3, false⟩]).gas, .slice B2 (lawC [⟨0, 3, false⟩]).holds.length d2, .slice B3 (lawC [⟨0, 3, false⟩]).lots.length d3, .slice B4 (lawC [⟨0, 3, false⟩]).seen.length d4] 27)) := (Below.refl _ _).alloc (Nat.le_refl _) _
  have hK : BoxC ((w2.alloc (.cells #[.slice A1 (lawC []).heat.length c1, .int .i64 (lawC []).gas, .slice A2 (lawC []).holds.length c2, .slice A3 (lawC []).lots.length c3, .slice A4 (lawC []).seen.length c4] 27)).alloc (.cells #[.slice B1 (lawC [⟨0, 3, false⟩]).heat.length d1, .int .i64 (lawC [⟨0, 3, false⟩]).gas, .slice B2 (lawC [⟨0, 3, false⟩]).holds.length d2, .slice B3 (lawC [⟨0, 3, false⟩]).lots.length d3, .slice B4 (lawC [⟨0, 3, false⟩]).seen.length d4] 27)) (w2.heap.size) (lawC []) A1 A2 A3 A4 c1 c2 c3 c4 := (BoxC.made hv1).next hA2
  have hK3 : BoxC ((w2.alloc (.cells #[.slice A1 (lawC []).heat.length c1, .int .i64 (lawC []).gas, .slice A2 (lawC []).holds.length c2, .slice A3 (lawC []).lots.length c3, .slice A4 (lawC []).seen.length c4] 27)).alloc (.cells #[.slice B1 (lawC [⟨0, 3, false⟩]).heat.length d1, .int .i64 (lawC [⟨0, 3, false⟩]).gas, .slice B2 (lawC [⟨0, 3, false⟩]).holds.length d2, .slice B3 (lawC [⟨0, 3, false⟩]).lots.length d3, .slice B4 (lawC [⟨0, 3, false⟩]).seen.length d4] 27)) (w2.heap.size + 1) (lawC [⟨0, 3, false⟩]) B1 B2 B3 B4 d1 d2 d3 d4 := by have := BoxC.made (hv2.next hA1); simpa using this
  have hBA := hA1.trans (hA2.mono hA1.size)
  have HB := hide (HB.out.trans (hBA.mono HB.out.size))
  have HK := hide hK
  have HK3 := hide hK3
  clear hK hK3 hA1 hA2 hBA hv1 hv2 hb1 hb2
  generalize ((w2.alloc (.cells #[.slice A1 (lawC []).heat.length c1, .int .i64 (lawC []).gas, .slice A2 (lawC []).holds.length c2, .slice A3 (lawC []).lots.length c3, .slice A4 (lawC []).seen.length c4] 27)).alloc (.cells #[.slice B1 (lawC [⟨0, 3, false⟩]).heat.length d1, .int .i64 (lawC [⟨0, 3, false⟩]).gas, .slice B2 (lawC [⟨0, 3, false⟩]).holds.length d2, .slice B3 (lawC [⟨0, 3, false⟩]).lots.length d3, .slice B4 (lawC [⟨0, 3, false⟩]).seen.length d4] 27)) = v0 at *
  obtain ⟨hv, z, x0, x1, x2, x3, x4⟩ := HK.out
  have HV := hide hv
  clear hv
  go_upto_region 3 with (go_at_call 20; refine (ex_safe4 HV.out).mono ?_; rintro e v1 ⟨R1, r1, rfl, hi, hb⟩)
  have HK := hide (HK.out.next hb)
  have HK3 := hide (HK3.out.next hb)
  have HB := hide (HB.out.trans (hb.mono (by have := HB.out.size; exact this)))
  clear hb
  have HI1 := hide hi
  clear hi
  clear z x0 x1 x2 x3 x4 HV
  obtain ⟨hv, z, x0, x1, x2, x3, x4⟩ := HK.out
  have HV := hide hv
  clear hv
  go_upto_region 4 with (go_at_call 24; refine (ex_first1 HV.out).mono ?_; rintro e v2 ⟨R2, r2, rfl, hi, hb⟩)
  have HK := hide (HK.out.next hb)
  have HK3 := hide (HK3.out.next hb)
  have HI1 := hide (HI1.out.next hb)
  have HB := hide (HB.out.trans (hb.mono (by have := HB.out.size; exact this)))
  clear hb
  have HI2 := hide hi
  clear hi
  clear z x0 x1 x2 x3 x4 HV
  obtain ⟨hv, z, x0, x1, x2, x3, x4⟩ := HK.out
  have HV := hide hv
  clear hv
  go_upto_region 5 with (go_at_call 26; refine (ex_spoils10 HV.out).mono ?_; rintro e v3 ⟨rfl, hb⟩)
  have HK := hide (HK.out.next hb)
  have HK3 := hide (HK3.out.next hb)
  have HI1 := hide (HI1.out.next hb)
  have HI2 := hide (HI2.out.next hb)
  have HB := hide (HB.out.trans (hb.mono (by have := HB.out.size; exact this)))
  clear hb
  clear z x0 x1 x2 x3 x4 HV
  obtain ⟨hv, z, x0, x1, x2, x3, x4⟩ := HK.out
  have HV := hide hv
  clear hv
  go_upto_region 6 with (go_at_call 30; refine (ex_out5 HV.out).mono ?_; rintro e v4 ⟨R4, r4, rfl, hi, hb⟩)
  have HK := hide (HK.out.next hb)
  have HK3 := hide (HK3.out.next hb)
  have HI1 := hide (HI1.out.next hb)
  have HI2 := hide (HI2.out.next hb)
  have HB := hide (HB.out.trans (hb.mono (by have := HB.out.size; exact this)))
  clear hb
  have HI4 := hide hi
  clear hi
  clear z x0 x1 x2 x3 x4 HV
  obtain ⟨hv, z, x0, x1, x2, x3, x4⟩ := HK3.out
  have HV := hide hv
  clear hv
  go_upto_region 7 with (go_at_call 32; refine (ex_wrong3 HV.out).mono ?_; rintro e v5 ⟨R5, r5, rfl, hi, hb⟩)
  have HK := hide (HK.out.next hb)
  have HK3 := hide (HK3.out.next hb)
  have HI1 := hide (HI1.out.next hb)
  have HI2 := hide (HI2.out.next hb)
  have HI4 := hide (HI4.out.next hb)
  have HB := hide (HB.out.trans (hb.mono (by have := HB.out.size; exact this)))
  clear hb
  have HI5 := hide hi
  clear hi
  clear z x0 x1 x2 x3 x4 HV
  have hA := (Below.refl v5.heap.size v5).alloc (Nat.le_refl _) (.cells #[.int .i64 2] 3)
  go_wp2_with fail
  refine (ints_any ((HI1.out.next hA)) (IntsS.lit1 rfl 2)).mono ?_
  rintro e v6 ⟨rfl, hd⟩
  rw [show intsB [2] [2] = true from by decide]
  have hb := hA.trans (hd.below v5.heap.size)
  clear hA hd
  have HK := hide (HK.out.next hb)
  have HK3 := hide (HK3.out.next hb)
  have HI1 := hide (HI1.out.next hb)
  have HI2 := hide (HI2.out.next hb)
  have HI4 := hide (HI4.out.next hb)
  have HI5 := hide (HI5.out.next hb)
  have HB := hide (HB.out.trans (hb.mono (by have := HB.out.size; exact this)))
  clear hb
  have hA := (Below.refl v6.heap.size v6).alloc (Nat.le_refl _) (.cells #[.int .i64 0, .int .i64 1] 3)
  go_wp2_with fail
  refine (ints_any ((HI4.out.next hA)) (IntsS.lit2 rfl 0 1)).mono ?_
  rintro e v7 ⟨rfl, hd⟩
  rw [show intsB [0, 1] [0, 1] = true from by decide]
  have hb := hA.trans (hd.below v6.heap.size)
  clear hA hd
  have HK := hide (HK.out.next hb)
  have HK3 := hide (HK3.out.next hb)
  have HI1 := hide (HI1.out.next hb)
  have HI2 := hide (HI2.out.next hb)
  have HI4 := hide (HI4.out.next hb)
  have HI5 := hide (HI5.out.next hb)
  have HB := hide (HB.out.trans (hb.mono (by have := HB.out.size; exact this)))
  clear hb
  go_wp2_with (go_at_call 23; refine (awake_any _).mono ?_; rintro e v10 ⟨rfl, hb⟩)
  go_ret
  exact ⟨rfl, HB.out.trans (hb.mono HB.out.size)⟩
end Go.Proofs.Ytbkknliggnhpcaa
