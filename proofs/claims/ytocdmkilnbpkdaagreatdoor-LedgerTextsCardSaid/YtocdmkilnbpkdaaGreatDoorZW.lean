/- Where of the program. -/
import Derived.Test.YtocdmkilnbpkdaaGreatDoorZN
import Derived.OwnWalkIn
import Derived.TacticsInMore
import Derived.Deep.DeepCutAuto
set_option linter.unusedVariables false
set_option linter.unusedSimpArgs false
namespace Go.Proofs.YtocdmkilnbpkdaaGreatDoor
open Go.RowKit
attribute [local go_sem] Oper.semAt_some

set_option maxRecDepth 100000 in
@[local go_sem] theorem field_lo (s : Span) (w : World) : (Instr.field 30 (spanVal s) 0).run Tryz.prog w = .ok (.int .i64 s.lo) w := by
 have hu : Tryz.prog.underlying 30 = some (.struct #[⟨"Lo", 3, 0, false, "", "", 0⟩, ⟨"Hi", 3, 1, false, "", "", 8⟩]) := by kernel_rfl
 have hp : (part 3 #[Value.int .i64 s.lo, Value.int .i64 s.hi] 0).run Tryz.prog w = .ok (.int .i64 s.lo) w := by go_simp
 unfold Instr.field
 rw [Sem.run_bind, run_underlying hu]
 simpa [asAgg] using hp
/-- The step at which most hands surely got lost, of the first j, and how many. -/
def whereTo (b : Book) : Nat → Nat × Int
 | 0 => (0, 0)
 | j + 1 => if (whereTo b j).2 < (lostB b j).lo then (j, (lostB b j).lo) else whereTo b j
def whereV (b : Book) : Int × Int × Int :=
 if enterK b 0 ≠ 0 then (0, 0, enterK b 0) else if (whereTo b b.steps.length).2 = 0 then (0, 0, 9) else ((whereTo b b.steps.length).1, (whereTo b b.steps.length).2, 0)
theorem where_no {b : Book} (h : enterK b 0 ≠ 0) : whereV b = (0, 0, enterK b 0) := by rw [whereV, if_pos h]
theorem where_yes {b : Book} (h : enterK b 0 = 0) : whereV b = if (whereTo b b.steps.length).2 = 0 then (0, 0, 9) else (((whereTo b b.steps.length).1 : Int), (whereTo b b.steps.length).2, 0) := by rw [whereV, if_neg (by rw [h]; simp)]
set_option maxHeartbeats 4000000 in
set_option maxRecDepth 100000 in
theorem where_any {b : Book} {a : BA} {w : World} (h : BookV w w.heap.size b a) :
 Calls Tryz.prog 27 #[bookVal b a] w fun e w' => e = .returned (.tuple #[.int .i64 (whereV b).1, .int .i64 (whereV b).2.1, .int .i64 (whereV b).2.2]) ∧ Below w.heap.size w w' := by
 have HX := hide (BoxB.made h)
 have HB := hide (show Below w.heap.size w (w.alloc (.cells (bookCells b a) 25)) from (Below.refl _ _).alloc (Nat.le_refl _) _)
 have hm1 := h.m1
 unfold maxLen at hm1
 clear h
 go_enter Tryz.func27, Tryz.ntmps27
 go_upto_region 1 with (fail)
 generalize (w.alloc (.cells (bookCells b a) 25)) = v0 at *
 obtain ⟨z, x0, x1⟩ := HX.out.cells
 go_wp2_with fail
 refine (enter_any (s := 0) HX.out.v).mono ?_
 rintro e v1 ⟨p, rfl, hb, hen⟩
 have HB1 := hide (HB.out.trans (hb.mono HB.out.size))
 have HX1 := hide (HX.out.next hb)
 have hz := HX.out.k.lt
 have hzb := hb.size
 unfold Entered at hen
 clear x0 x1 z hb HX
 by_cases hk : enterK b 0 = 0
 · obtain ⟨g, hh, rfl, hg, hl, hA⟩ := hen hk
   have HV := hide (enterK_zero hk)
   have HWV := hide (where_yes hk)
   rw [hk]
   clear hen hk
   have HA := hide hA
   have HL := hide hl
   clear hA hl
   obtain ⟨z1, x0, _⟩ := HX1.out.cells
   go_wp2_with fail
   clear x0 z1
   go_loopw [2, 3, 6, 7, 19, 20, 21, 22, 23, 24, 25, 26, 27, 28, 29, 30, 31] (fun v2 v3 _ _ v19 _ _ _ _ _ _ _ _ _ _ _ _ wr => ∃ j : Nat, j ≤ b.steps.length ∧ v19 = .int .i64 (j : Nat) ∧ v2 = .int .i64 ((whereTo b j).1 : Nat) ∧ v3 = .int .i64 (whereTo b j).2 ∧ Hid (LookB wr g g b a hh) ∧ Hid (Below w.heap.size w wr)) (fun v2 v3 _ _ v19 _ _ _ _ _ _ _ _ _ _ _ _ _ => b.steps.length - (intOf v19).toNat)
   case atStart => exact ⟨0, Nat.zero_le _, rfl, rfl, rfl, HL, HB1⟩
   case round =>
    clear HL HB1
    obtain ⟨j, hj, rfl, rfl, rfl, HL, HB1⟩ := hrel
    by_cases hlt : j < b.steps.length
    · have hjl : (j : Int) < (b.steps.length : Int) := by omega
      have HST := hide (show whereTo b (j + 1) = if (whereTo b j).2 < (lostB b j).lo then (j, (lostB b j).lo) else whereTo b j from rfl)
      have HLE := hide (lost_eq (c := cB b fun _ => false) HV.out.1.good.way (cB_99 b _) (u_ne HV.out.1.good.way HV.out.2.2) HA.out hlt)
      go_wp2_with fail
      refine (lost_any HL.out (by have := HL.out.k.lt; omega) HV.out.1.good hlt).mono ?_
      rintro e v2 ⟨rfl, hb2⟩
      rw [HLE.out]
      have HL2 := hide (HL.out.next hb2)
      have HB2 := hide (HB1.out.trans (hb2.mono HB1.out.size))
      clear hb2 HLE
      change Hid (whereTo b (j + 1) = if (whereTo b j).2 < ((wayOf b).lost (cB b fun _ => false) j).lo then (j, ((wayOf b).lost (cB b fun _ => false) j).lo) else whereTo b j) at HST
      generalize (wayOf b).lost (cB b fun _ => false) j = sl at *
      obtain ⟨s1, s2⟩ := sl
      generalize hT : whereTo b j = T at *
      obtain ⟨t1, t2⟩ := T
      dsimp only at HST
      clear hT
      by_cases hc : t2 < s1
      · rw [if_pos hc] at HST
        go_wp2_with fail
        go_roundw
        case rel => exact ⟨j + 1, hlt, by simp, by rw [HST.out], by rw [HST.out], HL2, HB2⟩
        case measure => simp [intOf]; omega
      · rw [if_neg hc] at HST
        have hc2 : s1 ≤ t2 := by omega
        go_wp2_with fail
        go_roundw
        case rel => exact ⟨j + 1, hlt, by simp, by rw [HST.out], by rw [HST.out], HL2, HB2⟩
        case measure => simp [intOf]; omega
    · obtain rfl : j = b.steps.length := by omega
      generalize whereTo b b.steps.length = T at *
      obtain ⟨t1, t2⟩ := T
      dsimp only at HWV ⊢
      by_cases hc : t2 = 0
      · subst hc
        rw [if_pos rfl] at HWV
        go_wp2_with fail
        exact bodyPost_ret (v := .tuple #[.int .i64 0, .int .i64 0, .int .i64 9]) (by simp [results, Tryz.results27, go_sem]) rfl ⟨by rw [HWV.out], HB1.out⟩
      · rw [if_neg hc] at HWV
        have hd : (t2 == 0) = false := by simpa using hc
        clear hc
        go_wp2_with fail
        exact bodyPost_ret (v := .tuple #[.int .i64 (t1 : Nat), .int .i64 t2, .int .i64 0]) (by simp [results, Tryz.results27, go_sem]) rfl ⟨by rw [HWV.out], HB1.out⟩
 · have HWV := hide (where_no hk)
   have hd : (enterK b 0 != 0) = true := by simpa using hk
   clear hk hen
   generalize enterK b 0 = K at *
   go_wp2_with fail
   exact bodyPost_ret (v := .tuple #[.int .i64 0, .int .i64 0, .int .i64 K]) (by simp [results, Tryz.results27, go_sem]) rfl ⟨by rw [HWV.out], HB1.out⟩
end Go.Proofs.YtocdmkilnbpkdaaGreatDoor
