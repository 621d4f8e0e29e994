/- The law TurnMore: with one more look there are no further ways; for any cargo, look and hour the law returns true. -/
import Derived.Test.YtbkknliggnhpcaaRefV
import Derived.Test.YtbkknliggnhpcaaRefU
import Derived.SizedLaws
set_option linter.unusedVariables false
set_option linter.unusedSimpArgs false
namespace Go.Proofs.Ytbkknliggnhpcaa
open Go.RowKit
attribute [local go_sem ↓] Go.wp_at_zero Go.wp_at_succ

theorem one3 (a b : Int) (d : Bool) (j : Nat) (hj : j < 1 * 3) : (([Value.int .i64 a, .int .i64 b, .bool d] : List Value).getD j undef).oneCell' = true := by
  match j, hj with
  | 0, _ => rfl
  | 1, _ => rfl
  | 2, _ => rfl
theorem seenF_app {xs : List Seen} {x : Seen} {j : Nat} (h : j < xs.length * 3) : seenF (xs ++ [x]) j = seenF xs j := by
  have e : nth (xs ++ [x]) (j / 3) = nth xs (j / 3) := by simp [nth, List.getElem?_append_left (show j / 3 < xs.length by omega)]
  rw [seenF, seenF, e]
theorem seenF_last (xs : List Seen) (x : Seen) : seenF (xs ++ [x]) (xs.length * 3) = .int .i64 x.lot ∧ seenF (xs ++ [x]) (xs.length * 3 + 1) = .int .i64 x.hour ∧ seenF (xs ++ [x]) (xs.length * 3 + 2) = .bool x.turned := by
  have e : nth (xs ++ [x]) xs.length = x := by simp [nth]
  refine ⟨?_, ?_, ?_⟩
  · rw [seenF, show xs.length * 3 % 3 = 0 by omega, show xs.length * 3 / 3 = xs.length by omega, e]; rfl
  · rw [seenF, show (xs.length * 3 + 1) % 3 = 1 by omega, show (xs.length * 3 + 1) / 3 = xs.length by omega, e]; rfl
  · rw [seenF, show (xs.length * 3 + 2) % 3 = 2 by omega, show (xs.length * 3 + 2) / 3 = xs.length by omega, e]; rfl
theorem seen_snoc (xs : List Seen) (x : Seen) : (List.range (xs.length * 3)).map (seenF xs) ++ (List.range (1 * 3)).map (fun j => ([Value.int .i64 x.lot, .int .i64 x.hour, .bool x.turned] : List Value).getD j undef) = (List.range ((xs.length + 1) * 3)).map (seenF (xs ++ [x])) := by
  obtain ⟨e0, e1, e2⟩ := seenF_last xs x
  rw [range3 xs.length, List.map_append]
  congr 1
  · exact List.map_congr_left fun j hj => (seenF_app (List.mem_range.1 hj)).symm
  · show _ = [_, _, _]
    rw [e0, e1, e2]
    rfl
theorem reach_more {n : Nat} (h : n * 24 ≤ reachBytes) : (n + 1) * 24 ≤ 140737488355328 := by unfold reachBytes at h; omega
set_option maxHeartbeats 4000000 in
set_option maxRecDepth 100000 in
theorem turnMore_any {A1 A2 A3 A4 : Option Addr} {c1 c2 c3 c4 : Nat} {c : Cargo} {w : World} (h : CargoV w w.heap.size c A1 A2 A3 A4 c1 c2 c3 c4) (hr : c.seen.length * 24 ≤ reachBytes) (s : Seen) (x : Int) (hx : 0 ≤ x ∧ x ≤ 255) :
    Calls Try.prog 12 #[cargoVal c A1 A2 A3 A4 c1 c2 c3 c4, .agg #[.int .i64 s.lot, .int .i64 s.hour, .bool s.turned], .int .u8 x] w fun e w' => e = .returned (.bool true) ∧ Below w.heap.size w w' := by
  obtain ⟨i4, hI4, hz40, hz41, hz42⟩ := info_parts Try.infoSeen
  have hrb := reach_more hr
  clear hr
  have hA1 : Below w.heap.size w (w.alloc (.cells #[.slice A1 c.heat.length c1, .int .i64 c.gas, .slice A2 c.holds.length c2, .slice A3 c.lots.length c3, .slice A4 c.seen.length c4] 27)) := (Below.refl _ _).alloc (Nat.le_refl _) _
  have hA2 : Below (w.alloc (.cells #[.slice A1 c.heat.length c1, .int .i64 c.gas, .slice A2 c.holds.length c2, .slice A3 c.lots.length c3, .slice A4 c.seen.length c4] 27)).heap.size (w.alloc (.cells #[.slice A1 c.heat.length c1, .int .i64 c.gas, .slice A2 c.holds.length c2, .slice A3 c.lots.length c3, .slice A4 c.seen.length c4] 27)) ((w.alloc (.cells #[.slice A1 c.heat.length c1, .int .i64 c.gas, .slice A2 c.holds.length c2, .slice A3 c.lots.length c3, .slice A4 c.seen.length c4] 27)).alloc (.cells #[.int .i64 s.lot, .int .i64 s.hour, .bool s.turned] 80)) := (Below.refl _ _).alloc (Nat.le_refl _) _
  have HK := hide ((BoxC.made h).next hA2)
  have HB := hide (hA1.trans (hA2.mono hA1.size))
  have bx : Blk ((w.alloc (.cells #[.slice A1 c.heat.length c1, .int .i64 c.gas, .slice A2 c.holds.length c2, .slice A3 c.lots.length c3, .slice A4 c.seen.length c4] 27)).alloc (.cells #[.int .i64 s.lot, .int .i64 s.hour, .bool s.turned] 80)) (w.heap.size + 1) 80 #[.int .i64 s.lot, .int .i64 s.hour, .bool s.turned] := Blk.made' (by simp)
  have HXB := hide bx
  have hsm : c.seen.length ≤ maxLen := Nat.le_trans h.m4.1 h.m4.2
  unfold maxLen at hsm
  have HMO := hide (fun (a : someL c = true) (b : someL (moreS c s) = true) {at_ : Int} (h : 0 ≤ at_ ∧ at_ ≤ c.heat.length) => (show c.lots.length ≤ 4 ∧ c.heat.length ≤ 8 ∧ MoreOk c (moreS c s) at_ from ⟨(someL_true a).1.lots, (someL_true a).1.hours, more_ok (someL_true a).1 (someL_true a).2 (someL_true b).1 (someL_true b).2 h⟩))
  clear hA1 hA2 bx h
  go_enter Try.func12, Try.ntmps12
  go_upto_region 1 with (fail)
  generalize ((w.alloc (.cells #[.slice A1 c.heat.length c1, .int .i64 c.gas, .slice A2 c.holds.length c2, .slice A3 c.lots.length c3, .slice A4 c.seen.length c4] 27)).alloc (.cells #[.int .i64 s.lot, .int .i64 s.hour, .bool s.turned] 80)) = v0 at *
  obtain ⟨hv, z, x0, x1, x2, x3, x4⟩ := HK.out
  have HV := hide hv
  clear hv
  go_upto_region 2 with (fail)
  have b1 : Blk (v0.alloc (.cells #[.slice A1 c.heat.length c1, .int .i64 c.gas, .slice A2 c.holds.length c2, .slice A3 c.lots.length c3, .slice A4 c.seen.length c4] 27)) v0.heap.size 27 #[.slice A1 c.heat.length c1, .int .i64 c.gas, .slice A2 c.holds.length c2, .slice A3 c.lots.length c3, .slice A4 c.seen.length c4] := Blk.made
  have hA3 : Below v0.heap.size v0 (v0.alloc (.cells #[.slice A1 c.heat.length c1, .int .i64 c.gas, .slice A2 c.holds.length c2, .slice A3 c.lots.length c3, .slice A4 c.seen.length c4] 27)) := (Below.refl _ _).alloc (Nat.le_refl _) _
  have pb4 : (v0.alloc (.cells #[.slice A1 c.heat.length c1, .int .i64 c.gas, .slice A2 c.holds.length c2, .slice A3 c.lots.length c3, .slice A4 c.seen.length c4] 27)).cell? ⟨w.heap.size, 4, none⟩ = some (.slice A4 c.seen.length c4) := (HK.out.next hA3).2.2.2.2.2.2
  have hxb := HXB.out.next hA3
  have hse := (HV.out.next hA3).seen
  clear x0 x1 x2 x3 x4
  generalize (v0.alloc (.cells #[.slice A1 c.heat.length c1, .int .i64 c.gas, .slice A2 c.holds.length c2, .slice A3 c.lots.length c3, .slice A4 c.seen.length c4] 27)) = v1 at *
  have hA3s := hA3.size
  have z0 : w.heap.size < v1.heap.size := by omega
  have z1 : w.heap.size + 1 < v1.heap.size := hxb.lt
  have zg : v0.heap.size < v1.heap.size := b1.lt
  have pl0 : v1.cell? ⟨w.heap.size + 1, 0, none⟩ = some (.int .i64 s.lot) := hxb.at_ 0
  have pl1 : v1.cell? ⟨w.heap.size + 1, 1, none⟩ = some (.int .i64 s.hour) := hxb.at_ 1
  have pl2 : v1.cell? ⟨w.heap.size + 1, 2, none⟩ = some (.bool s.turned) := hxb.at_ 2
  have pg4 : v1.cell? ⟨v0.heap.size, 4, none⟩ = some (.slice A4 c.seen.length c4) := b1.at_ 4
  have fg4 := b1.free 4
  have HSE := hide hse
  have HB1 := hide b1
  have HA3 := hide hA3
  clear hse b1 hA3 hxb HXB
  refine wp_post0 (fun act0 a W => ∃ vs : Nat → Value, a = { tmps := setAll (fun oi => [21, 22, 23, 24, 25, 26, 27, 28, 0].getD oi 0) vs [0, 1, 2, 3, 4, 5, 6, 7] act0.tmps, defers := act0.defers } ∧ ∃ (W1 : World) (A : Option Addr) (cp : Nat), W = W1.setCell ⟨v0.heap.size, 4, none⟩ (.slice A (c.seen.length + 1) cp) ∧ Below v1.heap.size v1 W1 ∧ W1.ownsRow v1.heap.size 80 3 (.slice A (c.seen.length + 1) cp) (c.seen.length + 1) ((List.range (c.seen.length * 3)).map (seenF c.seen) ++ (List.range (1 * 3)).map (fun j => [.int .i64 s.lot, .int .i64 s.hour, .bool s.turned].getD j undef))) ?reg ?imp
  case reg =>
    have hST : Stab v1.heap.size (fun oi v W => match oi with | 0 => ∃ A cp, v = .slice A 0 cp ∧ W.ownsRow v1.heap.size 80 3 (.slice A 0 cp) 0 ([]) | 1 => v = .pointer (some ⟨w.heap.size, 4, none⟩) | 2 => v = .slice A4 c.seen.length c4 | 3 => ∃ A cp, v = .slice A c.seen.length cp ∧ W.ownsRow v1.heap.size 80 3 (.slice A c.seen.length cp) c.seen.length ((List.range (c.seen.length * 3)).map (seenF c.seen)) | 4 => v = .agg #[.int .i64 s.lot, .int .i64 s.hour, .bool s.turned] | 5 => ∃ A cp, v = .slice A 1 cp ∧ W.ownsRow v1.heap.size 80 3 (.slice A 1 cp) 1 ([.int .i64 s.lot, .int .i64 s.hour, .bool s.turned]) | 6 => ∃ A cp, v = .slice A (c.seen.length + 1) cp ∧ W.ownsRow v1.heap.size 80 3 (.slice A (c.seen.length + 1) cp) (c.seen.length + 1) ((List.range (c.seen.length * 3)).map (seenF c.seen) ++ (List.range (1 * 3)).map (fun j => [.int .i64 s.lot, .int .i64 s.hour, .bool s.turned].getD j undef)) | _ => True) (fun oi v b => match oi with | 0 => v.ownBlock = some b | 3 => v.ownBlock = some b | 5 => v.ownBlock = some b | 6 => v.ownBlock = some b | _ => False) := by
      intro oi v W W' h hbs hz hk
      match oi, h, hk with
      | 0, h, hk => obtain ⟨A, cp, rfl, h2⟩ := h; exact ⟨A, cp, rfl, own_stab h2 (fun b hb e => hk b hb (.inr e))⟩
      | 1, h, hk => exact h
      | 2, h, hk => exact h
      | 3, h, hk => obtain ⟨A, cp, rfl, h2⟩ := h; exact ⟨A, cp, rfl, own_stab h2 (fun b hb e => hk b hb (.inr e))⟩
      | 4, h, hk => exact h
      | 5, h, hk => obtain ⟨A, cp, rfl, h2⟩ := h; exact ⟨A, cp, rfl, own_stab h2 (fun b hb e => hk b hb (.inr e))⟩
      | 6, h, hk => obtain ⟨A, cp, rfl, h2⟩ := h; exact ⟨A, cp, rfl, own_stab h2 (fun b hb e => hk b hb (.inr e))⟩
      | oi + 7, h, hk => exact trivial
    refine wp_region_inv (dst := fun oi => [21, 22, 23, 24, 25, 26, 27, 28, 0].getD oi 0) (mono := fun oi => decide (oi < 7)) (pre := fun oi => decide (oi < 7)) (G := Loose 9 v1.heap.size (fun oi => match oi with | 0 => 3 | 3 => 6 | _ => 9) (fun oi v W => match oi with | 0 => ∃ A cp, v = .slice A 0 cp ∧ W.ownsRow v1.heap.size 80 3 (.slice A 0 cp) 0 ([]) | 1 => v = .pointer (some ⟨w.heap.size, 4, none⟩) | 2 => v = .slice A4 c.seen.length c4 | 3 => ∃ A cp, v = .slice A c.seen.length cp ∧ W.ownsRow v1.heap.size 80 3 (.slice A c.seen.length cp) c.seen.length ((List.range (c.seen.length * 3)).map (seenF c.seen)) | 4 => v = .agg #[.int .i64 s.lot, .int .i64 s.hour, .bool s.turned] | 5 => ∃ A cp, v = .slice A 1 cp ∧ W.ownsRow v1.heap.size 80 3 (.slice A 1 cp) 1 ([.int .i64 s.lot, .int .i64 s.hour, .bool s.turned]) | 6 => ∃ A cp, v = .slice A (c.seen.length + 1) cp ∧ W.ownsRow v1.heap.size 80 3 (.slice A (c.seen.length + 1) cp) (c.seen.length + 1) ((List.range (c.seen.length * 3)).map (seenF c.seen) ++ (List.range (1 * 3)).map (fun j => [.int .i64 s.lot, .int .i64 s.hour, .bool s.turned].getD j undef)) | _ => True) (fun oi v b => match oi with | 0 => v.ownBlock = some b | 3 => v.ownBlock = some b | 5 => v.ownBlock = some b | 6 => v.ownBlock = some b | _ => False)) (by kernel_rfl) (by kernel_rfl) (Loose.start (Nat.le_refl _)) ?hstep ?hend
    case hstep =>
      intro oi hoi hom listed vs a W hU hsz hG hcl hl haft K hK
      have hb := ((Below.refl v1.heap.size v1).drew).trans hU.below
      have hF := Loose.stepF hU hG hST hoi hK
      match oi, hoi, hom with
      | 0, hoi, hom =>
        refine wpOp_value (v := .slice (some ⟨W.heap.size, 0, none⟩) 0 0) (W' := (W.alloc (.cells #[] 80))) rfl rfl ?_ (hF _ _ ((Below.refl _ _).alloc (Nat.le_refl _) _) (own_lit hG.base #[] 0 rfl (by simp [maxLen])) (fun b h => by rw [← own_new h]; exact ⟨by simp, .inl (Nat.le_refl _)⟩))
        go_simp
      | 1, hoi, hom =>
        have z3 : a.tmps[3]?.getD undef = .pointer (some ⟨w.heap.size, 0, none⟩) := hU.same 3 (by decide)
        refine wpOp_value (v := .pointer (some ⟨w.heap.size, 4, none⟩)) (W' := W) rfl rfl ?_ (hF _ _ (Below.refl _ _) rfl (fun _ h => False.elim h))
        go_simp
      | 2, hoi, hom =>
        have l1 := haft _ rfl { on := 1, ground := .data } (by simp) rfl
        have p1 := hG.pv 1 (by decide) (live_end hsz rfl l1)
        have s1 : a.tmps[22]?.getD undef = vs 1 := hU.slot 1 (by decide) l1
        have hv1 : vs 1 = .pointer (some ⟨w.heap.size, 4, none⟩) := p1
        rw [hv1] at s1
        have y0 := (hb.cell (p := ⟨w.heap.size, 4, none⟩) (z0)).trans (pb4)
        refine wpOp_value (v := .slice A4 c.seen.length c4) (W' := W) rfl rfl ?_ (hF _ _ (Below.refl _ _) rfl (fun _ h => False.elim h))
        go_simp
      | 3, hoi, hom =>
        have l0 := haft _ rfl { on := 0, ground := .data } (by simp) rfl
        have p0 := hG.pv 0 (by decide) (⟨l0, hl⟩)
        have s0 : a.tmps[21]?.getD undef = vs 0 := hU.slot 0 (by decide) l0
        obtain ⟨PA0, kp0, hv0, hi0⟩ := p0
        rw [hv0] at s0
        have l2 := haft _ rfl { on := 2, ground := .data } (by simp) rfl
        have p2 := hG.pv 2 (by decide) (live_end hsz rfl l2)
        have s2 : a.tmps[23]?.getD undef = vs 2 := hU.slot 2 (by decide) l2
        have hv2 : vs 2 = .slice A4 c.seen.length c4 := p2
        rw [hv2] at s2
        have hA := Loose.stepA (p := 0) hU hG rfl hST hoi hK (by decide) (by decide) rfl ⟨l0, hl⟩ (fun b h => h) (by rw [hv0]; exact hi0)
        obtain ⟨v', W', hrun, hown', hg, hblk⟩ := run_app_row (P := Try.prog) W v1.heap.size 25 25 80 i4 (.agg #[.int .i64 0, .int .i64 0, .bool false]) 3 24 Try.underlying25 hI4 hz40 hz41 hz42 rfl (by decide) hi0 (HSE.out.below hb) (fun j h => seen_one _ j _ h) (by simp only [maxLen]; omega) (by omega) hG.base
        rw [Nat.zero_add, List.nil_append] at hown'
        exact wpOp_append (s := 21) (x := 23) (v' := v') (W' := W') rfl rfl rfl s0 s2 hrun (hA _ _ _ _ (by rw [hv0]; exact hg) hown' (by rw [hv0]; exact hblk) (own_ex hown') (fun b h => h))
      | 4, hoi, hom =>
        have z4 : a.tmps[4]?.getD undef = .pointer (some ⟨w.heap.size + 1, 0, none⟩) := hU.same 4 (by decide)
        have y0 := (hb.cell (p := ⟨w.heap.size + 1, 0, none⟩) (z1)).trans (pl0)
        have y1 := (hb.cell (p := ⟨w.heap.size + 1, 1, none⟩) (z1)).trans (pl1)
        have y2 := (hb.cell (p := ⟨w.heap.size + 1, 2, none⟩) (z1)).trans (pl2)
        refine wpOp_value (v := .agg #[.int .i64 s.lot, .int .i64 s.hour, .bool s.turned]) (W' := W) rfl rfl ?_ (hF _ _ (Below.refl _ _) rfl (fun _ h => False.elim h))
        go_simp
      | 5, hoi, hom =>
        have l4 := haft _ rfl { on := 4, ground := .data } (by simp) rfl
        have p4 := hG.pv 4 (by decide) (live_end hsz rfl l4)
        have s4 : a.tmps[25]?.getD undef = vs 4 := hU.slot 4 (by decide) l4
        have hv4 : vs 4 = .agg #[.int .i64 s.lot, .int .i64 s.hour, .bool s.turned] := p4
        rw [hv4] at s4
        refine wpOp_value (v := .slice (some ⟨W.heap.size, 0, none⟩) 1 1) (W' := (W.alloc (.cells #[.int .i64 s.lot, .int .i64 s.hour, .bool s.turned] 80))) rfl rfl ?_ (hF _ _ ((Below.refl _ _).alloc (Nat.le_refl _) _) (own_lit hG.base #[.int .i64 s.lot, .int .i64 s.hour, .bool s.turned] 1 rfl (by simp [maxLen])) (fun b h => by rw [← own_new h]; exact ⟨by simp, .inl (Nat.le_refl _)⟩))
        go_simp
      | 6, hoi, hom =>
        have l3 := haft _ rfl { on := 3, ground := .data } (by simp) rfl
        have p3 := hG.pv 3 (by decide) (⟨l3, hl⟩)
        have s3 : a.tmps[24]?.getD undef = vs 3 := hU.slot 3 (by decide) l3
        obtain ⟨PA3, kp3, hv3, hi3⟩ := p3
        rw [hv3] at s3
        have l5 := haft _ rfl { on := 5, ground := .data } (by simp) rfl
        have p5 := hG.pv 5 (by decide) (live_end hsz rfl l5)
        have s5 : a.tmps[26]?.getD undef = vs 5 := hU.slot 5 (by decide) l5
        obtain ⟨PA5, kp5, hv5, hi5⟩ := p5
        rw [hv5] at s5
        obtain ⟨_, _, e5, _, _, hr5⟩ := row_own hi5
        obtain ⟨rfl, rfl⟩ : _ = PA5 ∧ _ = kp5 := by simp only [Value.slice.injEq, true_and] at e5; exact ⟨e5.1.symm, e5.2.symm⟩
        have hA := Loose.stepA (p := 3) hU hG rfl hST hoi hK (by decide) (by decide) rfl ⟨l3, hl⟩ (fun b h => h) (by rw [hv3]; exact hi3)
        obtain ⟨v', W', hrun, hown', hg, hblk⟩ := run_app_row (P := Try.prog) W v1.heap.size 25 25 80 i4 (.agg #[.int .i64 0, .int .i64 0, .bool false]) 3 24 Try.underlying25 hI4 hz40 hz41 hz42 rfl (by decide) hi3 hr5 (one3 _ _ _) (by simp only [maxLen]; omega) (by omega) hG.base
        exact wpOp_append (s := 24) (x := 26) (v' := v') (W' := W') rfl rfl rfl s3 s5 hrun (hA _ _ _ _ (by rw [hv3]; exact hg) hown' (by rw [hv3]; exact hblk) (own_ex hown') (fun b h => h))
      | oi + 7, hoi, hom => exact absurd (of_decide_eq_true hom) (by omega)
    case hend =>
      intro listed vs a W hG0 hG hpre
      have hb := ((Below.refl v1.heap.size v1).drew).trans hG0.below
      have hact := hG0.act
      have hT := hG0.lst hpre 0 #[true, true, true, true, true, true, true, false, false] rfl (by kernel_rfl) (hpre 0 (by decide) (by decide))
      rw [hG0.ix hT (l := [0, 1, 2, 3, 4, 5, 6]) (by kernel_rfl)] at hact
      rw [hG0.lo hT (k := 2) (by kernel_rfl)]
      have p6 := hG.pv 6 (by decide) (live_end hG.size rfl (hpre 6 (by decide) (by decide)))
      clear hpre hG hST
      obtain rfl : a = _ := hact
      subst hT
      obtain ⟨A, cp, hv6, hi6⟩ := p6
      have y4 := (hb.cell (p := ⟨v0.heap.size, 4, none⟩) zg).trans pg4
      have f4 := (hb.frozen (p := ⟨v0.heap.size, 4, none⟩) zg).trans fg4
      simp only [setAll, List.setIfInBounds_toArray, List.set_cons_succ, List.set_cons_zero, List.getD_cons_succ, List.getD_cons_zero]
      refine wpAny_all (rs := [7]) (by kernel_rfl) (by simp) ?_
      intro i2 hi2
      obtain rfl : i2 = 7 := by simpa using hi2
      refine wpOp_value (v := .pointer (some ⟨v0.heap.size, 4, none⟩)) (W' := W) rfl rfl ?_ ?_
      · go_simp
      refine wpAny_all (rs := [8]) (by kernel_rfl) (by simp) ?_
      intro i2 hi2
      obtain rfl : i2 = 8 := by simpa using hi2
      refine wpOp_skip (W' := W.setCell ⟨v0.heap.size, 4, none⟩ (.slice A (c.seen.length + 1) cp)) rfl rfl ?_ ?_
      · rw [hv6]; go_simp
      refine wpAny_done (by kernel_rfl) ?_ _
      exact ⟨rfl, fun q => if q = 7 then .pointer (some ⟨v0.heap.size, 4, none⟩) else vs q, rfl, W, A, cp, rfl, hb, hi6⟩
  case imp =>
  rintro a9 w2 ⟨vs, rfl, W1, A, cp, rfl, hb1, hown⟩
  simp only [setAll, List.setIfInBounds_toArray, List.set_cons_succ, List.set_cons_zero, List.getD_cons_succ, List.getD_cons_zero]
  rw [seen_snoc] at hown
  have b0 := (HB1.out.below hb1 zg).store 4 (.slice A (c.seen.length + 1) cp)
  have hk1 : Keep (fun q => q = v0.heap.size) W1 (W1.setCell ⟨v0.heap.size, 4, none⟩ (.slice A (c.seen.length + 1) cp)) := Keep.setCell _ _ _ _ rfl
  have ho := own_kept hown hk1 (fun b hb hS => by omega)
  have hb2 : Below v0.heap.size v0 (W1.setCell ⟨v0.heap.size, 4, none⟩ (.slice A (c.seen.length + 1) cp)) := (HA3.out.trans (hb1.mono (Nat.le_of_lt zg))).setCell (p := ⟨v0.heap.size, 4, none⟩) (Nat.le_refl _) (.slice A (c.seen.length + 1) cp)
  obtain ⟨m1, m2, hr⟩ := row_fun (f := seenF (c.seen ++ [s])) (m := (c.seen.length + 1)) ho
  have b2 : Blk (W1.setCell ⟨v0.heap.size, 4, none⟩ (.slice A (c.seen.length + 1) cp)) v0.heap.size 27 #[.slice A1 c.heat.length c1, .int .i64 c.gas, .slice A2 c.holds.length c2, .slice A3 c.lots.length c3, .slice A (c.seen.length + 1) cp] := b0
  clear ho hk1 hown hb1 b0 HB1 HA3 HSE pb4 pl0 pl1 pl2 pg4 fg4 hI4 hz40 hz41 hz42 z0 z1 zg
  generalize W1.setCell ⟨v0.heap.size, 4, none⟩ (.slice A (c.seen.length + 1) cp) = v2 at *
  have HK := hide (HK.out.next hb2)
  have HB := hide (HB.out.trans (hb2.mono HB.out.size))
  have hcv : CargoV v2 v2.heap.size c A1 A2 A3 A4 c1 c2 c3 c4 := HK.out.1
  have HKZ : Hid (BoxC v2 v0.heap.size (moreS c s) A1 A2 A3 A c1 c2 c3 cp) := hide ⟨⟨hcv.heat, hcv.holds, hcv.lots, by simpa [moreS] using hr, hcv.m1, hcv.m2, hcv.m3, by simpa [moreS] using ⟨m1, m2⟩⟩, b2.lt, b2.at_ 0, b2.at_ 1, b2.at_ 2, b2.at_ 3, by simpa [moreS] using b2.at_ 4⟩
  clear hcv hr m1 m2 b2 hb2 HV z
  generalize moreS c s = zc at *
  cases hs1 : someL c with
  | false =>
    have HS1 := hide hs1
    clear hs1 HMO
    obtain ⟨hv, z, x0, x1, x2, x3, x4⟩ := HK.out
    have HV := hide hv
    clear hv
    go_wp2_with (first | (go_at_call 51; refine (someL_any HV.out).mono ?_; rintro e v3 ⟨rfl, hb⟩; (first | rw [HS1.out]); have HB := hide (HB.out.trans (hb.mono HB.out.size)); have HK := hide (HK.out.next hb); have HKZ := hide (HKZ.out.next hb); clear hb z x0 x1 x2 x3 x4 HV; obtain ⟨hv, z, x0, x1, x2, x3, x4⟩ := HKZ.out; have HV := hide hv; clear hv) | (go_at_call 23; refine (awake_any _).mono ?_; rintro e v10 ⟨rfl, hb⟩))
    go_ret
    exact ⟨rfl, HB.out.trans (hb.mono HB.out.size)⟩
  | true =>
    have HS1 := hide hs1
    cases hs2 : someL zc with
    | false =>
      have HS2 := hide hs2
      clear hs1 hs2 HMO
      obtain ⟨hv, z, x0, x1, x2, x3, x4⟩ := HK.out
      have HV := hide hv
      clear hv
      go_wp2_with (first | (go_at_call 51; refine (someL_any HV.out).mono ?_; rintro e v3 ⟨rfl, hb⟩; (first | rw [HS1.out] | rw [HS2.out]); have HB := hide (HB.out.trans (hb.mono HB.out.size)); have HK := hide (HK.out.next hb); have HKZ := hide (HKZ.out.next hb); clear hb z x0 x1 x2 x3 x4 HV; obtain ⟨hv, z, x0, x1, x2, x3, x4⟩ := HKZ.out; have HV := hide hv; clear hv) | (go_at_call 23; refine (awake_any _).mono ?_; rintro e v10 ⟨rfl, hb⟩))
      go_ret
      exact ⟨rfl, HB.out.trans (hb.mono HB.out.size)⟩
    | true =>
      have HS2 := hide hs2
      have hp0 := Int.emod_nonneg x (show ((c.heat.length : Int) + 1) ≠ 0 by omega)
      have hp1 := Int.emod_lt_of_pos x (show 0 < ((c.heat.length : Int) + 1) by omega)
      obtain ⟨hl4, hh8, hmo⟩ := HMO.out hs1 hs2 (at_ := x % ((c.heat.length : Int) + 1)) (by omega)
      have HM := hide hmo
      clear hs1 hs2 HMO hmo
      obtain ⟨hv, z, x0, x1, x2, x3, x4⟩ := HK.out
      have HV := hide hv
      clear hv
      go_wp2_with (first | (go_at_call 51; refine (someL_any HV.out).mono ?_; rintro e v3 ⟨rfl, hb⟩; (first | rw [HS1.out] | rw [HS2.out]); have HB := hide (HB.out.trans (hb.mono HB.out.size)); have HK := hide (HK.out.next hb); have HKZ := hide (HKZ.out.next hb); clear hb z x0 x1 x2 x3 x4 HV; obtain ⟨hv, z, x0, x1, x2, x3, x4⟩ := HKZ.out; have HV := hide hv; clear hv) | (go_at_call 23; refine (awake_any _).mono ?_; rintro e v10 ⟨rfl, hb⟩))
      clear HV z x0 x1 x2 x3 x4
      go_loopw [8, 9, 10, 11, 12, 13, 14] (fun v8 _ _ _ _ _ _ wr => ∃ i : Nat, i ≤ c.lots.length ∧ v8 = .int .i64 i ∧ Hid (BoxC wr w.heap.size c A1 A2 A3 A4 c1 c2 c3 c4) ∧ Hid (BoxC wr v0.heap.size zc A1 A2 A3 A c1 c2 c3 cp) ∧ Hid (Below w.heap.size w wr)) (fun v8 _ _ _ _ _ _ _ => c.lots.length - (intOf v8).toNat)
      case atStart => exact ⟨0, by omega, rfl, HK, HKZ, HB⟩
      case round =>
        clear HK HKZ HB
        obtain ⟨i, hi, rfl, HK, HKZ, HB⟩ := hrel
        by_cases hli : i < c.lots.length
        · have hi1 : (i : Int) < (c.lots.length : Int) := by omega
          have hi0 : (0 : Int) ≤ (i : Int) := Int.natCast_nonneg _
          obtain ⟨e1, e2, e3, e4⟩ := HM.out.turns i hli
          have HT1 := hide (fun (W : World) A1 A2 A3 A4 c1 c2 c3 c4 (h : CargoV W W.heap.size c A1 A2 A3 A4 c1 c2 c3 c4) => (show Calls Try.prog 18 #[cargoVal c A1 A2 A3 A4 c1 c2 c3 c4, .int .i64 (i : Int)] W fun e w' => e = .returned (.tuple #[.agg #[.int .i64 (nth (turnsR c i).1.1 0), .int .i64 (nth (turnsR c i).1.1 1)], .int .i64 (turnsR c i).1.2, .int .i64 0]) ∧ Below W.heap.size W w' from by have := turnsW_any h (i : Int); rw [e1] at this; exact this))
          have HT2 := hide (fun (W : World) A1 A2 A3 A4 c1 c2 c3 c4 (h : CargoV W W.heap.size zc A1 A2 A3 A4 c1 c2 c3 c4) => (show Calls Try.prog 18 #[cargoVal zc A1 A2 A3 A4 c1 c2 c3 c4, .int .i64 (i : Int)] W fun e w' => e = .returned (.tuple #[.agg #[.int .i64 (nth (turnsR zc i).1.1 0), .int .i64 (nth (turnsR zc i).1.1 1)], .int .i64 (turnsR zc i).1.2, .int .i64 0]) ∧ Below W.heap.size W w' from by have := turnsW_any h (i : Int); rw [e2] at this; exact this))
          clear e1 e2
          generalize nth (turnsR c i).1.1 0 = plo at *
          generalize nth (turnsR c i).1.1 1 = phi at *
          generalize (turnsR c i).1.2 = m at *
          generalize nth (turnsR zc i).1.1 0 = qlo at *
          generalize nth (turnsR zc i).1.1 1 = qhi at *
          generalize (turnsR zc i).1.2 = n at *
          have HE3 := hide e3
          have HE4 := hide e4
          clear e3 e4
          obtain ⟨hv, z, x0, x1, x2, x3, x4⟩ := HK.out
          have HV := hide hv
          clear hv
          go_upto_region 9 with (go_at_call 18; refine (HT1.out _ _ _ _ _ _ _ _ _ HV.out).mono ?_; rintro e v4 ⟨rfl, hb⟩)
          have HK := hide (HK.out.next hb)
          have HKZ := hide (HKZ.out.next hb)
          have HB := hide (HB.out.trans (hb.mono (by have := HB.out.size; exact this)))
          clear hb
          clear z x0 x1 x2 x3 x4 HV
          have hb : Below v4.heap.size v4 (v4.alloc (.cells #[.int .i64 plo, .int .i64 phi] 32)) := (Below.refl _ _).alloc (Nat.le_refl _) _
          have HP : Hid (BoxS (v4.alloc (.cells #[.int .i64 plo, .int .i64 phi] 32)) v4.heap.size (plo) (phi)) := hide BoxS.made
          have HK := hide (HK.out.next hb)
          have HKZ := hide (HKZ.out.next hb)
          have HB := hide (HB.out.trans (hb.mono (by have := HB.out.size; exact this)))
          clear hb
          generalize (v4.alloc (.cells #[.int .i64 plo, .int .i64 phi] 32)) = u4 at *
          obtain ⟨hv, z, x0, x1, x2, x3, x4⟩ := HKZ.out
          have HV := hide hv
          clear hv
          go_upto_region 10 with (go_at_call 18; refine (HT2.out _ _ _ _ _ _ _ _ _ HV.out).mono ?_; rintro e v5 ⟨rfl, hb⟩)
          have HK := hide (HK.out.next hb)
          have HKZ := hide (HKZ.out.next hb)
          have HP := hide (HP.out.next hb)
          have HB := hide (HB.out.trans (hb.mono (by have := HB.out.size; exact this)))
          clear hb
          clear z x0 x1 x2 x3 x4 HV
          have hb : Below v5.heap.size v5 (v5.alloc (.cells #[.int .i64 qlo, .int .i64 qhi] 32)) := (Below.refl _ _).alloc (Nat.le_refl _) _
          have HQ : Hid (BoxS (v5.alloc (.cells #[.int .i64 qlo, .int .i64 qhi] 32)) v5.heap.size (qlo) (qhi)) := hide BoxS.made
          have HK := hide (HK.out.next hb)
          have HKZ := hide (HKZ.out.next hb)
          have HP := hide (HP.out.next hb)
          have HB := hide (HB.out.trans (hb.mono (by have := HB.out.size; exact this)))
          clear hb
          generalize (v5.alloc (.cells #[.int .i64 qlo, .int .i64 qhi] 32)) = u5 at *
          clear HT1 HT2
          obtain ⟨zp, p0, p1⟩ := HP.out
          obtain ⟨zq, q0, q1⟩ := HQ.out
          cases hm : (m != 0)
          all_goals cases hn : (n != 2)
          all_goals
            have l0 : (m != 0) = true → (m != n) = false := fun h => by have := HE3.out (by simpa using h); simp [this]
            have l1 : (n != 2) = true → decide (qlo < plo) = false := fun h => by have := HE4.out (by simpa using h); simp; omega
            have l2 : (n != 2) = true → decide (qhi > phi) = false := fun h => by have := HE4.out (by simpa using h); simp; omega
            have l3 : (n != 2) = true → decide (phi < qhi) = false := l2
          all_goals try have l0 := l0 hm
          all_goals try have l1 := l1 hn
          all_goals try have l2 := l2 hn
          all_goals try have l3 := l3 hn
          all_goals
            go_wp2_with fail
            go_roundw
            case rel => exact ⟨i + 1, by omega, by go_num, HK, HKZ, HB⟩
            case measure => simp [intOf]; omega
        · have hii : i = c.lots.length := by omega
          subst hii
          obtain ⟨hv, z, x0, x1, x2, x3, x4⟩ := HK.out
          clear hv
          have hm1 : x.tmod ((c.heat.length : Int) + 1) = x % ((c.heat.length : Int) + 1) := Int.tmod_eq_emod_of_nonneg hx.1
          have hz1 : (((c.heat.length : Int) + 1) == 0) = false := by rw [beq_eq_false_iff_ne]; omega
          have hz2 : ((c.heat.length : Int) + 1) ≠ 0 := by omega
          have hl0 : (0 : Int) ≤ (c.heat.length : Int) := Int.natCast_nonneg _
          have hl1 : (c.heat.length : Int) ≤ 8 := by omega
          have hw1 : IntKind.i64.wrap ((c.heat.length : Int) + 1) = ((c.heat.length : Int) + 1) := IntWalk.i64_in _ (by omega)
          have hw2 : IntKind.i64.wrap (x % ((c.heat.length : Int) + 1)) = x % ((c.heat.length : Int) + 1) := IntWalk.i64_in _ (by omega)
          have hw4 : IntKind.i64.wrap x = x := IntWalk.i64_in _ (by omega)
          go_upto_region 13 with (fail)
          clear hm1 hz1 hz2 hw1 hw2 hw4 z x0 x1 x2 x3 x4 hl0 hl1
          have e1 := HM.out.safe0
          have e2 := HM.out.safe1
          have e3 : subB (natInts (safeR c (x % ((c.heat.length : Int) + 1)))) (natInts (safeR zc (x % ((c.heat.length : Int) + 1)))) = true := List.all_eq_true.2 HM.out.sub
          clear HM hp0 hp1
          generalize x % ((c.heat.length : Int) + 1) = at_ at *
          have HS3 := hide (fun (W : World) A1 A2 A3 A4 c1 c2 c3 c4 (h : CargoV W W.heap.size c A1 A2 A3 A4 c1 c2 c3 c4) => (show Calls Try.prog 20 #[cargoVal c A1 A2 A3 A4 c1 c2 c3 c4, .int .i64 at_] W fun e w' => ∃ A cp, e = .returned (.tuple #[.slice A (safeR c at_).length cp, .int .i64 0]) ∧ IntsS w' w'.heap.size A (safeR c at_).length cp (natInts (safeR c at_)) ∧ Below W.heap.size W w' from by have := safeW_any h at_; rw [e1] at this; exact this))
          have HS4 := hide (fun (W : World) A1 A2 A3 A4 c1 c2 c3 c4 (h : CargoV W W.heap.size zc A1 A2 A3 A4 c1 c2 c3 c4) => (show Calls Try.prog 20 #[cargoVal zc A1 A2 A3 A4 c1 c2 c3 c4, .int .i64 at_] W fun e w' => ∃ A cp, e = .returned (.tuple #[.slice A (safeR zc at_).length cp, .int .i64 0]) ∧ IntsS w' w'.heap.size A (safeR zc at_).length cp (natInts (safeR zc at_)) ∧ Below W.heap.size W w' from by have := safeW_any h at_; rw [e2] at this; exact this))
          clear e1 e2
          have HSU := hide e3
          clear e3
          generalize safeR c at_ = sa at *
          generalize safeR zc at_ = sb at *
          obtain ⟨hv, z, x0, x1, x2, x3, x4⟩ := HK.out
          have HV := hide hv
          clear hv
          go_upto_region 14 with (go_at_call 20; refine (HS3.out _ _ _ _ _ _ _ _ _ HV.out).mono ?_; rintro e v6 ⟨R1, r1, rfl, hi, hb⟩)
          have HK := hide (HK.out.next hb)
          have HKZ := hide (HKZ.out.next hb)
          have HB := hide (HB.out.trans (hb.mono (by have := HB.out.size; exact this)))
          clear hb
          have HI1 := hide hi
          clear hi
          clear z x0 x1 x2 x3 x4 HV
          obtain ⟨hv, z, x0, x1, x2, x3, x4⟩ := HKZ.out
          have HV := hide hv
          clear hv
          go_upto_region 15 with (go_at_call 20; refine (HS4.out _ _ _ _ _ _ _ _ _ HV.out).mono ?_; rintro e v7 ⟨R2, r2, rfl, hi, hb⟩)
          have HK := hide (HK.out.next hb)
          have HKZ := hide (HKZ.out.next hb)
          have HI1 := hide (HI1.out.next hb)
          have HB := hide (HB.out.trans (hb.mono (by have := HB.out.size; exact this)))
          clear hb
          have HI2 := hide hi
          clear hi
          clear z x0 x1 x2 x3 x4 HV
          go_wp2_with (first | (go_at_call 52; refine (subset_any HI1.out HI2.out HSU.out).mono ?_; rintro e v9 ⟨rfl, rfl⟩) | (go_at_call 23; refine (awake_any _).mono ?_; rintro e v10 ⟨rfl, hb⟩))
          go_ret
          exact ⟨rfl, HB.out.trans (hb.mono HB.out.size)⟩
end Go.Proofs.Ytbkknliggnhpcaa
