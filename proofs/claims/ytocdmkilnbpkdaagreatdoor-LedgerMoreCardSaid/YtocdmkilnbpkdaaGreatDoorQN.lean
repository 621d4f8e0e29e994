/- LedgerMore. -/
import Derived.Test.YtocdmkilnbpkdaaGreatDoorQM
import Derived.Test.YtocdmkilnbpkdaaGreatDoorVQ
import Derived.OwnWalkIn
import Derived.SizedLaws
import Derived.OwnWalk
import Derived.Laws.AppendOwn
import Derived.Laws.StructEq
import Derived.TacticsInMore
import Derived.Deep.DeepCutAuto
set_option linter.unusedVariables false
set_option linter.unusedSimpArgs false
namespace Go.Proofs.YtocdmkilnbpkdaaGreatDoor
open Go.RowKit
attribute [local go_sem] Oper.semAt_some

theorem one3 (a b d : Int) (j : Nat) (hj : j < 1 * 3) : (([Value.int .i64 a, .int .i64 b, .int .i64 d] : List Value).getD j undef).oneCell' = true := by
 match j, hj with
 | 0, _ => rfl
 | 1, _ => rfl
 | 2, _ => rfl
theorem tallies_snoc (xs : List Tally) (x : Tally) : (List.range (xs.length * 3)).map (talliesF xs) ++ (List.range (1 * 3)).map (fun j => ([Value.int .i64 x.step, .int .i64 x.hands, .int .i64 x.off] : List Value).getD j undef) = (List.range ((xs.length + 1) * 3)).map (talliesF (xs ++ [x])) := by
 have e : nth (xs ++ [x]) xs.length = x := by simp [nth]
 rw [range3 xs.length, List.map_append]
 congr 1
 · exact List.map_congr_left fun j hj => by
    have hj := List.mem_range.1 hj
    have e : nth (xs ++ [x]) (j / 3) = nth xs (j / 3) := by simp [nth, List.getElem?_append_left (show j / 3 < xs.length by omega)]
    rw [talliesF, talliesF, e]
 · show _ = [_, _, _]
   rw [talliesF, talliesF, talliesF, show xs.length * 3 % 3 = 0 by omega, show (xs.length * 3 + 1) % 3 = 1 by omega, show (xs.length * 3 + 2) % 3 = 2 by omega, show xs.length * 3 / 3 = xs.length by omega, show (xs.length * 3 + 1) / 3 = xs.length by omega, show (xs.length * 3 + 2) / 3 = xs.length by omega, e]
   rfl
theorem reach_more {n : Nat} (h : n * 24 ≤ reachBytes) : (n + 1) * 24 ≤ 140737488355328 := by unfold reachBytes at h; omega
theorem miss_of {b : Book} (h : someV b = true) : missV b = (sureTo b b.steps.length, mayTo b b.steps.length, 0) := by
 rw [missV, if_pos (show enterK b 0 = 0 from enter_at h (i := 0) (some_good h).1.pos)]
theorem first_of {b : Book} (h : someV b = true) : firstV b = (firstL b b.steps.length, 0) := by
 rw [firstV, if_pos (show enterK b 0 = 0 from enter_at h (i := 0) (some_good h).1.pos)]
theorem okS_of {b : Book} (h : someV b = true) {i : Nat} (hi : i < b.steps.length) (f : Nat → Span) : okS b (i : Int) (f (i : Int).toNat) = f i := by
 rw [okS, if_pos (enter_at h hi)]; rfl
theorem withB_two {a b c d : Int} (h : withB ⟨a, b⟩ ⟨c, d⟩ = true) : c ≤ a ∧ b ≤ d := withB_iff.1 h
set_option maxHeartbeats 4000000 in
set_option maxRecDepth 100000 in
theorem ledgerMore_any {m : Int} {b : Book} {a : BA} {w : World} (hm : w.cell? ⟨0, 0, none⟩ = some (.int .i64 m)) (hw0 : 0 < w.heap.size) (h : BookV w w.heap.size b a) (hr : b.tallies.length * 24 ≤ reachBytes) (x : Tally) :
 Calls Tryz.prog 11 #[bookVal b a, .agg #[.int .i64 x.step, .int .i64 x.hands, .int .i64 x.off]] w fun e w' => e = .returned (.bool true) ∧ Below w.heap.size w w' := by
 obtain ⟨i4, hI4, hz40, hz41, hz42⟩ := info_parts Tryz.infoTally
 have hrb := reach_more hr
 clear hr
 have hA1 : Below w.heap.size w (w.alloc (.cells (bookCells b a) 25)) := (Below.refl _ _).alloc (Nat.le_refl _) _
 have hA2 : Below (w.alloc (.cells (bookCells b a) 25)).heap.size (w.alloc (.cells (bookCells b a) 25)) ((w.alloc (.cells (bookCells b a) 25)).alloc (.cells #[.int .i64 x.step, .int .i64 x.hands, .int .i64 x.off] 50)) := (Below.refl _ _).alloc (Nat.le_refl _) _
 have hAB := hA1.trans (hA2.mono hA1.size)
 have HX := hide ((BoxB.made h).next hA2)
 have HG := hide ((hAB.cell (p := ⟨0, 0, none⟩) hw0).trans hm)
 have hz0 := Nat.lt_of_lt_of_le hw0 hAB.size
 have HB := hide hAB
 have bx : Blk ((w.alloc (.cells (bookCells b a) 25)).alloc (.cells #[.int .i64 x.step, .int .i64 x.hands, .int .i64 x.off] 50)) (w.heap.size + 1) 50 #[.int .i64 x.step, .int .i64 x.hands, .int .i64 x.off] := Blk.made' (by simp)
 have HXB := hide bx
 have hsm : b.tallies.length ≤ maxLen := Nat.le_trans h.m2.1 h.m2.2
 unfold maxLen at hsm
 clear hA1 hA2 hAB bx h hm hw0
 go_enter Tryz.func11, Tryz.ntmps11
 go_upto_region 1 with (fail)
 generalize ((w.alloc (.cells (bookCells b a) 25)).alloc (.cells #[.int .i64 x.step, .int .i64 x.hands, .int .i64 x.off] 50)) = v0 at *
 obtain ⟨gx, x0, x1⟩ := HX.out.cells
 go_upto_region 2 with (fail)
 have b1 : Blk (v0.alloc (.cells (bookCells b a) 25)) v0.heap.size 25 (bookCells b a) := Blk.made
 have hA3 : Below v0.heap.size v0 (v0.alloc (.cells (bookCells b a) 25)) := (Below.refl _ _).alloc (Nat.le_refl _) _
 have pb4 : (v0.alloc (.cells (bookCells b a) 25)).cell? ⟨w.heap.size, 1, none⟩ = some (.slice a.A2 b.tallies.length a.c2) := (HX.out.next hA3).cells.2.2
 have hxb := HXB.out.next hA3
 have hse := (HX.out.next hA3).v.tallies
 clear gx x0 x1
 generalize (v0.alloc (.cells (bookCells b a) 25)) = v1 at *
 have hA3s := hA3.size
 have z0 : w.heap.size < v1.heap.size := by have := HX.out.k.lt; omega
 have z1 : w.heap.size + 1 < v1.heap.size := hxb.lt
 have zg : v0.heap.size < v1.heap.size := b1.lt
 have pl0 : v1.cell? ⟨w.heap.size + 1, 0, none⟩ = some (.int .i64 x.step) := hxb.at_ 0
 have pl1 : v1.cell? ⟨w.heap.size + 1, 1, none⟩ = some (.int .i64 x.hands) := hxb.at_ 1
 have pl2 : v1.cell? ⟨w.heap.size + 1, 2, none⟩ = some (.int .i64 x.off) := hxb.at_ 2
 have pg4 : v1.cell? ⟨v0.heap.size, 1, none⟩ = some (.slice a.A2 b.tallies.length a.c2) := b1.at_ 1
 have fg4 := b1.free 1
 have HSE := hide hse
 have HB1 := hide b1
 have HA3 := hide hA3
 clear hse b1 hA3 hxb HXB
 refine wp_post0 (fun act0 aq W => ∃ vs : Nat → Value, aq = { tmps := setAll (fun oi => [26, 27, 28, 29, 30, 31, 32, 33, 0].getD oi 0) vs [0, 1, 2, 3, 4, 5, 6, 7] act0.tmps, defers := act0.defers } ∧ ∃ (W1 : World) (A : Option Addr) (cp : Nat), W = W1.setCell ⟨v0.heap.size, 1, none⟩ (.slice A (b.tallies.length + 1) cp) ∧ Below v1.heap.size v1 W1 ∧ W1.ownsRow v1.heap.size 50 3 (.slice A (b.tallies.length + 1) cp) (b.tallies.length + 1) ((List.range (b.tallies.length * 3)).map (talliesF b.tallies) ++ (List.range (1 * 3)).map (fun j => [Value.int .i64 x.step, .int .i64 x.hands, .int .i64 x.off].getD j undef))) ?reg ?imp
 case reg =>
  have hST : Stab v1.heap.size (fun oi v W => match oi with | 0 => ∃ A cp, v = .slice A 0 cp ∧ W.ownsRow v1.heap.size 50 3 (.slice A 0 cp) 0 ([]) | 1 => v = .pointer (some ⟨w.heap.size, 1, none⟩) | 2 => v = .slice a.A2 b.tallies.length a.c2 | 3 => ∃ A cp, v = .slice A b.tallies.length cp ∧ W.ownsRow v1.heap.size 50 3 (.slice A b.tallies.length cp) b.tallies.length ((List.range (b.tallies.length * 3)).map (talliesF b.tallies)) | 4 => v = .agg #[.int .i64 x.step, .int .i64 x.hands, .int .i64 x.off] | 5 => ∃ A cp, v = .slice A 1 cp ∧ W.ownsRow v1.heap.size 50 3 (.slice A 1 cp) 1 ([.int .i64 x.step, .int .i64 x.hands, .int .i64 x.off]) | 6 => ∃ A cp, v = .slice A (b.tallies.length + 1) cp ∧ W.ownsRow v1.heap.size 50 3 (.slice A (b.tallies.length + 1) cp) (b.tallies.length + 1) ((List.range (b.tallies.length * 3)).map (talliesF b.tallies) ++ (List.range (1 * 3)).map (fun j => [Value.int .i64 x.step, .int .i64 x.hands, .int .i64 x.off].getD j undef)) | _ => True) (fun oi v b => match oi with | 0 => v.ownBlock = some b | 3 => v.ownBlock = some b | 5 => v.ownBlock = some b | 6 => v.ownBlock = some b | _ => False) := by
   intro oi v W W' h hbs hz hk
   match oi, h, hk with
   | 0, h, hk => obtain ⟨A, cp, rfl, h2⟩ := h; exact ⟨A, cp, rfl, own_stab h2 (fun b hb e => hk b hb (.inr e))⟩
   | 1, h, hk => exact h
   | 2, h, hk => exact h
   | 3, h, hk => obtain ⟨A, cp, rfl, h2⟩ := h; exact ⟨A, cp, rfl, own_stab h2 (fun b hb e => hk b hb (.inr e))⟩
   | 4, h, hk => exact h
   | 5, h, hk => obtain ⟨A, cp, rfl, h2⟩ := h; exact ⟨A, cp, rfl, own_stab h2 (fun b hb e => hk b hb (.inr e))⟩
   | 6, h, hk => obtain ⟨A, cp, rfl, h2⟩ := h; exact ⟨A, cp, rfl, own_stab h2 (fun b hb e => hk b hb (.inr e))⟩
   | oi + 7, h, hk => exact trivial
  refine wp_region_inv (dst := fun oi => [26, 27, 28, 29, 30, 31, 32, 33, 0].getD oi 0) (mono := fun oi => decide (oi < 7)) (pre := fun oi => decide (oi < 7)) (G := Loose 9 v1.heap.size (fun oi => match oi with | 0 => 3 | 3 => 6 | _ => 9) (fun oi v W => match oi with | 0 => ∃ A cp, v = .slice A 0 cp ∧ W.ownsRow v1.heap.size 50 3 (.slice A 0 cp) 0 ([]) | 1 => v = .pointer (some ⟨w.heap.size, 1, none⟩) | 2 => v = .slice a.A2 b.tallies.length a.c2 | 3 => ∃ A cp, v = .slice A b.tallies.length cp ∧ W.ownsRow v1.heap.size 50 3 (.slice A b.tallies.length cp) b.tallies.length ((List.range (b.tallies.length * 3)).map (talliesF b.tallies)) | 4 => v = .agg #[.int .i64 x.step, .int .i64 x.hands, .int .i64 x.off] | 5 => ∃ A cp, v = .slice A 1 cp ∧ W.ownsRow v1.heap.size 50 3 (.slice A 1 cp) 1 ([.int .i64 x.step, .int .i64 x.hands, .int .i64 x.off]) | 6 => ∃ A cp, v = .slice A (b.tallies.length + 1) cp ∧ W.ownsRow v1.heap.size 50 3 (.slice A (b.tallies.length + 1) cp) (b.tallies.length + 1) ((List.range (b.tallies.length * 3)).map (talliesF b.tallies) ++ (List.range (1 * 3)).map (fun j => [Value.int .i64 x.step, .int .i64 x.hands, .int .i64 x.off].getD j undef)) | _ => True) (fun oi v b => match oi with | 0 => v.ownBlock = some b | 3 => v.ownBlock = some b | 5 => v.ownBlock = some b | 6 => v.ownBlock = some b | _ => False)) (by kernel_rfl) (by kernel_rfl) (Loose.start (Nat.le_refl _)) ?hstep ?hend
  case hstep =>
   intro oi hoi hom listed vs aq W hU hsz hG hcl hl haft K hK
   have hb := ((Below.refl v1.heap.size v1).drew).trans hU.below
   have hF := Loose.stepF hU hG hST hoi hK
   match oi, hoi, hom with
   | 0, hoi, hom =>
    refine wpOp_value (v := .slice (some ⟨W.heap.size, 0, none⟩) 0 0) (W' := (W.alloc (.cells #[] 50))) rfl rfl ?_ (hF _ _ ((Below.refl _ _).alloc (Nat.le_refl _) _) (own_lit hG.base #[] 0 rfl (by simp [maxLen])) (fun b h => by rw [← own_new h]; exact ⟨by simp, .inl (Nat.le_refl _)⟩))
    go_simp
   | 1, hoi, hom =>
    have z2 : aq.tmps[2]?.getD undef = .pointer (some ⟨w.heap.size, 0, none⟩) := hU.same 2 (by decide)
    refine wpOp_value (v := .pointer (some ⟨w.heap.size, 1, none⟩)) (W' := W) rfl rfl ?_ (hF _ _ (Below.refl _ _) rfl (fun _ h => False.elim h))
    go_simp
   | 2, hoi, hom =>
    have l1 := haft _ rfl { on := 1, ground := .data } (by simp) rfl
    have p1 := hG.pv 1 (by decide) (live_end hsz rfl l1)
    have s1 : aq.tmps[27]?.getD undef = vs 1 := hU.slot 1 (by decide) l1
    have hv1 : vs 1 = .pointer (some ⟨w.heap.size, 1, none⟩) := p1
    rw [hv1] at s1
    have y0 := (hb.cell (p := ⟨w.heap.size, 1, none⟩) (z0)).trans (pb4)
    refine wpOp_value (v := .slice a.A2 b.tallies.length a.c2) (W' := W) rfl rfl ?_ (hF _ _ (Below.refl _ _) rfl (fun _ h => False.elim h))
    go_simp
   | 3, hoi, hom =>
    have l0 := haft _ rfl { on := 0, ground := .data } (by simp) rfl
    have p0 := hG.pv 0 (by decide) (⟨l0, hl⟩)
    have s0 : aq.tmps[26]?.getD undef = vs 0 := hU.slot 0 (by decide) l0
    obtain ⟨PA0, kp0, hv0, hi0⟩ := p0
    rw [hv0] at s0
    have l2 := haft _ rfl { on := 2, ground := .data } (by simp) rfl
    have p2 := hG.pv 2 (by decide) (live_end hsz rfl l2)
    have s2 : aq.tmps[28]?.getD undef = vs 2 := hU.slot 2 (by decide) l2
    have hv2 : vs 2 = .slice a.A2 b.tallies.length a.c2 := p2
    rw [hv2] at s2
    have hA := Loose.stepA (p := 0) hU hG rfl hST hoi hK (by decide) (by decide) rfl ⟨l0, hl⟩ (fun b h => h) (by rw [hv0]; exact hi0)
    obtain ⟨v', W', hrun, hown', hg, hblk⟩ := run_app_row (P := Tryz.prog) W v1.heap.size 23 23 50 i4 (.agg #[.int .i64 0, .int .i64 0, .int .i64 0]) 3 24 Tryz.underlying23 hI4 hz40 hz41 hz42 rfl (by decide) hi0 (HSE.out.below hb) (fun j _ => rfl) (by simp only [maxLen]; omega) (by omega) hG.base
    rw [Nat.zero_add, List.nil_append] at hown'
    exact wpOp_append (s := 26) (x := 28) (v' := v') (W' := W') rfl rfl rfl s0 s2 hrun (hA _ _ _ _ (by rw [hv0]; exact hg) hown' (by rw [hv0]; exact hblk) (own_ex hown') (fun b h => h))
   | 4, hoi, hom =>
    have z3 : aq.tmps[3]?.getD undef = .pointer (some ⟨w.heap.size + 1, 0, none⟩) := hU.same 3 (by decide)
    have y0 := (hb.cell (p := ⟨w.heap.size + 1, 0, none⟩) (z1)).trans (pl0)
    have y1 := (hb.cell (p := ⟨w.heap.size + 1, 1, none⟩) (z1)).trans (pl1)
    have y2 := (hb.cell (p := ⟨w.heap.size + 1, 2, none⟩) (z1)).trans (pl2)
    refine wpOp_value (v := .agg #[.int .i64 x.step, .int .i64 x.hands, .int .i64 x.off]) (W' := W) rfl rfl ?_ (hF _ _ (Below.refl _ _) rfl (fun _ h => False.elim h))
    go_simp
   | 5, hoi, hom =>
    have l4 := haft _ rfl { on := 4, ground := .data } (by simp) rfl
    have p4 := hG.pv 4 (by decide) (live_end hsz rfl l4)
    have s4 : aq.tmps[30]?.getD undef = vs 4 := hU.slot 4 (by decide) l4
    have hv4 : vs 4 = .agg #[.int .i64 x.step, .int .i64 x.hands, .int .i64 x.off] := p4
    rw [hv4] at s4
    refine wpOp_value (v := .slice (some ⟨W.heap.size, 0, none⟩) 1 1) (W' := (W.alloc (.cells #[.int .i64 x.step, .int .i64 x.hands, .int .i64 x.off] 50))) rfl rfl ?_ (hF _ _ ((Below.refl _ _).alloc (Nat.le_refl _) _) (own_lit hG.base #[.int .i64 x.step, .int .i64 x.hands, .int .i64 x.off] 1 rfl (by simp [maxLen])) (fun b h => by rw [← own_new h]; exact ⟨by simp, .inl (Nat.le_refl _)⟩))
    go_simp
   | 6, hoi, hom =>
    have l3 := haft _ rfl { on := 3, ground := .data } (by simp) rfl
    have p3 := hG.pv 3 (by decide) (⟨l3, hl⟩)
    have s3 : aq.tmps[29]?.getD undef = vs 3 := hU.slot 3 (by decide) l3
    obtain ⟨PA3, kp3, hv3, hi3⟩ := p3
    rw [hv3] at s3
    have l5 := haft _ rfl { on := 5, ground := .data } (by simp) rfl
    have p5 := hG.pv 5 (by decide) (live_end hsz rfl l5)
    have s5 : aq.tmps[31]?.getD undef = vs 5 := hU.slot 5 (by decide) l5
    obtain ⟨PA5, kp5, hv5, hi5⟩ := p5
    rw [hv5] at s5
    obtain ⟨_, _, e5, _, _, hr5⟩ := row_own hi5
    obtain ⟨rfl, rfl⟩ : _ = PA5 ∧ _ = kp5 := by simp only [Value.slice.injEq, true_and] at e5; exact ⟨e5.1.symm, e5.2.symm⟩
    have hA := Loose.stepA (p := 3) hU hG rfl hST hoi hK (by decide) (by decide) rfl ⟨l3, hl⟩ (fun b h => h) (by rw [hv3]; exact hi3)
    obtain ⟨v', W', hrun, hown', hg, hblk⟩ := run_app_row (P := Tryz.prog) W v1.heap.size 23 23 50 i4 (.agg #[.int .i64 0, .int .i64 0, .int .i64 0]) 3 24 Tryz.underlying23 hI4 hz40 hz41 hz42 rfl (by decide) hi3 hr5 (one3 _ _ _) (by simp only [maxLen]; omega) (by omega) hG.base
    exact wpOp_append (s := 29) (x := 31) (v' := v') (W' := W') rfl rfl rfl s3 s5 hrun (hA _ _ _ _ (by rw [hv3]; exact hg) hown' (by rw [hv3]; exact hblk) (own_ex hown') (fun b h => h))
   | oi + 7, hoi, hom => exact absurd (of_decide_eq_true hom) (by omega)
  case hend =>
   intro listed vs aq W hG0 hG hpre
   have hb := ((Below.refl v1.heap.size v1).drew).trans hG0.below
   have hact := hG0.act
   have hT := hG0.lst hpre 0 #[true, true, true, true, true, true, true, false, false] rfl (by kernel_rfl) (hpre 0 (by decide) (by decide))
   rw [hG0.ix hT (l := [0, 1, 2, 3, 4, 5, 6]) (by kernel_rfl)] at hact
   rw [hG0.lo hT (k := 2) (by kernel_rfl)]
   have p6 := hG.pv 6 (by decide) (live_end hG.size rfl (hpre 6 (by decide) (by decide)))
   clear hpre hG hST
   obtain rfl : aq = _ := hact
   subst hT
   obtain ⟨A, cp, hv6, hi6⟩ := p6
   have y4 := (hb.cell (p := ⟨v0.heap.size, 1, none⟩) zg).trans pg4
   have f4 := (hb.frozen (p := ⟨v0.heap.size, 1, none⟩) zg).trans fg4
   simp only [setAll, List.setIfInBounds_toArray, List.set_cons_succ, List.set_cons_zero, List.getD_cons_succ, List.getD_cons_zero]
   refine wpAny_all (rs := [7]) (by kernel_rfl) (by simp) ?_
   intro i2 hi2
   obtain rfl : i2 = 7 := by simpa using hi2
   refine wpOp_value (v := .pointer (some ⟨v0.heap.size, 1, none⟩)) (W' := W) rfl rfl ?_ ?_
   · go_simp
   refine wpAny_all (rs := [8]) (by kernel_rfl) (by simp) ?_
   intro i2 hi2
   obtain rfl : i2 = 8 := by simpa using hi2
   refine wpOp_skip (W' := W.setCell ⟨v0.heap.size, 1, none⟩ (.slice A (b.tallies.length + 1) cp)) rfl rfl ?_ ?_
   · rw [hv6]; go_simp
   refine wpAny_done (by kernel_rfl) ?_ _
   exact ⟨rfl, fun q => if q = 7 then .pointer (some ⟨v0.heap.size, 1, none⟩) else vs q, rfl, W, A, cp, rfl, hb, hi6⟩
 case imp =>
 rintro a9 w2 ⟨vs, rfl, W1, A, cp, rfl, hb1, hown⟩
 simp only [setAll, List.setIfInBounds_toArray, List.set_cons_succ, List.set_cons_zero, List.getD_cons_succ, List.getD_cons_zero]
 rw [tallies_snoc] at hown
 have b0 := (HB1.out.below hb1 zg).store 1 (.slice A (b.tallies.length + 1) cp)
 have hk1 : Keep (fun q => q = v0.heap.size) W1 (W1.setCell ⟨v0.heap.size, 1, none⟩ (.slice A (b.tallies.length + 1) cp)) := Keep.setCell _ _ _ _ rfl
 have ho := own_kept hown hk1 (fun b hb hS => by omega)
 have hb2 : Below v0.heap.size v0 (W1.setCell ⟨v0.heap.size, 1, none⟩ (.slice A (b.tallies.length + 1) cp)) := (HA3.out.trans (hb1.mono (Nat.le_of_lt zg))).setCell (p := ⟨v0.heap.size, 1, none⟩) (Nat.le_refl _) (.slice A (b.tallies.length + 1) cp)
 obtain ⟨m1, m2, hr⟩ := row_fun (f := talliesF (b.tallies ++ [x])) (m := (b.tallies.length + 1)) ho
 have b2 : Blk (W1.setCell ⟨v0.heap.size, 1, none⟩ (.slice A (b.tallies.length + 1) cp)) v0.heap.size 25 #[.slice a.A1 b.steps.length a.c1, .slice A (b.tallies.length + 1) cp] := b0
 clear ho hk1 hown hb1 b0 HB1 HA3 HSE pb4 pl0 pl1 pl2 pg4 fg4 hI4 hz40 hz41 hz42 z0 z1 zg
 generalize W1.setCell ⟨v0.heap.size, 1, none⟩ (.slice A (b.tallies.length + 1) cp) = y0 at *
 have hzg := HX.out.k.lt
 replace HX := hide (HX.out.next hb2)
 replace HG := hide ((hb2.cell (p := ⟨0, 0, none⟩) hz0).trans HG.out)
 replace HB := hide (HB.out.trans (hb2.mono HB.out.size))
 replace hz0 := Nat.lt_of_lt_of_le hz0 hb2.size
 have hcv : BookV y0 y0.heap.size b a := HX.out.v
 have e9 : (tellB b x).tallies.length = b.tallies.length + 1 := by simp [tellB]
 have HZ : Hid (BoxB y0 v0.heap.size (tellB b x) ⟨a.A1, A, a.c1, cp⟩) := hide ⟨⟨hcv.steps, by rw [e9]; exact hr, hcv.small, hcv.m1, by rw [e9]; exact ⟨m1, m2⟩⟩, by
  show Blk _ _ _ #[.slice a.A1 b.steps.length a.c1, .slice A (tellB b x).tallies.length cp]
  rw [e9]; exact b2⟩
 have hsl : (tellB b x).steps.length = b.steps.length := rfl
 have HSL := hide hsl
 clear hcv hr m1 m2 b2 hb2 e9 hsl
 generalize v0.heap.size = gz at *
 obtain ⟨za, hza⟩ : ∃ za : BA, za = ⟨a.A1, A, a.c1, cp⟩ := ⟨_, rfl⟩
 rw [← hza] at HZ
 have HMO := hide (fun (p : someV b = true) (q : someV (tellB b x) = true) => (show MoreF b x b.steps.length ∧ (∀ i, i < b.steps.length → okS (tellB b x) (i : Int) (handsB (tellB b x) (fun _ => false) (i : Int).toNat) = handsB (tellB b x) (fun _ => false) i ∧ okS (tellB b x) (i : Int) (lostB (tellB b x) (i : Int).toNat) = lostB (tellB b x) i ∧ enterK (tellB b x) i = 0) ∧ missV (tellB b x) = (sureTo (tellB b x) b.steps.length, mayTo (tellB b x) b.steps.length, 0) ∧ firstV (tellB b x) = (firstL (tellB b x) b.steps.length, 0) from ⟨more_facts p q, fun i hi => ⟨okS_of q hi _, okS_of q hi _, enter_at q hi⟩, miss_of q, first_of q⟩))
 clear hza HSL
 have HMO2 := hide (show MoreF b x b.steps.length → (∀ i, i < b.steps.length → withB (handsB (tellB b x) (fun _ => false) i) (handsB b (fun _ => false) i) = true ∧ withB (lostB (tellB b x) i) (lostB b i) = true) ∧ subB (natInts (sureTo b b.steps.length)) (natInts (sureTo (tellB b x) b.steps.length)) = true ∧ subB (natInts (mayTo (tellB b x) b.steps.length)) (natInts (mayTo b b.steps.length)) = true ∧ lessB (firstL (tellB b x) b.steps.length) (firstL b b.steps.length) = false from fun h => ⟨fun i hi => ⟨h.hands i hi, h.lost i hi⟩, h.sure, h.may, h.first⟩)
 skip
 generalize (tellB b x) = z at *
 obtain ⟨gx, x0, x1⟩ := HX.out.cells
 obtain ⟨gq, q0, q1⟩ := HZ.out.cells
 cases hs1 : someV b with
 | false =>
  have HS1 := hide hs1
  have HS2 := hide True.intro
  clear hs1 HMO HMO2
  go_wp2_with (first | first | (go_at_call 47; have q9 := HS1.out; refine (some12L_any HX.out.v).mono ?_; rintro e y1 ⟨rfl, hb⟩; rw [HS1.out]; clear HS1 q9 gx x0 x1 gq q0 q1; replace HG := hide ((hb.cell (p := ⟨0, 0, none⟩) hz0).trans HG.out); replace HB := hide (HB.out.trans (hb.mono HB.out.size)); replace HX := hide (HX.out.next hb); replace HZ := hide (HZ.out.next hb); replace hz0 := Nat.lt_of_lt_of_le hz0 hb.size; clear hb; obtain ⟨gx, x0, x1⟩ := HX.out.cells; obtain ⟨gq, q0, q1⟩ := HZ.out.cells) | (go_at_call 47; have q9 := HS2.out; refine (some12L_any HZ.out.v).mono ?_; rintro e y2 ⟨rfl, hb⟩; rw [HS2.out]; clear HS2 q9 gx x0 x1 gq q0 q1; replace HG := hide ((hb.cell (p := ⟨0, 0, none⟩) hz0).trans HG.out); replace HB := hide (HB.out.trans (hb.mono HB.out.size)); replace HX := hide (HX.out.next hb); replace HZ := hide (HZ.out.next hb); replace hz0 := Nat.lt_of_lt_of_le hz0 hb.size; clear hb; obtain ⟨gx, x0, x1⟩ := HX.out.cells; obtain ⟨gq, q0, q1⟩ := HZ.out.cells) | (go_at_call 23; refine (awake12_any HG.out hz0).mono ?_; rintro e y9 ⟨rfl, hb⟩))
  go_ret
  exact ⟨rfl, HB.out.trans (hb.mono HB.out.size)⟩
 | true =>
  cases hs2 : someV z with
  | false =>
   have HS1 := hide hs1
   have HS2 := hide hs2
   clear hs1 hs2 HMO HMO2
   go_wp2_with (first | first | (go_at_call 47; have q9 := HS1.out; refine (some12L_any HX.out.v).mono ?_; rintro e y1 ⟨rfl, hb⟩; rw [HS1.out]; clear HS1 q9 gx x0 x1 gq q0 q1; replace HG := hide ((hb.cell (p := ⟨0, 0, none⟩) hz0).trans HG.out); replace HB := hide (HB.out.trans (hb.mono HB.out.size)); replace HX := hide (HX.out.next hb); replace HZ := hide (HZ.out.next hb); replace hz0 := Nat.lt_of_lt_of_le hz0 hb.size; clear hb; obtain ⟨gx, x0, x1⟩ := HX.out.cells; obtain ⟨gq, q0, q1⟩ := HZ.out.cells) | (go_at_call 47; have q9 := HS2.out; refine (some12L_any HZ.out.v).mono ?_; rintro e y2 ⟨rfl, hb⟩; rw [HS2.out]; clear HS2 q9 gx x0 x1 gq q0 q1; replace HG := hide ((hb.cell (p := ⟨0, 0, none⟩) hz0).trans HG.out); replace HB := hide (HB.out.trans (hb.mono HB.out.size)); replace HX := hide (HX.out.next hb); replace HZ := hide (HZ.out.next hb); replace hz0 := Nat.lt_of_lt_of_le hz0 hb.size; clear hb; obtain ⟨gx, x0, x1⟩ := HX.out.cells; obtain ⟨gq, q0, q1⟩ := HZ.out.cells) | (go_at_call 23; refine (awake12_any HG.out hz0).mono ?_; rintro e y9 ⟨rfl, hb⟩))
   go_ret
   exact ⟨rfl, HB.out.trans (hb.mono HB.out.size)⟩
  | true =>
   have HS1 := hide hs1
   have HS2 := hide hs2
   have h6 := (some_good hs1).1.six
   obtain ⟨hmf, hq, hm1, hf1⟩ := HMO.out hs1 hs2
   obtain ⟨hwi, hu1, hu2, hfl⟩ := HMO2.out hmf
   have HQ := hide hq
   have HM2 := hide hm1
   have HF2 := hide hf1
   have HM1 := hide (miss_of hs1)
   have HF1 := hide (first_of hs1)
   have HWI := hide hwi
   have HU1 := hide hu1
   have HU2 := hide hu2
   have HFL := hide hfl
   have HQ1 := hide (fun i (hi : i < b.steps.length) => (show okS b (i : Int) (handsB b (fun _ => false) (i : Int).toNat) = handsB b (fun _ => false) i ∧ okS b (i : Int) (lostB b (i : Int).toNat) = lostB b i ∧ enterK b i = 0 from ⟨okS_of hs1 hi _, okS_of hs1 hi _, enter_at hs1 hi⟩))
   clear hs1 hs2 HMO HMO2 hmf hq hm1 hf1 hwi hu1 hu2 hfl
   go_upto_region 5 with (first | (go_at_call 47; have q9 := HS1.out; refine (some12L_any HX.out.v).mono ?_; rintro e y1 ⟨rfl, hb⟩; rw [HS1.out]; clear HS1 q9 gx x0 x1 gq q0 q1; replace HG := hide ((hb.cell (p := ⟨0, 0, none⟩) hz0).trans HG.out); replace HB := hide (HB.out.trans (hb.mono HB.out.size)); replace HX := hide (HX.out.next hb); replace HZ := hide (HZ.out.next hb); replace hz0 := Nat.lt_of_lt_of_le hz0 hb.size; clear hb; obtain ⟨gx, x0, x1⟩ := HX.out.cells; obtain ⟨gq, q0, q1⟩ := HZ.out.cells) | (go_at_call 47; have q9 := HS2.out; refine (some12L_any HZ.out.v).mono ?_; rintro e y2 ⟨rfl, hb⟩; rw [HS2.out]; clear HS2 q9 gx x0 x1 gq q0 q1; replace HG := hide ((hb.cell (p := ⟨0, 0, none⟩) hz0).trans HG.out); replace HB := hide (HB.out.trans (hb.mono HB.out.size)); replace HX := hide (HX.out.next hb); replace HZ := hide (HZ.out.next hb); replace hz0 := Nat.lt_of_lt_of_le hz0 hb.size; clear hb; obtain ⟨gx, x0, x1⟩ := HX.out.cells; obtain ⟨gq, q0, q1⟩ := HZ.out.cells))
   clear gx x0 x1 gq q0 q1
   obtain ⟨L1, hL1⟩ : ∃ L, L = sureTo b b.steps.length := ⟨_, rfl⟩
   obtain ⟨L2, hL2⟩ : ∃ L, L = mayTo b b.steps.length := ⟨_, rfl⟩
   obtain ⟨L3, hL3⟩ : ∃ L, L = sureTo z b.steps.length := ⟨_, rfl⟩
   obtain ⟨L4, hL4⟩ : ∃ L, L = mayTo z b.steps.length := ⟨_, rfl⟩
   obtain ⟨L5, hL5⟩ : ∃ L, L = firstL b b.steps.length := ⟨_, rfl⟩
   obtain ⟨L6, hL6⟩ : ∃ L, L = firstL z b.steps.length := ⟨_, rfl⟩
   rw [← hL1, ← hL2] at HM1
   rw [← hL3, ← hL4] at HM2
   rw [← hL5] at HF1
   rw [← hL6] at HF2
   rw [← hL1, ← hL3] at HU1
   rw [← hL2, ← hL4] at HU2
   rw [← hL5, ← hL6] at HFL
   clear hL1 hL2 hL3 hL4 hL5 hL6
   obtain ⟨gx, x0, x1⟩ := HX.out.cells
   obtain ⟨gq, q0, q1⟩ := HZ.out.cells
   go_upto_region 6 with (go_at_call 24; refine (missing_any HX.out.v).mono ?_; rintro e y3 ⟨AHI1, cHI1, AHI2, cHI2, rfl, hi, hi', hb⟩; rw [HM1.out] at hi hi'; rw [HM1.out]; simp only at hi hi' ⊢; have HI1 := hide hi; have HI2 := hide hi'; clear hi hi')
   clear gx x0 x1 gq q0 q1
   replace HG := hide ((hb.cell (p := ⟨0, 0, none⟩) hz0).trans HG.out)
   replace HB := hide (HB.out.trans (hb.mono HB.out.size))
   replace HX := hide (HX.out.next hb)
   replace HZ := hide (HZ.out.next hb)
   replace hz0 := Nat.lt_of_lt_of_le hz0 hb.size
   clear hb
   obtain ⟨gx, x0, x1⟩ := HX.out.cells
   obtain ⟨gq, q0, q1⟩ := HZ.out.cells
   go_upto_region 7 with (go_at_call 24; refine (missing_any HZ.out.v).mono ?_; rintro e y4 ⟨AHI3, cHI3, AHI4, cHI4, rfl, hi, hi', hb⟩; rw [HM2.out] at hi hi'; rw [HM2.out]; simp only at hi hi' ⊢; have HI3 := hide hi; have HI4 := hide hi'; clear hi hi')
   clear gx x0 x1 gq q0 q1
   replace HG := hide ((hb.cell (p := ⟨0, 0, none⟩) hz0).trans HG.out)
   replace HB := hide (HB.out.trans (hb.mono HB.out.size))
   replace HX := hide (HX.out.next hb)
   replace HZ := hide (HZ.out.next hb)
   replace HI1 := hide (HI1.out.next hb)
   replace HI2 := hide (HI2.out.next hb)
   replace hz0 := Nat.lt_of_lt_of_le hz0 hb.size
   clear hb
   obtain ⟨gx, x0, x1⟩ := HX.out.cells
   obtain ⟨gq, q0, q1⟩ := HZ.out.cells
   go_upto_region 8 with (go_at_call 29; refine (first_any HX.out.v).mono ?_; rintro e y5 ⟨AHI5, cHI5, rfl, hi, hb⟩; rw [HF1.out] at hi; rw [HF1.out]; simp only at hi ⊢; have HI5 := hide hi; clear hi)
   clear gx x0 x1 gq q0 q1
   replace HG := hide ((hb.cell (p := ⟨0, 0, none⟩) hz0).trans HG.out)
   replace HB := hide (HB.out.trans (hb.mono HB.out.size))
   replace HX := hide (HX.out.next hb)
   replace HZ := hide (HZ.out.next hb)
   replace HI1 := hide (HI1.out.next hb)
   replace HI2 := hide (HI2.out.next hb)
   replace HI3 := hide (HI3.out.next hb)
   replace HI4 := hide (HI4.out.next hb)
   replace hz0 := Nat.lt_of_lt_of_le hz0 hb.size
   clear hb
   obtain ⟨gx, x0, x1⟩ := HX.out.cells
   obtain ⟨gq, q0, q1⟩ := HZ.out.cells
   go_upto_region 9 with (go_at_call 29; refine (first_any HZ.out.v).mono ?_; rintro e y6 ⟨AHI6, cHI6, rfl, hi, hb⟩; rw [HF2.out] at hi; rw [HF2.out]; simp only at hi ⊢; have HI6 := hide hi; clear hi)
   clear gx x0 x1 gq q0 q1
   replace HG := hide ((hb.cell (p := ⟨0, 0, none⟩) hz0).trans HG.out)
   replace HB := hide (HB.out.trans (hb.mono HB.out.size))
   replace HX := hide (HX.out.next hb)
   replace HZ := hide (HZ.out.next hb)
   replace HI1 := hide (HI1.out.next hb)
   replace HI2 := hide (HI2.out.next hb)
   replace HI3 := hide (HI3.out.next hb)
   replace HI4 := hide (HI4.out.next hb)
   replace HI5 := hide (HI5.out.next hb)
   replace hz0 := Nat.lt_of_lt_of_le hz0 hb.size
   clear hb
   obtain ⟨gx, x0, x1⟩ := HX.out.cells
   obtain ⟨gq, q0, q1⟩ := HZ.out.cells
   go_wp2_with (first | (go_at_call 54; first | (with_reducible refine (subset12_any HI1.out HI3.out HU1.out).mono ?_; rintro e w9 ⟨rfl, rfl⟩) | (with_reducible refine (subset12_any HI4.out HI2.out HU2.out).mono ?_; rintro e w9 ⟨rfl, rfl⟩)) | (go_at_call 49; refine (less_any HI6.out HI5.out).mono ?_; rintro e w9 ⟨rfl, hdr⟩; rw [HFL.out]))
   clear gx x0 x1 gq q0 q1
   have hb : Below y6.heap.size y6 w9 := hdr.below _
   clear hdr HI1 HI2 HI3 HI4 HI5 HI6 HU1 HU2 HFL HM1 HM2 HF1 HF2
   replace HG := hide ((hb.cell (p := ⟨0, 0, none⟩) hz0).trans HG.out)
   replace HB := hide (HB.out.trans (hb.mono HB.out.size))
   replace HX := hide (HX.out.next hb)
   replace HZ := hide (HZ.out.next hb)
   replace hz0 := Nat.lt_of_lt_of_le hz0 hb.size
   clear hb
   go_loopw [16, 17, 18, 19, 20, 21, 22, 23, 24, 96, 97, 98, 99, 100, 101, 102, 103, 104, 105, 106, 107, 108, 109, 110, 111, 112, 113, 114, 115, 116, 117, 118, 119, 120, 121, 122, 123, 124, 125, 126, 127, 128, 129, 130, 131, 132, 133, 134, 135, 136, 137, 138, 139, 140, 141, 142, 143, 144, 145, 146, 147, 148, 149, 150, 151, 152] (fun v16 _ _ _ _ _ _ _ _ _ _ _ _ _ _ _ _ _ _ _ _ _ _ _ _ _ _ _ _ _ _ _ _ _ _ _ _ _ _ _ _ _ _ _ _ _ _ _ _ _ _ _ _ _ _ _ _ _ _ _ _ _ _ _ _ _ wr => ∃ k : Nat, k ≤ b.steps.length ∧ v16 = .int .i64 (k : Nat) ∧ Hid (Below w9.heap.size w9 wr)) (fun v16 _ _ _ _ _ _ _ _ _ _ _ _ _ _ _ _ _ _ _ _ _ _ _ _ _ _ _ _ _ _ _ _ _ _ _ _ _ _ _ _ _ _ _ _ _ _ _ _ _ _ _ _ _ _ _ _ _ _ _ _ _ _ _ _ _ _ => b.steps.length - (intOf v16).toNat)
   case atStart => exact ⟨0, Nat.zero_le _, rfl, hide (Below.refl _ _)⟩
   case round =>
    obtain ⟨j, hj, rfl, HBW⟩ := hrel
    obtain ⟨u0, rfl⟩ : ∃ u0 : World, u0 = wr := ⟨_, rfl⟩
    have hj0 : (0 : Int) ≤ (j : Int) := Int.natCast_nonneg _
    have hb := HBW.out
    replace HG := hide ((hb.cell (p := ⟨0, 0, none⟩) hz0).trans HG.out)
    replace HB := hide (HB.out.trans (hb.mono HB.out.size))
    replace HX := hide (HX.out.next hb)
    replace HZ := hide (HZ.out.next hb)
    replace hz0 := Nat.lt_of_lt_of_le hz0 hb.size
    clear hb
    by_cases hlt : j < b.steps.length
    · have hj1 : (j : Int) < (b.steps.length : Int) := by omega
      obtain ⟨a1, a2, a3⟩ := HQ1.out j hlt
      obtain ⟨c1, c2, c3⟩ := HQ.out j hlt
      obtain ⟨d1, d2⟩ := HWI.out j hlt
      generalize handsB b (fun _ => false) j = f1 at a1 d1
      generalize lostB b j = f2 at a2 d2
      generalize handsB z (fun _ => false) j = f3 at c1 d1
      generalize lostB z j = f4 at c2 d2
      obtain ⟨s1, s2⟩ := f1
      obtain ⟨p1, p2⟩ := f2
      obtain ⟨t1, t2⟩ := f3
      obtain ⟨r1, r2⟩ := f4
      have A1 := hide a1
      have A2 := hide a2
      have A3 := hide a3
      have C1 := hide c1
      have C2 := hide c2
      have C3 := hide c3
      have D1 := hide d1
      have D2 := hide d2
      clear a1 a2 a3 c1 c2 c3 d1 d2
      obtain ⟨gx, x0, x1⟩ := HX.out.cells
      obtain ⟨gq, q0, q1⟩ := HZ.out.cells
      go_upto_region 15 with (go_at_call 19; refine (hands_any (s := (j : Int)) HX.out.v).mono ?_; rintro e y7 ⟨rfl, hb⟩; rw [A1.out, A3.out])
      clear gx x0 x1 gq q0 q1
      replace HG := hide ((hb.cell (p := ⟨0, 0, none⟩) hz0).trans HG.out)
      replace HB := hide (HB.out.trans (hb.mono HB.out.size))
      replace HX := hide (HX.out.next hb)
      replace HZ := hide (HZ.out.next hb)
      replace HBW := hide (HBW.out.trans (hb.mono HBW.out.size))
      replace hz0 := Nat.lt_of_lt_of_le hz0 hb.size
      clear hb
      have hb : Below y7.heap.size y7 (y7.alloc (.cells #[.int .i64 s1, .int .i64 s2] 30)) := (Below.refl _ _).alloc (Nat.le_refl _) _
      have SS := hide (show Blk (y7.alloc (.cells #[.int .i64 s1, .int .i64 s2] 30)) y7.heap.size 30 #[.int .i64 s1, .int .i64 s2] from Blk.made)
      replace HG := hide ((hb.cell (p := ⟨0, 0, none⟩) hz0).trans HG.out)
      replace HB := hide (HB.out.trans (hb.mono HB.out.size))
      replace HX := hide (HX.out.next hb)
      replace HZ := hide (HZ.out.next hb)
      replace HBW := hide (HBW.out.trans (hb.mono HBW.out.size))
      replace hz0 := Nat.lt_of_lt_of_le hz0 hb.size
      clear hb
      generalize y7.alloc (.cells #[.int .i64 s1, .int .i64 s2] 30) = y8 at *
      generalize y7.heap.size = ggcs at *
      obtain ⟨gx, x0, x1⟩ := HX.out.cells
      obtain ⟨gq, q0, q1⟩ := HZ.out.cells
      go_upto_region 16 with (go_at_call 19; refine (hands_any (s := (j : Int)) HZ.out.v).mono ?_; rintro e y9 ⟨rfl, hb⟩; rw [C1.out, C3.out])
      clear gx x0 x1 gq q0 q1
      replace HG := hide ((hb.cell (p := ⟨0, 0, none⟩) hz0).trans HG.out)
      replace HB := hide (HB.out.trans (hb.mono HB.out.size))
      replace HX := hide (HX.out.next hb)
      replace HZ := hide (HZ.out.next hb)
      replace HBW := hide (HBW.out.trans (hb.mono HBW.out.size))
      replace SS := hide (SS.out.next hb)
      replace hz0 := Nat.lt_of_lt_of_le hz0 hb.size
      clear hb
      have hb : Below y9.heap.size y9 (y9.alloc (.cells #[.int .i64 t1, .int .i64 t2] 30)) := (Below.refl _ _).alloc (Nat.le_refl _) _
      have ST := hide (show Blk (y9.alloc (.cells #[.int .i64 t1, .int .i64 t2] 30)) y9.heap.size 30 #[.int .i64 t1, .int .i64 t2] from Blk.made)
      replace HG := hide ((hb.cell (p := ⟨0, 0, none⟩) hz0).trans HG.out)
      replace HB := hide (HB.out.trans (hb.mono HB.out.size))
      replace HX := hide (HX.out.next hb)
      replace HZ := hide (HZ.out.next hb)
      replace HBW := hide (HBW.out.trans (hb.mono HBW.out.size))
      replace SS := hide (SS.out.next hb)
      replace hz0 := Nat.lt_of_lt_of_le hz0 hb.size
      clear hb
      generalize y9.alloc (.cells #[.int .i64 t1, .int .i64 t2] 30) = y10 at *
      generalize y9.heap.size = ggct at *
      obtain ⟨gx, x0, x1⟩ := HX.out.cells
      obtain ⟨gq, q0, q1⟩ := HZ.out.cells
      go_upto_region 17 with (go_at_call 21; refine (losts_any (s := (j : Int)) HX.out.v).mono ?_; rintro e y11 ⟨rfl, hb⟩; rw [A2.out, A3.out])
      clear gx x0 x1 gq q0 q1
      replace HG := hide ((hb.cell (p := ⟨0, 0, none⟩) hz0).trans HG.out)
      replace HB := hide (HB.out.trans (hb.mono HB.out.size))
      replace HX := hide (HX.out.next hb)
      replace HZ := hide (HZ.out.next hb)
      replace HBW := hide (HBW.out.trans (hb.mono HBW.out.size))
      replace SS := hide (SS.out.next hb)
      replace ST := hide (ST.out.next hb)
      replace hz0 := Nat.lt_of_lt_of_le hz0 hb.size
      clear hb
      have hb : Below y11.heap.size y11 (y11.alloc (.cells #[.int .i64 p1, .int .i64 p2] 30)) := (Below.refl _ _).alloc (Nat.le_refl _) _
      have SP := hide (show Blk (y11.alloc (.cells #[.int .i64 p1, .int .i64 p2] 30)) y11.heap.size 30 #[.int .i64 p1, .int .i64 p2] from Blk.made)
      replace HG := hide ((hb.cell (p := ⟨0, 0, none⟩) hz0).trans HG.out)
      replace HB := hide (HB.out.trans (hb.mono HB.out.size))
      replace HX := hide (HX.out.next hb)
      replace HZ := hide (HZ.out.next hb)
      replace HBW := hide (HBW.out.trans (hb.mono HBW.out.size))
      replace SS := hide (SS.out.next hb)
      replace ST := hide (ST.out.next hb)
      replace hz0 := Nat.lt_of_lt_of_le hz0 hb.size
      clear hb
      generalize y11.alloc (.cells #[.int .i64 p1, .int .i64 p2] 30) = y12 at *
      generalize y11.heap.size = ggcp at *
      obtain ⟨gx, x0, x1⟩ := HX.out.cells
      obtain ⟨gq, q0, q1⟩ := HZ.out.cells
      go_upto_region 18 with (go_at_call 21; refine (losts_any (s := (j : Int)) HZ.out.v).mono ?_; rintro e y13 ⟨rfl, hb⟩; rw [C2.out, C3.out])
      clear gx x0 x1 gq q0 q1
      replace HG := hide ((hb.cell (p := ⟨0, 0, none⟩) hz0).trans HG.out)
      replace HB := hide (HB.out.trans (hb.mono HB.out.size))
      replace HX := hide (HX.out.next hb)
      replace HZ := hide (HZ.out.next hb)
      replace HBW := hide (HBW.out.trans (hb.mono HBW.out.size))
      replace SS := hide (SS.out.next hb)
      replace ST := hide (ST.out.next hb)
      replace SP := hide (SP.out.next hb)
      replace hz0 := Nat.lt_of_lt_of_le hz0 hb.size
      clear hb
      have hb : Below y13.heap.size y13 (y13.alloc (.cells #[.int .i64 r1, .int .i64 r2] 30)) := (Below.refl _ _).alloc (Nat.le_refl _) _
      have SR := hide (show Blk (y13.alloc (.cells #[.int .i64 r1, .int .i64 r2] 30)) y13.heap.size 30 #[.int .i64 r1, .int .i64 r2] from Blk.made)
      replace HG := hide ((hb.cell (p := ⟨0, 0, none⟩) hz0).trans HG.out)
      replace HB := hide (HB.out.trans (hb.mono HB.out.size))
      replace HX := hide (HX.out.next hb)
      replace HZ := hide (HZ.out.next hb)
      replace HBW := hide (HBW.out.trans (hb.mono HBW.out.size))
      replace SS := hide (SS.out.next hb)
      replace ST := hide (ST.out.next hb)
      replace SP := hide (SP.out.next hb)
      replace hz0 := Nat.lt_of_lt_of_le hz0 hb.size
      clear hb
      generalize y13.alloc (.cells #[.int .i64 r1, .int .i64 r2] 30) = y14 at *
      generalize y13.heap.size = ggcr at *
      obtain ⟨gx, x0, x1⟩ := HX.out.cells
      obtain ⟨gq, q0, q1⟩ := HZ.out.cells
      have gcs := SS.out.lt
      have cs0 := SS.out.at_ 0
      have cs1 := SS.out.at_ 1
      simp only [List.getElem?_toArray, List.getElem?_cons_zero, List.getElem?_cons_succ] at cs0 cs1
      have gct := ST.out.lt
      have ct0 := ST.out.at_ 0
      have ct1 := ST.out.at_ 1
      simp only [List.getElem?_toArray, List.getElem?_cons_zero, List.getElem?_cons_succ] at ct0 ct1
      have gcp := SP.out.lt
      have cp0 := SP.out.at_ 0
      have cp1 := SP.out.at_ 1
      simp only [List.getElem?_toArray, List.getElem?_cons_zero, List.getElem?_cons_succ] at cp0 cp1
      have gcr := SR.out.lt
      have cr0 := SR.out.at_ 0
      have cr1 := SR.out.at_ 1
      simp only [List.getElem?_toArray, List.getElem?_cons_zero, List.getElem?_cons_succ] at cr0 cr1
      go_wp2_with (first | (go_at_call 55; have q9 := D1.out; refine (within12_any ⟨t1, t2⟩ ⟨s1, s2⟩ _).mono ?_; rintro e z1 ⟨rfl, hb⟩; rw [D1.out]; clear gx x0 x1 gq q0 q1 gcs cs0 cs1 gct ct0 ct1 gcp cp0 cp1 gcr cr0 cr1 D1 q9; replace HBW := hide (HBW.out.trans (hb.mono HBW.out.size)); replace SS := hide (SS.out.next hb); replace ST := hide (ST.out.next hb); replace SP := hide (SP.out.next hb); replace SR := hide (SR.out.next hb); clear hb; have gcs := SS.out.lt; have cs0 := SS.out.at_ 0; have cs1 := SS.out.at_ 1; simp only [List.getElem?_toArray, List.getElem?_cons_zero, List.getElem?_cons_succ] at cs0 cs1; have gct := ST.out.lt; have ct0 := ST.out.at_ 0; have ct1 := ST.out.at_ 1; simp only [List.getElem?_toArray, List.getElem?_cons_zero, List.getElem?_cons_succ] at ct0 ct1; have gcp := SP.out.lt; have cp0 := SP.out.at_ 0; have cp1 := SP.out.at_ 1; simp only [List.getElem?_toArray, List.getElem?_cons_zero, List.getElem?_cons_succ] at cp0 cp1; have gcr := SR.out.lt; have cr0 := SR.out.at_ 0; have cr1 := SR.out.at_ 1; simp only [List.getElem?_toArray, List.getElem?_cons_zero, List.getElem?_cons_succ] at cr0 cr1) | (go_at_call 55; refine (within12_any ⟨r1, r2⟩ ⟨p1, p2⟩ _).mono ?_; rintro e z2 ⟨rfl, hb⟩; rw [D2.out]; replace HBW := hide (HBW.out.trans (hb.mono HBW.out.size))))
      go_roundw
      case rel => exact ⟨j + 1, by omega, by go_num, HBW⟩
      case measure => simp [intOf]; omega
    · obtain rfl : j = b.steps.length := by omega
      obtain ⟨gx, x0, x1⟩ := HX.out.cells
      obtain ⟨gq, q0, q1⟩ := HZ.out.cells
      go_wp2_with (first | (go_at_call 23; refine (awake12_any HG.out hz0).mono ?_; rintro e y15 ⟨rfl, hb⟩))
      go_ret
      exact ⟨rfl, HB.out.trans (hb.mono HB.out.size)⟩
end Go.Proofs.YtocdmkilnbpkdaaGreatDoor
