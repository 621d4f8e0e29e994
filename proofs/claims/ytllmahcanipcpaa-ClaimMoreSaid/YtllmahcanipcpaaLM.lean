/- The law ClaimMore: with one more paper there are no further truths; for any file and paper the law returns true. -/
import Derived.Test.YtllmahcanipcpaaLB
import Derived.Test.YtllmahcanipcpaaLO
import Derived.Test.YtllmahcanipcpaaTA
import Derived.SizedLaws
import Derived.OwnWalkIn
import Derived.TacticsInMore
import Derived.Deep.DeepCutAuto
set_option linter.unusedVariables false
set_option linter.unusedSimpArgs false
namespace Go.Proofs.Ytllmahcanipcpaa
open Go.RowKit
attribute [local go_sem ↓] Go.wp_at_zero Go.wp_at_succ
attribute [local go_sem] Oper.semAt_some

theorem papers_one (xs : List Paper) (j : Nat) : (papersF xs j).oneCell' = true := by
  unfold papersF; rfl
theorem one3p (a b d : Int) (j : Nat) (hj : j < 1 * 3) : (([Value.int .i64 a, .int .i64 b, .int .i64 d] : List Value).getD j undef).oneCell' = true := by
  match j, hj with
  | 0, _ => rfl
  | 1, _ => rfl
  | 2, _ => rfl
theorem papersF_app {xs : List Paper} {x : Paper} {j : Nat} (h : j < xs.length * 3) : papersF (xs ++ [x]) j = papersF xs j := by
  have e : nth (xs ++ [x]) (j / 3) = nth xs (j / 3) := by simp [nth, List.getElem?_append_left (show j / 3 < xs.length by omega)]
  rw [papersF, papersF, e]
theorem papersF_last (xs : List Paper) (x : Paper) : papersF (xs ++ [x]) (xs.length * 3) = .int .i64 x.says ∧ papersF (xs ++ [x]) (xs.length * 3 + 1) = .int .i64 x.lot ∧ papersF (xs ++ [x]) (xs.length * 3 + 2) = .int .i64 x.of_ := by
  have e : nth (xs ++ [x]) xs.length = x := by simp [nth]
  refine ⟨?_, ?_, ?_⟩
  · rw [papersF, show xs.length * 3 % 3 = 0 by omega, show xs.length * 3 / 3 = xs.length by omega, e]; rfl
  · rw [papersF, show (xs.length * 3 + 1) % 3 = 1 by omega, show (xs.length * 3 + 1) / 3 = xs.length by omega, e]; rfl
  · rw [papersF, show (xs.length * 3 + 2) % 3 = 2 by omega, show (xs.length * 3 + 2) / 3 = xs.length by omega, e]; rfl
theorem papers_snoc (xs : List Paper) (x : Paper) : (List.range (xs.length * 3)).map (papersF xs) ++ (List.range (1 * 3)).map (fun j => ([Value.int .i64 x.says, .int .i64 x.lot, .int .i64 x.of_] : List Value).getD j undef) = (List.range ((xs.length + 1) * 3)).map (papersF (xs ++ [x])) := by
  obtain ⟨e0, e1, e2⟩ := papersF_last xs x
  rw [range3 xs.length, List.map_append]
  congr 1
  · exact List.map_congr_left fun j hj => (papersF_app (List.mem_range.1 hj)).symm
  · show _ = [_, _, _]
    rw [e0, e1, e2]
    rfl
theorem reach_more {n : Nat} (h : n * 24 ≤ reachBytes) : (n + 1) * 24 ≤ 140737488355328 := by unfold reachBytes at h; omega
set_option maxHeartbeats 8000000 in
set_option maxRecDepth 100000 in
theorem claimMore_any {f : File} {fa : FA} {w : World} (h : FileV w w.heap.size f fa) (hr : f.papers.length * 24 ≤ reachBytes) (p : Paper) :
    Calls Try.prog 5 #[fileVal f fa, .agg #[.int .i64 p.says, .int .i64 p.lot, .int .i64 p.of_]] w fun e w' => e = .returned (.bool true) ∧ Below w.heap.size w w' := by
  obtain ⟨i4, hI4, hz40, hz41, hz42⟩ := info_parts Try.infoPaper
  have hrb := reach_more hr
  clear hr
  have hA1 : Below w.heap.size w (((w.alloc (.cells (fileCells f fa) 28)).alloc (.cells #[.int .i64 p.says, .int .i64 p.lot, .int .i64 p.of_] 48)).alloc (.cells (fileCells f fa) 28)) := (((Below.refl _ _).alloc (Nat.le_refl _) _).alloc (by simp) _).alloc (by simp; omega) _
  have q1 : Blk (((w.alloc (.cells (fileCells f fa) 28)).alloc (.cells #[.int .i64 p.says, .int .i64 p.lot, .int .i64 p.of_] 48)).alloc (.cells (fileCells f fa) 28)) w.heap.size 28 (fileCells f fa) := (Blk.made.alloc _).alloc _
  have q2 : Blk (((w.alloc (.cells (fileCells f fa) 28)).alloc (.cells #[.int .i64 p.says, .int .i64 p.lot, .int .i64 p.of_] 48)).alloc (.cells (fileCells f fa) 28)) (w.heap.size + 1) 48 #[.int .i64 p.says, .int .i64 p.lot, .int .i64 p.of_] := (Blk.made' (by simp)).alloc _
  have q3 : Blk (((w.alloc (.cells (fileCells f fa) 28)).alloc (.cells #[.int .i64 p.says, .int .i64 p.lot, .int .i64 p.of_] 48)).alloc (.cells (fileCells f fa) 28)) (w.heap.size + 1 + 1) 28 (fileCells f fa) := Blk.made' (by simp)
  have hsz : (((w.alloc (.cells (fileCells f fa) 28)).alloc (.cells #[.int .i64 p.says, .int .i64 p.lot, .int .i64 p.of_] 48)).alloc (.cells (fileCells f fa) 28)).heap.size = w.heap.size + 3 := by simp
  have HV := hide (h.next hA1)
  have HA1 := hide hA1
  have HSZ := hide hsz
  have H0 := hide h
  have HML := hide (fun (a : someT f = true) (b : someT (moreP f p) = true) => more_laws a b)
  have hg0 : (((w.alloc (.cells (fileCells f fa) 28)).alloc (.cells #[.int .i64 p.says, .int .i64 p.lot, .int .i64 p.of_] 48)).heap.size) = w.heap.size + 1 + 1 := by simp
  clear h hA1 hsz
  go_enter Try.func5, Try.ntmps5
  go_upto_region 1 with (fail)
  have o1 : Blk ((w.alloc (.cells (fileCells f fa) 28)).alloc (.cells #[.int .i64 p.says, .int .i64 p.lot, .int .i64 p.of_] 48)) w.heap.size 28 (fileCells f fa) := Blk.made.alloc _
  have o2 : w.heap.size < (((w.alloc (.cells (fileCells f fa) 28)).alloc (.cells #[.int .i64 p.says, .int .i64 p.lot, .int .i64 p.of_] 48))).heap.size := by simp; omega
  have c0 := o1.at_ 0
  have c1 := o1.at_ 1
  have c2 := o1.at_ 2
  have c3 := o1.at_ 3
  have c4 := o1.at_ 4
  simp only [List.getElem?_toArray, List.getElem?_cons_zero, List.getElem?_cons_succ] at c0 c1 c2 c3 c4
  go_upto_region 2 with (fail)
  clear c0 c1 c2 c3 c4 o1 o2
  try rw [hg0]
  clear hg0
  generalize (((w.alloc (.cells (fileCells f fa) 28)).alloc (.cells #[.int .i64 p.says, .int .i64 p.lot, .int .i64 p.of_] 48)).alloc (.cells (fileCells f fa) 28)) = v1 at *
  have z0 : w.heap.size < v1.heap.size := by have := HSZ.out; omega
  have z1 : w.heap.size + 1 < v1.heap.size := by have := HSZ.out; omega
  have zg : w.heap.size + 1 + 1 < v1.heap.size := by have := HSZ.out; omega
  have pb4 : v1.cell? ⟨w.heap.size, 3, none⟩ = some (.slice fa.A4 f.papers.length fa.c4) := q1.at_ 3
  have pg4 : v1.cell? ⟨w.heap.size + 1 + 1, 3, none⟩ = some (.slice fa.A4 f.papers.length fa.c4) := q3.at_ 3
  have fg4 := q3.free 3
  have pl0 : v1.cell? ⟨w.heap.size + 1, 0, none⟩ = some (.int .i64 p.says) := q2.at_ 0
  have pl1 : v1.cell? ⟨w.heap.size + 1, 1, none⟩ = some (.int .i64 p.lot) := q2.at_ 1
  have pl2 : v1.cell? ⟨w.heap.size + 1, 2, none⟩ = some (.int .i64 p.of_) := q2.at_ 2
  have HSE := hide HV.out.papers
  have Q1 := hide q1
  have Q3 := hide q3
  clear q1 q2 q3
  refine wp_post0 (fun act0 a W => ∃ vs : Nat → Value, a = { tmps := setAll (fun oi => [26, 27, 28, 29, 30, 31, 32, 33, 0].getD oi 0) vs [0, 1, 2, 3, 4, 5, 6, 7] act0.tmps, defers := act0.defers } ∧ ∃ (W1 : World) (A : Option Addr) (cp : Nat), W = W1.setCell ⟨w.heap.size + 1 + 1, 3, none⟩ (.slice A (f.papers.length + 1) cp) ∧ Below v1.heap.size v1 W1 ∧ W1.ownsRow v1.heap.size 48 3 (.slice A (f.papers.length + 1) cp) (f.papers.length + 1) ((List.range (f.papers.length * 3)).map (papersF f.papers) ++ (List.range (1 * 3)).map (fun j => ([.int .i64 p.says, .int .i64 p.lot, .int .i64 p.of_] : List Value).getD j undef))) ?reg ?imp
  case reg =>
    have hST : Stab v1.heap.size (fun oi v W => match oi with | 0 => ∃ A cp, v = .slice A 0 cp ∧ W.ownsRow v1.heap.size 48 3 (.slice A 0 cp) 0 ([]) | 1 => v = .pointer (some ⟨w.heap.size, 3, none⟩) | 2 => v = .slice fa.A4 f.papers.length fa.c4 | 3 => ∃ A cp, v = .slice A f.papers.length cp ∧ W.ownsRow v1.heap.size 48 3 (.slice A f.papers.length cp) f.papers.length ((List.range (f.papers.length * 3)).map (papersF f.papers)) | 4 => v = .agg #[.int .i64 p.says, .int .i64 p.lot, .int .i64 p.of_] | 5 => ∃ A cp, v = .slice A 1 cp ∧ W.ownsRow v1.heap.size 48 3 (.slice A 1 cp) 1 ([.int .i64 p.says, .int .i64 p.lot, .int .i64 p.of_]) | 6 => ∃ A cp, v = .slice A (f.papers.length + 1) cp ∧ W.ownsRow v1.heap.size 48 3 (.slice A (f.papers.length + 1) cp) (f.papers.length + 1) ((List.range (f.papers.length * 3)).map (papersF f.papers) ++ (List.range (1 * 3)).map (fun j => ([.int .i64 p.says, .int .i64 p.lot, .int .i64 p.of_] : List Value).getD j undef)) | _ => True) (fun oi v b => match oi with | 0 => v.ownBlock = some b | 3 => v.ownBlock = some b | 5 => v.ownBlock = some b | 6 => v.ownBlock = some b | _ => False) := by
      intro oi v W W' h hbs hz hk
      match oi, h, hk with
      | 0, h, hk => obtain ⟨A, cp, rfl, h2⟩ := h; exact ⟨A, cp, rfl, own_stab h2 (fun b hb e => hk b hb (.inr e))⟩
      | 1, h, hk => exact h
      | 2, h, hk => exact h
      | 3, h, hk => obtain ⟨A, cp, rfl, h2⟩ := h; exact ⟨A, cp, rfl, own_stab h2 (fun b hb e => hk b hb (.inr e))⟩
      | 4, h, hk => exact h
      | 5, h, hk => obtain ⟨A, cp, rfl, h2⟩ := h; exact ⟨A, cp, rfl, own_stab h2 (fun b hb e => hk b hb (.inr e))⟩
      | 6, h, hk => obtain ⟨A, cp, rfl, h2⟩ := h; exact ⟨A, cp, rfl, own_stab h2 (fun b hb e => hk b hb (.inr e))⟩
      | oi + 7, h, hk => exact trivial
    refine wp_region_inv (dst := fun oi => [26, 27, 28, 29, 30, 31, 32, 33, 0].getD oi 0) (mono := fun oi => decide (oi < 7)) (pre := fun oi => decide (oi < 7)) (G := Loose 9 v1.heap.size (fun oi => match oi with | 0 => 3 | 3 => 6 | _ => 9) (fun oi v W => match oi with | 0 => ∃ A cp, v = .slice A 0 cp ∧ W.ownsRow v1.heap.size 48 3 (.slice A 0 cp) 0 ([]) | 1 => v = .pointer (some ⟨w.heap.size, 3, none⟩) | 2 => v = .slice fa.A4 f.papers.length fa.c4 | 3 => ∃ A cp, v = .slice A f.papers.length cp ∧ W.ownsRow v1.heap.size 48 3 (.slice A f.papers.length cp) f.papers.length ((List.range (f.papers.length * 3)).map (papersF f.papers)) | 4 => v = .agg #[.int .i64 p.says, .int .i64 p.lot, .int .i64 p.of_] | 5 => ∃ A cp, v = .slice A 1 cp ∧ W.ownsRow v1.heap.size 48 3 (.slice A 1 cp) 1 ([.int .i64 p.says, .int .i64 p.lot, .int .i64 p.of_]) | 6 => ∃ A cp, v = .slice A (f.papers.length + 1) cp ∧ W.ownsRow v1.heap.size 48 3 (.slice A (f.papers.length + 1) cp) (f.papers.length + 1) ((List.range (f.papers.length * 3)).map (papersF f.papers) ++ (List.range (1 * 3)).map (fun j => ([.int .i64 p.says, .int .i64 p.lot, .int .i64 p.of_] : List Value).getD j undef)) | _ => True) (fun oi v b => match oi with | 0 => v.ownBlock = some b | 3 => v.ownBlock = some b | 5 => v.ownBlock = some b | 6 => v.ownBlock = some b | _ => False)) (by kernel_rfl) (by kernel_rfl) (Loose.start (Nat.le_refl _)) ?hstep ?hend
    case hstep =>
      intro oi hoi hom listed vs a W hU hsz hG hcl hl haft K hK
      have hb := ((Below.refl v1.heap.size v1).drew).trans hU.below
      have hF := Loose.stepF hU hG hST hoi hK
      match oi, hoi, hom with
      | 0, hoi, hom =>
        refine wpOp_value (v := .slice (some ⟨W.heap.size, 0, none⟩) 0 0) (W' := (W.alloc (.cells #[] 48))) rfl rfl ?_ (hF _ _ ((Below.refl _ _).alloc (Nat.le_refl _) _) (own_lit hG.base #[] 0 rfl (by simp [maxLen])) (fun b h => by rw [← own_new h]; exact ⟨by simp, .inl (Nat.le_refl _)⟩))
        go_simp
      | 1, hoi, hom =>
        have z2 : a.tmps[2]?.getD undef = .pointer (some ⟨w.heap.size, 0, none⟩) := hU.same 2 (by decide)
        refine wpOp_value (v := .pointer (some ⟨w.heap.size, 3, none⟩)) (W' := W) rfl rfl ?_ (hF _ _ (Below.refl _ _) rfl (fun _ h => False.elim h))
        go_simp
      | 2, hoi, hom =>
        have l1 := haft _ rfl { on := 1, ground := .data } (by simp) rfl
        have p1 := hG.pv 1 (by decide) (live_end hsz rfl l1)
        have s1 : a.tmps[27]?.getD undef = vs 1 := hU.slot 1 (by decide) l1
        have hv1 : vs 1 = .pointer (some ⟨w.heap.size, 3, none⟩) := p1
        rw [hv1] at s1
        have y0 := (hb.cell (p := ⟨w.heap.size, 3, none⟩) (z0)).trans (pb4)
        refine wpOp_value (v := .slice fa.A4 f.papers.length fa.c4) (W' := W) rfl rfl ?_ (hF _ _ (Below.refl _ _) rfl (fun _ h => False.elim h))
        go_simp
      | 3, hoi, hom =>
        have l0 := haft _ rfl { on := 0, ground := .data } (by simp) rfl
        have p0 := hG.pv 0 (by decide) (⟨l0, hl⟩)
        have s0 : a.tmps[26]?.getD undef = vs 0 := hU.slot 0 (by decide) l0
        obtain ⟨PA0, kp0, hv0, hi0⟩ := p0
        rw [hv0] at s0
        have l2 := haft _ rfl { on := 2, ground := .data } (by simp) rfl
        have p2 := hG.pv 2 (by decide) (live_end hsz rfl l2)
        have s2 : a.tmps[28]?.getD undef = vs 2 := hU.slot 2 (by decide) l2
        have hv2 : vs 2 = .slice fa.A4 f.papers.length fa.c4 := p2
        rw [hv2] at s2
        have hA := Loose.stepA (p := 0) hU hG rfl hST hoi hK (by decide) (by decide) rfl ⟨l0, hl⟩ (fun b h => h) (by rw [hv0]; exact hi0)
        obtain ⟨v', W', hrun, hown', hg, hblk⟩ := run_app_row (P := Try.prog) W v1.heap.size 25 25 48 i4 (.agg #[.int .i64 0, .int .i64 0, .int .i64 0]) 3 24 Try.underlying25 hI4 hz40 hz41 hz42 rfl (by decide) hi0 (HSE.out.below hb) (fun j h => papers_one _ j) (by simp only [maxLen]; omega) (by omega) hG.base
        rw [Nat.zero_add, List.nil_append] at hown'
        exact wpOp_append (s := 26) (x := 28) (v' := v') (W' := W') rfl rfl rfl s0 s2 hrun (hA _ _ _ _ (by rw [hv0]; exact hg) hown' (by rw [hv0]; exact hblk) (own_ex hown') (fun b h => h))
      | 4, hoi, hom =>
        have z3 : a.tmps[3]?.getD undef = .pointer (some ⟨w.heap.size + 1, 0, none⟩) := hU.same 3 (by decide)
        have y0 := (hb.cell (p := ⟨w.heap.size + 1, 0, none⟩) (z1)).trans (pl0)
        have y1 := (hb.cell (p := ⟨w.heap.size + 1, 1, none⟩) (z1)).trans (pl1)
        have y2 := (hb.cell (p := ⟨w.heap.size + 1, 2, none⟩) (z1)).trans (pl2)
        refine wpOp_value (v := .agg #[.int .i64 p.says, .int .i64 p.lot, .int .i64 p.of_]) (W' := W) rfl rfl ?_ (hF _ _ (Below.refl _ _) rfl (fun _ h => False.elim h))
        go_simp
      | 5, hoi, hom =>
        have l4 := haft _ rfl { on := 4, ground := .data } (by simp) rfl
        have p4 := hG.pv 4 (by decide) (live_end hsz rfl l4)
        have s4 : a.tmps[30]?.getD undef = vs 4 := hU.slot 4 (by decide) l4
        have hv4 : vs 4 = .agg #[.int .i64 p.says, .int .i64 p.lot, .int .i64 p.of_] := p4
        rw [hv4] at s4
        refine wpOp_value (v := .slice (some ⟨W.heap.size, 0, none⟩) 1 1) (W' := (W.alloc (.cells #[.int .i64 p.says, .int .i64 p.lot, .int .i64 p.of_] 48))) rfl rfl ?_ (hF _ _ ((Below.refl _ _).alloc (Nat.le_refl _) _) (own_lit hG.base #[.int .i64 p.says, .int .i64 p.lot, .int .i64 p.of_] 1 rfl (by simp [maxLen])) (fun b h => by rw [← own_new h]; exact ⟨by simp, .inl (Nat.le_refl _)⟩))
        go_simp
      | 6, hoi, hom =>
        have l3 := haft _ rfl { on := 3, ground := .data } (by simp) rfl
        have p3 := hG.pv 3 (by decide) (⟨l3, hl⟩)
        have s3 : a.tmps[29]?.getD undef = vs 3 := hU.slot 3 (by decide) l3
        obtain ⟨PA3, kp3, hv3, hi3⟩ := p3
        rw [hv3] at s3
        have l5 := haft _ rfl { on := 5, ground := .data } (by simp) rfl
        have p5 := hG.pv 5 (by decide) (live_end hsz rfl l5)
        have s5 : a.tmps[31]?.getD undef = vs 5 := hU.slot 5 (by decide) l5
        obtain ⟨PA5, kp5, hv5, hi5⟩ := p5
        rw [hv5] at s5
        obtain ⟨_, _, e5, _, _, hr5⟩ := row_own hi5
        obtain ⟨rfl, rfl⟩ : _ = PA5 ∧ _ = kp5 := by simp only [Value.slice.injEq, true_and] at e5; exact ⟨e5.1.symm, e5.2.symm⟩
        have hA := Loose.stepA (p := 3) hU hG rfl hST hoi hK (by decide) (by decide) rfl ⟨l3, hl⟩ (fun b h => h) (by rw [hv3]; exact hi3)
        obtain ⟨v', W', hrun, hown', hg, hblk⟩ := run_app_row (P := Try.prog) W v1.heap.size 25 25 48 i4 (.agg #[.int .i64 0, .int .i64 0, .int .i64 0]) 3 24 Try.underlying25 hI4 hz40 hz41 hz42 rfl (by decide) hi3 hr5 (one3p _ _ _) (by simp only [maxLen]; omega) (by omega) hG.base
        exact wpOp_append (s := 29) (x := 31) (v' := v') (W' := W') rfl rfl rfl s3 s5 hrun (hA _ _ _ _ (by rw [hv3]; exact hg) hown' (by rw [hv3]; exact hblk) (own_ex hown') (fun b h => h))
      | oi + 7, hoi, hom => exact absurd (of_decide_eq_true hom) (by omega)
    case hend =>
      intro listed vs a W hG0 hG hpre
      have hb := ((Below.refl v1.heap.size v1).drew).trans hG0.below
      have hact := hG0.act
      have hT := hG0.lst hpre 0 #[true, true, true, true, true, true, true, false, false] rfl (by kernel_rfl) (hpre 0 (by decide) (by decide))
      rw [hG0.ix hT (l := [0, 1, 2, 3, 4, 5, 6]) (by kernel_rfl)] at hact
      rw [hG0.lo hT (k := 2) (by kernel_rfl)]
      have p6 := hG.pv 6 (by decide) (live_end hG.size rfl (hpre 6 (by decide) (by decide)))
      clear hpre hG hST
      obtain rfl : a = _ := hact
      subst hT
      obtain ⟨A, cp, hv6, hi6⟩ := p6
      have y4 := (hb.cell (p := ⟨w.heap.size + 1 + 1, 3, none⟩) zg).trans pg4
      have f4 := (hb.frozen (p := ⟨w.heap.size + 1 + 1, 3, none⟩) zg).trans fg4
      simp only [setAll, List.setIfInBounds_toArray, List.set_cons_succ, List.set_cons_zero, List.getD_cons_succ, List.getD_cons_zero]
      refine wpAny_all (rs := [7]) (by kernel_rfl) (by simp) ?_
      intro i2 hi2
      obtain rfl : i2 = 7 := by simpa using hi2
      refine wpOp_value (v := .pointer (some ⟨w.heap.size + 1 + 1, 3, none⟩)) (W' := W) rfl rfl ?_ ?_
      · go_simp
      refine wpAny_all (rs := [8]) (by kernel_rfl) (by simp) ?_
      intro i2 hi2
      obtain rfl : i2 = 8 := by simpa using hi2
      refine wpOp_skip (W' := W.setCell ⟨w.heap.size + 1 + 1, 3, none⟩ (.slice A (f.papers.length + 1) cp)) rfl rfl ?_ ?_
      · rw [hv6]; go_simp
      refine wpAny_done (by kernel_rfl) ?_ _
      exact ⟨rfl, fun q => if q = 7 then .pointer (some ⟨w.heap.size + 1 + 1, 3, none⟩) else vs q, rfl, W, A, cp, rfl, hb, hi6⟩
  case imp =>
  rintro a9 w2 ⟨vs, rfl, W1, A, cp, rfl, hb1, hown⟩
  simp only [setAll, List.setIfInBounds_toArray, List.set_cons_succ, List.set_cons_zero, List.getD_cons_succ, List.getD_cons_zero]
  rw [papers_snoc] at hown
  have b1 := (Q1.out.below hb1 z0).else_ (p := ⟨w.heap.size + 1 + 1, 3, none⟩) (by simp; omega) (.slice A (f.papers.length + 1) cp)
  have b3 := (Q3.out.below hb1 zg).store 3 (.slice A (f.papers.length + 1) cp)
  have hk1 : Keep (fun q => q = w.heap.size + 1 + 1) W1 (W1.setCell ⟨w.heap.size + 1 + 1, 3, none⟩ (.slice A (f.papers.length + 1) cp)) := Keep.setCell _ _ _ _ rfl
  have hb2 : Below w.heap.size w (W1.setCell ⟨w.heap.size + 1 + 1, 3, none⟩ (.slice A (f.papers.length + 1) cp)) := (HA1.out.trans (hb1.mono (by omega))).setCell (p := ⟨w.heap.size + 1 + 1, 3, none⟩) (by show w.heap.size ≤ w.heap.size + 1 + 1; omega) (.slice A (f.papers.length + 1) cp)
  obtain ⟨m1, m2, hr⟩ := row_fun (f := papersF (f.papers ++ [p])) (m := (f.papers.length + 1)) (own_kept hown hk1 (fun b hb hS => by omega))
  have hvv := H0.out.next hb2
  have K : Hid (BoxF (W1.setCell ⟨w.heap.size + 1 + 1, 3, none⟩ (.slice A (f.papers.length + 1) cp)) w.heap.size f fa) := hide ⟨hvv, b1⟩
  have Z : Hid (BoxF (W1.setCell ⟨w.heap.size + 1 + 1, 3, none⟩ (.slice A (f.papers.length + 1) cp)) (w.heap.size + 1 + 1) (moreP f p) ⟨fa.A1, fa.A2, fa.A3, A, fa.A5, fa.c1, fa.c2, fa.c3, cp, fa.c5, fa.R, fa.K⟩) := hide ⟨⟨hvv.parties, hvv.untils, hvv.lots, by simpa [moreP] using hr, hvv.claims, hvv.routes, hvv.small, hvv.fit, hvv.m1, hvv.m2, hvv.m3, by simpa [moreP] using (⟨m1, m2⟩ : _ ∧ _), hvv.m5⟩, by rw [show fileCells (moreP f p) ⟨fa.A1, fa.A2, fa.A3, A, fa.A5, fa.c1, fa.c2, fa.c3, cp, fa.c5, fa.R, fa.K⟩ = #[.slice fa.A1 f.parties.length fa.c1, .slice fa.A2 f.untils.length fa.c2, .slice fa.A3 f.lots.length fa.c3, .slice A (f.papers.length + 1) cp, .slice fa.A5 f.claims.length fa.c5] by simp [fileCells, moreP]]; exact b3⟩
  have HB := hide hb2
  clear hvv hr hk1 hown hb1 hb2 b1 b3 m1 m2 Q1 Q3 HSE HV HA1 HSZ H0 pb4 pg4 fg4 pl0 pl1 pl2 z0 z1 zg hI4 hz40 hz41 hz42
  generalize W1.setCell ⟨w.heap.size + 1 + 1, 3, none⟩ (.slice A (f.papers.length + 1) cp) = y0 at *
  have HLN := hide (And.intro (show (moreP f p).lots.length = f.lots.length from rfl) (And.intro (show (moreP f p).claims.length = f.claims.length from rfl) (show (moreP f p).parties.length = f.parties.length from rfl)))
  generalize moreP f p = zf at *
  generalize hfb : (⟨fa.A1, fa.A2, fa.A3, A, fa.A5, fa.c1, fa.c2, fa.c3, cp, fa.c5, fa.R, fa.K⟩ : FA) = fb at *
  clear hfb
  cases hs : someT f with
  | false =>
    obtain ⟨zK, cK1, cK2, cK3, cK4, cK5⟩ := K.out.cells
    obtain ⟨zZ, cZ1, cZ2, cZ3, cZ4, cZ5⟩ := Z.out.cells
    go_wp2_with fail
    refine (someL_any K.out.v hs).mono ?_
    rintro e y1 ⟨rfl, hb⟩
    clear zK cK1 cK2 cK3 cK4 cK5 zZ cZ1 cZ2 cZ3 cZ4 cZ5
    have K := hide (K.out.next hb)
    have Z := hide (Z.out.next hb)
    have HB := hide (HB.out.trans (hb.mono HB.out.size))
    clear hb
    obtain ⟨zK, cK1, cK2, cK3, cK4, cK5⟩ := K.out.cells
    obtain ⟨zZ, cZ1, cZ2, cZ3, cZ4, cZ5⟩ := Z.out.cells
    go_wp2_with fail
    refine (awake_any _).mono ?_
    rintro e yz ⟨rfl, hb⟩
    go_wp2_with fail
    go_ret
    exact ⟨rfl, HB.out.trans (hb.mono HB.out.size)⟩
  | true =>
    obtain ⟨zK, cK1, cK2, cK3, cK4, cK5⟩ := K.out.cells
    obtain ⟨zZ, cZ1, cZ2, cZ3, cZ4, cZ5⟩ := Z.out.cells
    go_wp2_with fail
    refine (someL_any K.out.v hs).mono ?_
    rintro e y3 ⟨rfl, hb⟩
    clear zK cK1 cK2 cK3 cK4 cK5 zZ cZ1 cZ2 cZ3 cZ4 cZ5
    have K := hide (K.out.next hb)
    have Z := hide (Z.out.next hb)
    have HB := hide (HB.out.trans (hb.mono HB.out.size))
    clear hb
    obtain ⟨zK, cK1, cK2, cK3, cK4, cK5⟩ := K.out.cells
    obtain ⟨zZ, cZ1, cZ2, cZ3, cZ4, cZ5⟩ := Z.out.cells
    cases hs2 : someT zf with
    | false =>
      go_wp2_with fail
      refine (someL_any Z.out.v hs2).mono ?_
      rintro e y4 ⟨rfl, hb⟩
      clear zK cK1 cK2 cK3 cK4 cK5 zZ cZ1 cZ2 cZ3 cZ4 cZ5
      have K := hide (K.out.next hb)
      have Z := hide (Z.out.next hb)
      have HB := hide (HB.out.trans (hb.mono HB.out.size))
      clear hb
      obtain ⟨zK, cK1, cK2, cK3, cK4, cK5⟩ := K.out.cells
      obtain ⟨zZ, cZ1, cZ2, cZ3, cZ4, cZ5⟩ := Z.out.cells
      go_wp2_with fail
      refine (awake_any _).mono ?_
      rintro e yz ⟨rfl, hb⟩
      go_wp2_with fail
      go_ret
      exact ⟨rfl, HB.out.trans (hb.mono HB.out.size)⟩
    | true =>
      obtain ⟨ww, wz, pp, pz, ss, sz, hh, hz, h1, h2, h3, h4, h5, h6⟩ := HML.out hs hs2
      have H1 := hide h1
      have H2 := hide h2
      have H3 := hide h3
      have H4 := hide h4
      have H5 := hide h5
      have H6 := hide h6
      have HS2 := hide hs2
      have hll4 := (some_ok hs).1.lots
      have hcl5 := (some_ok hs).1.claims
      have hpl4 := (some_ok hs).1.parties
      clear h1 h2 h3 h4 h5 h6 hs hs2 HML
      go_wp2_with fail
      refine (someL_any Z.out.v HS2.out).mono ?_
      rintro e y6 ⟨rfl, hb⟩
      clear zK cK1 cK2 cK3 cK4 cK5 zZ cZ1 cZ2 cZ3 cZ4 cZ5
      have K := hide (K.out.next hb)
      have Z := hide (Z.out.next hb)
      have HB := hide (HB.out.trans (hb.mono HB.out.size))
      clear hb
      obtain ⟨zK, cK1, cK2, cK3, cK4, cK5⟩ := K.out.cells
      obtain ⟨zZ, cZ1, cZ2, cZ3, cZ4, cZ5⟩ := Z.out.cells
      clear HS2
      go_wp2_with fail
      go_loopw [6, 7, 8, 9, 10] (fun v6 _ _ _ _ wr => ∃ j1 : Nat, j1 ≤ f.lots.length ∧ v6 = .int .i64 j1 ∧ Below y6.heap.size y6 wr) (fun v6 _ _ _ _ _ => f.lots.length - (intOf v6).toNat)
      case atStart => exact ⟨0, Nat.zero_le _, rfl, Below.refl _ _⟩
      case round =>
        obtain ⟨j1, hj1, rfl, hB⟩ := hrel
        obtain ⟨w1, rfl⟩ : ∃ w1 : World, w1 = wr := ⟨_, rfl⟩
        have hj10 : (0 : Int) ≤ (j1 : Int) := Int.natCast_nonneg _
        have HL1 := hide hB
        clear zK cK1 cK2 cK3 cK4 cK5 zZ cZ1 cZ2 cZ3 cZ4 cZ5
        have K := hide (K.out.next hB)
        have Z := hide (Z.out.next hB)
        have HB := hide (HB.out.trans (hB.mono HB.out.size))
        clear hB
        by_cases hlt1 : j1 < f.lots.length
        · have hj11 : (j1 : Int) < ((f.lots.length : Nat) : Int) := by omega
          obtain ⟨zK, cK1, cK2, cK3, cK4, cK5⟩ := K.out.cells
          obtain ⟨zZ, cZ1, cZ2, cZ3, cZ4, cZ5⟩ := Z.out.cells
          have hc := who_any K.out.v ((j1 : Nat) : Int)
          rw [(H1.out j1 hlt1).1] at hc
          try dsimp only at hc
          go_wp2_with fail
          refine (hc).mono ?_
          rintro e y7 ⟨A7, q7, rfl, hi, hb⟩
          clear zK cK1 cK2 cK3 cK4 cK5 zZ cZ1 cZ2 cZ3 cZ4 cZ5
          have K := hide (K.out.next hb)
          have Z := hide (Z.out.next hb)
          have HB := hide (HB.out.trans (hb.mono HB.out.size))
          have HL1 := hide (HL1.out.trans (hb.mono HL1.out.size))
          clear hb
          have I1 := hide hi
          clear hi
          obtain ⟨zK, cK1, cK2, cK3, cK4, cK5⟩ := K.out.cells
          obtain ⟨zZ, cZ1, cZ2, cZ3, cZ4, cZ5⟩ := Z.out.cells
          have hc := who_any Z.out.v ((j1 : Nat) : Int)
          rw [(H1.out j1 hlt1).2.1] at hc
          try dsimp only at hc
          go_wp2_with fail
          refine (hc).mono ?_
          rintro e y8 ⟨A8, q8, rfl, hi, hb⟩
          clear zK cK1 cK2 cK3 cK4 cK5 zZ cZ1 cZ2 cZ3 cZ4 cZ5
          have K := hide (K.out.next hb)
          have Z := hide (Z.out.next hb)
          have I1 := hide (I1.out.next hb)
          have HB := hide (HB.out.trans (hb.mono HB.out.size))
          have HL1 := hide (HL1.out.trans (hb.mono HL1.out.size))
          clear hb
          have I2 := hide hi
          clear hi
          obtain ⟨zK, cK1, cK2, cK3, cK4, cK5⟩ := K.out.cells
          obtain ⟨zZ, cZ1, cZ2, cZ3, cZ4, cZ5⟩ := Z.out.cells
          go_wp2_with fail
          refine (subset_any I2.out I1.out (H1.out j1 hlt1).2.2).mono ?_
          rintro e y9 ⟨rfl, rfl⟩
          go_wp2_with fail
          go_roundw
          case rel => exact ⟨j1 + 1, by omega, by go_num, HL1.out⟩
          case measure => simp [intOf]; omega
        · have hx1 := hide (show j1 = f.lots.length by omega)
          obtain ⟨zK, cK1, cK2, cK3, cK4, cK5⟩ := K.out.cells
          obtain ⟨zZ, cZ1, cZ2, cZ3, cZ4, cZ5⟩ := Z.out.cells
          go_wp2_with fail
          go_loopw [11, 12, 13, 14, 15] (fun v11 _ _ _ _ wr => ∃ j2 : Nat, j2 ≤ f.claims.length ∧ v11 = .int .i64 j2 ∧ Below w1.heap.size w1 wr) (fun v11 _ _ _ _ _ => f.claims.length - (intOf v11).toNat)
          case atStart => exact ⟨0, Nat.zero_le _, rfl, Below.refl _ _⟩
          case round =>
            obtain ⟨j2, hj2, rfl, hB⟩ := hrel
            obtain ⟨w2, rfl⟩ : ∃ w2 : World, w2 = wr := ⟨_, rfl⟩
            have hj20 : (0 : Int) ≤ (j2 : Int) := Int.natCast_nonneg _
            have HL2 := hide hB
            clear zK cK1 cK2 cK3 cK4 cK5 zZ cZ1 cZ2 cZ3 cZ4 cZ5
            have K := hide (K.out.next hB)
            have Z := hide (Z.out.next hB)
            have HB := hide (HB.out.trans (hB.mono HB.out.size))
            clear hB
            by_cases hlt2 : j2 < f.claims.length
            · have hj21 : (j2 : Int) < ((f.claims.length : Nat) : Int) := by omega
              obtain ⟨zK, cK1, cK2, cK3, cK4, cK5⟩ := K.out.cells
              obtain ⟨zZ, cZ1, cZ2, cZ3, cZ4, cZ5⟩ := Z.out.cells
              have hc := pays_any K.out.v ((j2 : Nat) : Int)
              rw [(H2.out j2 hlt2).1] at hc
              try dsimp only at hc
              go_wp2_with fail
              refine (hc).mono ?_
              rintro e y7 ⟨rfl, hb⟩
              clear zK cK1 cK2 cK3 cK4 cK5 zZ cZ1 cZ2 cZ3 cZ4 cZ5
              have K := hide (K.out.next hb)
              have Z := hide (Z.out.next hb)
              have HB := hide (HB.out.trans (hb.mono HB.out.size))
              have HL2 := hide (HL2.out.trans (hb.mono HL2.out.size))
              clear hb
              obtain ⟨zK, cK1, cK2, cK3, cK4, cK5⟩ := K.out.cells
              obtain ⟨zZ, cZ1, cZ2, cZ3, cZ4, cZ5⟩ := Z.out.cells
              have hc := pays_any Z.out.v ((j2 : Nat) : Int)
              rw [(H2.out j2 hlt2).2.1] at hc
              try dsimp only at hc
              go_wp2_with fail
              refine (hc).mono ?_
              rintro e y8 ⟨rfl, hb⟩
              clear zK cK1 cK2 cK3 cK4 cK5 zZ cZ1 cZ2 cZ3 cZ4 cZ5
              have K := hide (K.out.next hb)
              have Z := hide (Z.out.next hb)
              have HB := hide (HB.out.trans (hb.mono HB.out.size))
              have HL2 := hide (HL2.out.trans (hb.mono HL2.out.size))
              clear hb
              obtain ⟨zK, cK1, cK2, cK3, cK4, cK5⟩ := K.out.cells
              obtain ⟨zZ, cZ1, cZ2, cZ3, cZ4, cZ5⟩ := Z.out.cells
              have HP := hide (H2.out j2 hlt2).2.2
              generalize pp j2 = a1 at *
              generalize pz j2 = a2 at *
              cases hp0 : (a1 != 0) with
              | false =>
                go_wp2_with fail
                go_roundw
                case rel => exact ⟨j2 + 1, by omega, by go_num, HL2.out⟩
                case measure => simp [intOf]; omega
              | true =>
                have hp1 : (a1 != a2) = false := by have := HP.out; rw [hp0, Bool.true_and] at this; exact this
                go_wp2_with fail
                go_roundw
                case rel => exact ⟨j2 + 1, by omega, by go_num, HL2.out⟩
                case measure => simp [intOf]; omega
            · have hx2 := hide (show j2 = f.claims.length by omega)
              obtain ⟨zK, cK1, cK2, cK3, cK4, cK5⟩ := K.out.cells
              obtain ⟨zZ, cZ1, cZ2, cZ3, cZ4, cZ5⟩ := Z.out.cells
              go_wp2_with fail
              go_loopw [16, 17, 18, 19, 20] (fun v16 _ _ _ _ wr => ∃ j3 : Nat, j3 ≤ f.parties.length ∧ v16 = .int .i64 j3 ∧ Below w2.heap.size w2 wr) (fun v16 _ _ _ _ _ => f.parties.length - (intOf v16).toNat)
              case atStart => exact ⟨0, Nat.zero_le _, rfl, Below.refl _ _⟩
              case round =>
                obtain ⟨j3, hj3, rfl, hB⟩ := hrel
                obtain ⟨w3, rfl⟩ : ∃ w3 : World, w3 = wr := ⟨_, rfl⟩
                have hj30 : (0 : Int) ≤ (j3 : Int) := Int.natCast_nonneg _
                have HL3 := hide hB
                clear zK cK1 cK2 cK3 cK4 cK5 zZ cZ1 cZ2 cZ3 cZ4 cZ5
                have K := hide (K.out.next hB)
                have Z := hide (Z.out.next hB)
                have HB := hide (HB.out.trans (hB.mono HB.out.size))
                clear hB
                by_cases hlt3 : j3 < f.parties.length
                · have hj31 : (j3 : Int) < ((f.parties.length : Nat) : Int) := by omega
                  obtain ⟨zK, cK1, cK2, cK3, cK4, cK5⟩ := K.out.cells
                  obtain ⟨zZ, cZ1, cZ2, cZ3, cZ4, cZ5⟩ := Z.out.cells
                  obtain ⟨h31, h32, h33, h34⟩ := H3.out j3 hlt3
                  generalize ss j3 = s1 at *
                  generalize sz j3 = s2 at *
                  obtain ⟨a, b⟩ := s1
                  obtain ⟨a2, b2⟩ := s2
                  have hc := owesX K.out.v ((j3 : Nat) : Int) h31
                  have HC2 := hide h32
                  clear h31 h32
                  try dsimp only at hc
                  try dsimp only at h33 h34
                  have HN1 := hide h33
                  have HN2 := hide h34
                  clear h33 h34
                  go_upto_region 23 with (go_at_call 18; refine (hc).mono ?_; rintro e y7 ⟨rfl, hb⟩)
                  clear zK cK1 cK2 cK3 cK4 cK5 zZ cZ1 cZ2 cZ3 cZ4 cZ5
                  have K := hide (K.out.next hb)
                  have Z := hide (Z.out.next hb)
                  have HB := hide (HB.out.trans (hb.mono HB.out.size))
                  have HL3 := hide (HL3.out.trans (hb.mono HL3.out.size))
                  clear hb
                  obtain ⟨zK, cK1, cK2, cK3, cK4, cK5⟩ := K.out.cells
                  obtain ⟨zZ, cZ1, cZ2, cZ3, cZ4, cZ5⟩ := Z.out.cells
                  clear zK cK1 cK2 cK3 cK4 cK5 zZ cZ1 cZ2 cZ3 cZ4 cZ5
                  have hb : Below y7.heap.size y7 (y7.alloc (.cells #[.int .i64 a, .int .i64 b] 43)) := (Below.refl _ _).alloc (Nat.le_refl _) _
                  have S1 : Hid (Blk (y7.alloc (.cells #[.int .i64 a, .int .i64 b] 43)) y7.heap.size 43 #[.int .i64 a, .int .i64 b]) := hide Blk.made
                  have K := hide (K.out.next hb)
                  have Z := hide (Z.out.next hb)
                  have HB := hide (HB.out.trans (hb.mono HB.out.size))
                  have HL3 := hide (HL3.out.trans (hb.mono HL3.out.size))
                  clear hb
                  generalize (y7.alloc (.cells #[.int .i64 a, .int .i64 b] 43)) = y8 at *
                  obtain ⟨zK, cK1, cK2, cK3, cK4, cK5⟩ := K.out.cells
                  obtain ⟨zZ, cZ1, cZ2, cZ3, cZ4, cZ5⟩ := Z.out.cells
                  have zS1 := S1.out.lt
                  have cS10 := S1.out.at_ 0
                  have cS11 := S1.out.at_ 1
                  simp only [List.getElem?_toArray, List.getElem?_cons_zero, List.getElem?_cons_succ] at cS10 cS11
                  have hc := owesX Z.out.v ((j3 : Nat) : Int) HC2.out
                  try dsimp only at hc
                  go_upto_region 24 with (go_at_call 18; refine (hc).mono ?_; rintro e y9 ⟨rfl, hb⟩)
                  clear zK cK1 cK2 cK3 cK4 cK5 zZ cZ1 cZ2 cZ3 cZ4 cZ5 zS1 cS10 cS11
                  have K := hide (K.out.next hb)
                  have Z := hide (Z.out.next hb)
                  have S1 := hide (S1.out.next hb)
                  have HB := hide (HB.out.trans (hb.mono HB.out.size))
                  have HL3 := hide (HL3.out.trans (hb.mono HL3.out.size))
                  clear hb
                  obtain ⟨zK, cK1, cK2, cK3, cK4, cK5⟩ := K.out.cells
                  obtain ⟨zZ, cZ1, cZ2, cZ3, cZ4, cZ5⟩ := Z.out.cells
                  have zS1 := S1.out.lt
                  have cS10 := S1.out.at_ 0
                  have cS11 := S1.out.at_ 1
                  simp only [List.getElem?_toArray, List.getElem?_cons_zero, List.getElem?_cons_succ] at cS10 cS11
                  clear zK cK1 cK2 cK3 cK4 cK5 zZ cZ1 cZ2 cZ3 cZ4 cZ5 zS1 cS10 cS11
                  have hb : Below y9.heap.size y9 (y9.alloc (.cells #[.int .i64 a2, .int .i64 b2] 43)) := (Below.refl _ _).alloc (Nat.le_refl _) _
                  have S2 : Hid (Blk (y9.alloc (.cells #[.int .i64 a2, .int .i64 b2] 43)) y9.heap.size 43 #[.int .i64 a2, .int .i64 b2]) := hide Blk.made
                  have K := hide (K.out.next hb)
                  have Z := hide (Z.out.next hb)
                  have S1 := hide (S1.out.next hb)
                  have HB := hide (HB.out.trans (hb.mono HB.out.size))
                  have HL3 := hide (HL3.out.trans (hb.mono HL3.out.size))
                  clear hb
                  generalize (y9.alloc (.cells #[.int .i64 a2, .int .i64 b2] 43)) = y10 at *
                  obtain ⟨zK, cK1, cK2, cK3, cK4, cK5⟩ := K.out.cells
                  obtain ⟨zZ, cZ1, cZ2, cZ3, cZ4, cZ5⟩ := Z.out.cells
                  have zS1 := S1.out.lt
                  have cS10 := S1.out.at_ 0
                  have cS11 := S1.out.at_ 1
                  simp only [List.getElem?_toArray, List.getElem?_cons_zero, List.getElem?_cons_succ] at cS10 cS11
                  have zS2 := S2.out.lt
                  have cS20 := S2.out.at_ 0
                  have cS21 := S2.out.at_ 1
                  simp only [List.getElem?_toArray, List.getElem?_cons_zero, List.getElem?_cons_succ] at cS20 cS21
                  have hn1 := HN1.out
                  have hn2 := HN2.out
                  go_wp2_with fail
                  go_roundw
                  case rel => exact ⟨j3 + 1, by omega, by go_num, HL3.out⟩
                  case measure => simp [intOf]; omega
                · have hx3 := hide (show j3 = f.parties.length by omega)
                  obtain ⟨zK, cK1, cK2, cK3, cK4, cK5⟩ := K.out.cells
                  obtain ⟨zZ, cZ1, cZ2, cZ3, cZ4, cZ5⟩ := Z.out.cells
                  go_wp2_with fail
                  have hc := held_any K.out.v
                  rw [H4.out] at hc
                  try dsimp only at hc
                  refine (hc).mono ?_
                  rintro e y7 ⟨A7, q7, rfl, hi, hb⟩
                  clear zK cK1 cK2 cK3 cK4 cK5 zZ cZ1 cZ2 cZ3 cZ4 cZ5
                  have K := hide (K.out.next hb)
                  have Z := hide (Z.out.next hb)
                  have HB := hide (HB.out.trans (hb.mono HB.out.size))
                  clear hb
                  have J1 := hide hi
                  clear hi
                  obtain ⟨zK, cK1, cK2, cK3, cK4, cK5⟩ := K.out.cells
                  obtain ⟨zZ, cZ1, cZ2, cZ3, cZ4, cZ5⟩ := Z.out.cells
                  have hc := held_any Z.out.v
                  rw [H5.out] at hc
                  try dsimp only at hc
                  go_wp2_with fail
                  refine (hc).mono ?_
                  rintro e y8 ⟨A8, q8, rfl, hi, hb⟩
                  clear zK cK1 cK2 cK3 cK4 cK5 zZ cZ1 cZ2 cZ3 cZ4 cZ5
                  have K := hide (K.out.next hb)
                  have Z := hide (Z.out.next hb)
                  have J1 := hide (J1.out.next hb)
                  have HB := hide (HB.out.trans (hb.mono HB.out.size))
                  clear hb
                  have J2 := hide hi
                  clear hi
                  obtain ⟨zK, cK1, cK2, cK3, cK4, cK5⟩ := K.out.cells
                  obtain ⟨zZ, cZ1, cZ2, cZ3, cZ4, cZ5⟩ := Z.out.cells
                  go_wp2_with fail
                  refine (subset_any J2.out J1.out H6.out).mono ?_
                  rintro e y9 ⟨rfl, rfl⟩
                  go_wp2_with fail
                  refine (awake_any _).mono ?_
                  rintro e yz ⟨rfl, hb⟩
                  go_wp2_with fail
                  go_ret
                  exact ⟨rfl, HB.out.trans (hb.mono HB.out.size)⟩
end Go.Proofs.Ytllmahcanipcpaa
