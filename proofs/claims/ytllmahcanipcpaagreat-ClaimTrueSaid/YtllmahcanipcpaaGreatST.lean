/- The contracts of the reference's More and Helps. -/
import Derived.Test.YtllmahcanipcpaaGreatSW
import Derived.Test.YtllmahcanipcpaaGreatSI
import Derived.OwnWalkIn
import Derived.TacticsInMore
import Derived.Deep.DeepCutAuto
set_option linter.unusedVariables false
set_option linter.unusedSimpArgs false
namespace Go.Proofs.YtllmahcanipcpaaGreat
open Go.RowKit
attribute [local go_sem ↓] Go.wp_at_zero Go.wp_at_succ
attribute [local go_sem] Oper.semAt_some

theorem Tryz.infoClaim : (Tryz.prog.info? 59).map (fun i => (i.zero, i.size, i.bytes)) = some (some (.agg #[.int .i64 0, .int .i64 0, .int .i64 0]), 3, 24) := by kernel_rfl
theorem claims_one (xs : List Claim) (j : Nat) : (claimsF xs j).oneCell' = true := by
  unfold claimsF; rfl
theorem one3c (a b d : Int) (j : Nat) (hj : j < 1 * 3) : (([Value.int .i64 a, .int .i64 b, .int .i64 d] : List Value).getD j undef).oneCell' = true := by
  match j, hj with
  | 0, _ => rfl
  | 1, _ => rfl
  | 2, _ => rfl
theorem claimsF_app {xs : List Claim} {x : Claim} {j : Nat} (h : j < xs.length * 3) : claimsF (xs ++ [x]) j = claimsF xs j := by
  have e : nth (xs ++ [x]) (j / 3) = nth xs (j / 3) := by simp [nth, List.getElem?_append_left (show j / 3 < xs.length by omega)]
  rw [claimsF, claimsF, e]
theorem claimsF_last (xs : List Claim) (x : Claim) : claimsF (xs ++ [x]) (xs.length * 3) = .int .i64 x.lot ∧ claimsF (xs ++ [x]) (xs.length * 3 + 1) = .int .i64 x.against ∧ claimsF (xs ++ [x]) (xs.length * 3 + 2) = .int .i64 x.day := by
  have e : nth (xs ++ [x]) xs.length = x := by simp [nth]
  refine ⟨?_, ?_, ?_⟩
  · rw [claimsF, show xs.length * 3 % 3 = 0 by omega, show xs.length * 3 / 3 = xs.length by omega, e]; rfl
  · rw [claimsF, show (xs.length * 3 + 1) % 3 = 1 by omega, show (xs.length * 3 + 1) / 3 = xs.length by omega, e]; rfl
  · rw [claimsF, show (xs.length * 3 + 2) % 3 = 2 by omega, show (xs.length * 3 + 2) / 3 = xs.length by omega, e]; rfl
theorem claims_snoc (xs : List Claim) (x : Claim) : (List.range (xs.length * 3)).map (claimsF xs) ++ (List.range (1 * 3)).map (fun j => ([Value.int .i64 x.lot, .int .i64 x.against, .int .i64 x.day] : List Value).getD j undef) = (List.range ((xs.length + 1) * 3)).map (claimsF (xs ++ [x])) := by
  obtain ⟨e0, e1, e2⟩ := claimsF_last xs x
  rw [range3 xs.length, List.map_append]
  congr 1
  · exact List.map_congr_left fun j hj => (claimsF_app (List.mem_range.1 hj)).symm
  · show _ = [_, _, _]
    rw [e0, e1, e2]
    rfl
theorem keep5 (v : World) (g : Nat) (a b c d e : Value) : Keep (fun q => q = g) v (((((v.setCell ⟨g, 0, none⟩ a).setCell ⟨g, 1, none⟩ b).setCell ⟨g, 2, none⟩ c).setCell ⟨g, 3, none⟩ d).setCell ⟨g, 4, none⟩ e) :=
  ((((Keep.setCell _ _ _ (fun q => q = g) rfl).trans (Keep.setCell _ _ _ (fun q => q = g) rfl)).trans (Keep.setCell _ _ _ (fun q => q = g) rfl)).trans (Keep.setCell _ _ _ (fun q => q = g) rfl)).trans (Keep.setCell _ _ _ (fun q => q = g) rfl)
set_option maxHeartbeats 4000000 in
set_option maxRecDepth 100000 in
theorem more7_any {f : File} {fa : FA} {w : World} (h : FileV w w.heap.size f fa) (hrb : (f.claims.length + 1) * 24 ≤ 140737488355328) (c : Claim) :
    Calls Tryz.prog 42 #[fileVal f fa, .agg #[.int .i64 c.lot, .int .i64 c.against, .int .i64 c.day]] w fun e w' => ∃ fb, e = .returned (fileVal (moreF f c) fb) ∧ FileV w' w'.heap.size (moreF f c) fb ∧ Below w.heap.size w w' := by
  obtain ⟨i4, hI4, hz40, hz41, hz42⟩ := info_parts Tryz.infoClaim
  have hA1 : Below w.heap.size w (((w.alloc (.cells (fileCells f fa) 28)).alloc (.cells #[.int .i64 c.lot, .int .i64 c.against, .int .i64 c.day] 59)).alloc (.cells #[.slice none 0 0, .slice none 0 0, .slice none 0 0, .slice none 0 0, .slice none 0 0] 28)) := (((Below.refl _ _).alloc (Nat.le_refl _) _).alloc (by simp) _).alloc (by simp; omega) _
  have q1 : Blk (((w.alloc (.cells (fileCells f fa) 28)).alloc (.cells #[.int .i64 c.lot, .int .i64 c.against, .int .i64 c.day] 59)).alloc (.cells #[.slice none 0 0, .slice none 0 0, .slice none 0 0, .slice none 0 0, .slice none 0 0] 28)) w.heap.size 28 (fileCells f fa) := (Blk.made.alloc _).alloc _
  have q2 : Blk (((w.alloc (.cells (fileCells f fa) 28)).alloc (.cells #[.int .i64 c.lot, .int .i64 c.against, .int .i64 c.day] 59)).alloc (.cells #[.slice none 0 0, .slice none 0 0, .slice none 0 0, .slice none 0 0, .slice none 0 0] 28)) (w.heap.size + 1) 59 #[.int .i64 c.lot, .int .i64 c.against, .int .i64 c.day] := (Blk.made' (by simp)).alloc _
  have q3 : Blk (((w.alloc (.cells (fileCells f fa) 28)).alloc (.cells #[.int .i64 c.lot, .int .i64 c.against, .int .i64 c.day] 59)).alloc (.cells #[.slice none 0 0, .slice none 0 0, .slice none 0 0, .slice none 0 0, .slice none 0 0] 28)) (w.heap.size + 1 + 1) 28 #[.slice none 0 0, .slice none 0 0, .slice none 0 0, .slice none 0 0, .slice none 0 0] := Blk.made' (by simp)
  have hsz : (((w.alloc (.cells (fileCells f fa) 28)).alloc (.cells #[.int .i64 c.lot, .int .i64 c.against, .int .i64 c.day] 59)).alloc (.cells #[.slice none 0 0, .slice none 0 0, .slice none 0 0, .slice none 0 0, .slice none 0 0] 28)).heap.size = w.heap.size + 3 := by simp
  have HV := hide (h.next hA1)
  have HA1 := hide hA1
  have HSZ := hide hsz
  have H0 := hide h
  clear h hA1 hsz
  go_enter Tryz.func42, Tryz.ntmps42
  go_upto_region 1 with (fail)
  generalize (((w.alloc (.cells (fileCells f fa) 28)).alloc (.cells #[.int .i64 c.lot, .int .i64 c.against, .int .i64 c.day] 59)).alloc (.cells #[.slice none 0 0, .slice none 0 0, .slice none 0 0, .slice none 0 0, .slice none 0 0] 28)) = v1 at *
  have z0 : w.heap.size < v1.heap.size := by have := HSZ.out; omega
  have z1 : w.heap.size + 1 < v1.heap.size := by have := HSZ.out; omega
  have z2 : w.heap.size + 1 + 1 < v1.heap.size := by have := HSZ.out; omega
  have pb4 : v1.cell? ⟨w.heap.size, 4, none⟩ = some (.slice fa.A5 f.claims.length fa.c5) := q1.at_ 4
  have fb4 := q1.free 4
  have pl0 : v1.cell? ⟨w.heap.size + 1, 0, none⟩ = some (.int .i64 c.lot) := q2.at_ 0
  have pl1 : v1.cell? ⟨w.heap.size + 1, 1, none⟩ = some (.int .i64 c.against) := q2.at_ 1
  have pl2 : v1.cell? ⟨w.heap.size + 1, 2, none⟩ = some (.int .i64 c.day) := q2.at_ 2
  have HSE := hide HV.out.claims
  have Q1 := hide q1
  have Q3 := hide q3
  clear q1 q2 q3
  refine wp_post0 (fun act0 a W => ∃ vs : Nat → Value, a = { tmps := setAll (fun oi => [5, 6, 7, 8, 9, 10, 11, 12, 0].getD oi 0) vs [0, 1, 2, 3, 4, 5, 6, 7] act0.tmps, defers := act0.defers } ∧ ∃ (W1 : World) (A : Option Addr) (cp : Nat), W = W1.setCell ⟨w.heap.size, 4, none⟩ (.slice A (f.claims.length + 1) cp) ∧ Below v1.heap.size v1 W1 ∧ W1.ownsRow v1.heap.size 59 3 (.slice A (f.claims.length + 1) cp) (f.claims.length + 1) ((List.range (f.claims.length * 3)).map (claimsF f.claims) ++ (List.range (1 * 3)).map (fun j => ([.int .i64 c.lot, .int .i64 c.against, .int .i64 c.day] : List Value).getD j undef))) ?reg ?imp
  case reg =>
    have hST : Stab v1.heap.size (fun oi v W => match oi with | 0 => ∃ A cp, v = .slice A 0 cp ∧ W.ownsRow v1.heap.size 59 3 (.slice A 0 cp) 0 ([]) | 1 => v = .pointer (some ⟨w.heap.size, 4, none⟩) | 2 => v = .slice fa.A5 f.claims.length fa.c5 | 3 => ∃ A cp, v = .slice A f.claims.length cp ∧ W.ownsRow v1.heap.size 59 3 (.slice A f.claims.length cp) f.claims.length ((List.range (f.claims.length * 3)).map (claimsF f.claims)) | 4 => v = .agg #[.int .i64 c.lot, .int .i64 c.against, .int .i64 c.day] | 5 => ∃ A cp, v = .slice A 1 cp ∧ W.ownsRow v1.heap.size 59 3 (.slice A 1 cp) 1 ([.int .i64 c.lot, .int .i64 c.against, .int .i64 c.day]) | 6 => ∃ A cp, v = .slice A (f.claims.length + 1) cp ∧ W.ownsRow v1.heap.size 59 3 (.slice A (f.claims.length + 1) cp) (f.claims.length + 1) ((List.range (f.claims.length * 3)).map (claimsF f.claims) ++ (List.range (1 * 3)).map (fun j => ([.int .i64 c.lot, .int .i64 c.against, .int .i64 c.day] : List Value).getD j undef)) | _ => True) (fun oi v b => match oi with | 0 => v.ownBlock = some b | 3 => v.ownBlock = some b | 5 => v.ownBlock = some b | 6 => v.ownBlock = some b | _ => False) := by
      intro oi v W W' h hbs hz hk
      match oi, h, hk with
      | 0, h, hk => obtain ⟨A, cp, rfl, h2⟩ := h; exact ⟨A, cp, rfl, own_stab h2 (fun b hb e => hk b hb (.inr e))⟩
      | 1, h, hk => exact h
      | 2, h, hk => exact h
      | 3, h, hk => obtain ⟨A, cp, rfl, h2⟩ := h; exact ⟨A, cp, rfl, own_stab h2 (fun b hb e => hk b hb (.inr e))⟩
      | 4, h, hk => exact h
      | 5, h, hk => obtain ⟨A, cp, rfl, h2⟩ := h; exact ⟨A, cp, rfl, own_stab h2 (fun b hb e => hk b hb (.inr e))⟩
      | 6, h, hk => obtain ⟨A, cp, rfl, h2⟩ := h; exact ⟨A, cp, rfl, own_stab h2 (fun b hb e => hk b hb (.inr e))⟩
      | oi + 7, h, hk => exact trivial
    refine wp_region_inv (dst := fun oi => [5, 6, 7, 8, 9, 10, 11, 12, 0].getD oi 0) (mono := fun oi => decide (oi < 7)) (pre := fun oi => decide (oi < 7)) (G := Loose 9 v1.heap.size (fun oi => match oi with | 0 => 3 | 3 => 6 | _ => 9) (fun oi v W => match oi with | 0 => ∃ A cp, v = .slice A 0 cp ∧ W.ownsRow v1.heap.size 59 3 (.slice A 0 cp) 0 ([]) | 1 => v = .pointer (some ⟨w.heap.size, 4, none⟩) | 2 => v = .slice fa.A5 f.claims.length fa.c5 | 3 => ∃ A cp, v = .slice A f.claims.length cp ∧ W.ownsRow v1.heap.size 59 3 (.slice A f.claims.length cp) f.claims.length ((List.range (f.claims.length * 3)).map (claimsF f.claims)) | 4 => v = .agg #[.int .i64 c.lot, .int .i64 c.against, .int .i64 c.day] | 5 => ∃ A cp, v = .slice A 1 cp ∧ W.ownsRow v1.heap.size 59 3 (.slice A 1 cp) 1 ([.int .i64 c.lot, .int .i64 c.against, .int .i64 c.day]) | 6 => ∃ A cp, v = .slice A (f.claims.length + 1) cp ∧ W.ownsRow v1.heap.size 59 3 (.slice A (f.claims.length + 1) cp) (f.claims.length + 1) ((List.range (f.claims.length * 3)).map (claimsF f.claims) ++ (List.range (1 * 3)).map (fun j => ([.int .i64 c.lot, .int .i64 c.against, .int .i64 c.day] : List Value).getD j undef)) | _ => True) (fun oi v b => match oi with | 0 => v.ownBlock = some b | 3 => v.ownBlock = some b | 5 => v.ownBlock = some b | 6 => v.ownBlock = some b | _ => False)) (by kernel_rfl) (by kernel_rfl) (Loose.start (Nat.le_refl _)) ?hstep ?hend
    case hstep =>
      intro oi hoi hom listed vs a W hU hsz hG hcl hl haft K hK
      have hb := ((Below.refl v1.heap.size v1).drew).trans hU.below
      have hF := Loose.stepF hU hG hST hoi hK
      match oi, hoi, hom with
      | 0, hoi, hom =>
        refine wpOp_value (v := .slice (some ⟨W.heap.size, 0, none⟩) 0 0) (W' := (W.alloc (.cells #[] 59))) rfl rfl ?_ (hF _ _ ((Below.refl _ _).alloc (Nat.le_refl _) _) (own_lit hG.base #[] 0 rfl (by simp [maxLen])) (fun b h => by rw [← own_new h]; exact ⟨by simp, .inl (Nat.le_refl _)⟩))
        go_simp
      | 1, hoi, hom =>
        have z2 : a.tmps[2]?.getD undef = .pointer (some ⟨w.heap.size, 0, none⟩) := hU.same 2 (by decide)
        refine wpOp_value (v := .pointer (some ⟨w.heap.size, 4, none⟩)) (W' := W) rfl rfl ?_ (hF _ _ (Below.refl _ _) rfl (fun _ h => False.elim h))
        go_simp
      | 2, hoi, hom =>
        have l1 := haft _ rfl { on := 1, ground := .data } (by simp) rfl
        have p1 := hG.pv 1 (by decide) (live_end hsz rfl l1)
        have s1 : a.tmps[6]?.getD undef = vs 1 := hU.slot 1 (by decide) l1
        have hv1 : vs 1 = .pointer (some ⟨w.heap.size, 4, none⟩) := p1
        rw [hv1] at s1
        have y0 := (hb.cell (p := ⟨w.heap.size, 4, none⟩) (z0)).trans (pb4)
        refine wpOp_value (v := .slice fa.A5 f.claims.length fa.c5) (W' := W) rfl rfl ?_ (hF _ _ (Below.refl _ _) rfl (fun _ h => False.elim h))
        go_simp
      | 3, hoi, hom =>
        have l0 := haft _ rfl { on := 0, ground := .data } (by simp) rfl
        have p0 := hG.pv 0 (by decide) (⟨l0, hl⟩)
        have s0 : a.tmps[5]?.getD undef = vs 0 := hU.slot 0 (by decide) l0
        obtain ⟨PA0, kp0, hv0, hi0⟩ := p0
        rw [hv0] at s0
        have l2 := haft _ rfl { on := 2, ground := .data } (by simp) rfl
        have p2 := hG.pv 2 (by decide) (live_end hsz rfl l2)
        have s2 : a.tmps[7]?.getD undef = vs 2 := hU.slot 2 (by decide) l2
        have hv2 : vs 2 = .slice fa.A5 f.claims.length fa.c5 := p2
        rw [hv2] at s2
        have hA := Loose.stepA (p := 0) hU hG rfl hST hoi hK (by decide) (by decide) rfl ⟨l0, hl⟩ (fun b h => h) (by rw [hv0]; exact hi0)
        obtain ⟨v', W', hrun, hown', hg, hblk⟩ := run_app_row (P := Tryz.prog) W v1.heap.size 26 26 59 i4 (.agg #[.int .i64 0, .int .i64 0, .int .i64 0]) 3 24 Tryz.underlying26 hI4 hz40 hz41 hz42 rfl (by decide) hi0 (HSE.out.below hb) (fun j h => claims_one _ j) (by simp only [maxLen]; omega) (by omega) hG.base
        rw [Nat.zero_add, List.nil_append] at hown'
        exact wpOp_append (s := 5) (x := 7) (v' := v') (W' := W') rfl rfl rfl s0 s2 hrun (hA _ _ _ _ (by rw [hv0]; exact hg) hown' (by rw [hv0]; exact hblk) (own_ex hown') (fun b h => h))
      | 4, hoi, hom =>
        have z3 : a.tmps[3]?.getD undef = .pointer (some ⟨w.heap.size + 1, 0, none⟩) := hU.same 3 (by decide)
        have y0 := (hb.cell (p := ⟨w.heap.size + 1, 0, none⟩) (z1)).trans (pl0)
        have y1 := (hb.cell (p := ⟨w.heap.size + 1, 1, none⟩) (z1)).trans (pl1)
        have y2 := (hb.cell (p := ⟨w.heap.size + 1, 2, none⟩) (z1)).trans (pl2)
        refine wpOp_value (v := .agg #[.int .i64 c.lot, .int .i64 c.against, .int .i64 c.day]) (W' := W) rfl rfl ?_ (hF _ _ (Below.refl _ _) rfl (fun _ h => False.elim h))
        go_simp
      | 5, hoi, hom =>
        have l4 := haft _ rfl { on := 4, ground := .data } (by simp) rfl
        have p4 := hG.pv 4 (by decide) (live_end hsz rfl l4)
        have s4 : a.tmps[9]?.getD undef = vs 4 := hU.slot 4 (by decide) l4
        have hv4 : vs 4 = .agg #[.int .i64 c.lot, .int .i64 c.against, .int .i64 c.day] := p4
        rw [hv4] at s4
        refine wpOp_value (v := .slice (some ⟨W.heap.size, 0, none⟩) 1 1) (W' := (W.alloc (.cells #[.int .i64 c.lot, .int .i64 c.against, .int .i64 c.day] 59))) rfl rfl ?_ (hF _ _ ((Below.refl _ _).alloc (Nat.le_refl _) _) (own_lit hG.base #[.int .i64 c.lot, .int .i64 c.against, .int .i64 c.day] 1 rfl (by simp [maxLen])) (fun b h => by rw [← own_new h]; exact ⟨by simp, .inl (Nat.le_refl _)⟩))
        go_simp
      | 6, hoi, hom =>
        have l3 := haft _ rfl { on := 3, ground := .data } (by simp) rfl
        have p3 := hG.pv 3 (by decide) (⟨l3, hl⟩)
        have s3 : a.tmps[8]?.getD undef = vs 3 := hU.slot 3 (by decide) l3
        obtain ⟨PA3, kp3, hv3, hi3⟩ := p3
        rw [hv3] at s3
        have l5 := haft _ rfl { on := 5, ground := .data } (by simp) rfl
        have p5 := hG.pv 5 (by decide) (live_end hsz rfl l5)
        have s5 : a.tmps[10]?.getD undef = vs 5 := hU.slot 5 (by decide) l5
        obtain ⟨PA5, kp5, hv5, hi5⟩ := p5
        rw [hv5] at s5
        obtain ⟨_, _, e5, _, _, hr5⟩ := row_own hi5
        obtain ⟨rfl, rfl⟩ : _ = PA5 ∧ _ = kp5 := by simp only [Value.slice.injEq, true_and] at e5; exact ⟨e5.1.symm, e5.2.symm⟩
        have hA := Loose.stepA (p := 3) hU hG rfl hST hoi hK (by decide) (by decide) rfl ⟨l3, hl⟩ (fun b h => h) (by rw [hv3]; exact hi3)
        obtain ⟨v', W', hrun, hown', hg, hblk⟩ := run_app_row (P := Tryz.prog) W v1.heap.size 26 26 59 i4 (.agg #[.int .i64 0, .int .i64 0, .int .i64 0]) 3 24 Tryz.underlying26 hI4 hz40 hz41 hz42 rfl (by decide) hi3 hr5 (one3c _ _ _) (by simp only [maxLen]; omega) (by omega) hG.base
        exact wpOp_append (s := 8) (x := 10) (v' := v') (W' := W') rfl rfl rfl s3 s5 hrun (hA _ _ _ _ (by rw [hv3]; exact hg) hown' (by rw [hv3]; exact hblk) (own_ex hown') (fun b h => h))
      | oi + 7, hoi, hom => exact absurd (of_decide_eq_true hom) (by omega)
    case hend =>
      intro listed vs a W hG0 hG hpre
      have hb := ((Below.refl v1.heap.size v1).drew).trans hG0.below
      have hact := hG0.act
      have hT := hG0.lst hpre 0 #[true, true, true, true, true, true, true, false, false] rfl (by kernel_rfl) (hpre 0 (by decide) (by decide))
      rw [hG0.ix hT (l := [0, 1, 2, 3, 4, 5, 6]) (by kernel_rfl)] at hact
      rw [hG0.lo hT (k := 2) (by kernel_rfl)]
      have p6 := hG.pv 6 (by decide) (live_end hG.size rfl (hpre 6 (by decide) (by decide)))
      clear hpre hG hST
      obtain rfl : a = _ := hact
      subst hT
      obtain ⟨A, cp, hv6, hi6⟩ := p6
      have y4 := (hb.cell (p := ⟨w.heap.size, 4, none⟩) z0).trans pb4
      have f4 := (hb.frozen (p := ⟨w.heap.size, 4, none⟩) z0).trans fb4
      simp only [setAll, List.setIfInBounds_toArray, List.set_cons_succ, List.set_cons_zero, List.getD_cons_succ, List.getD_cons_zero]
      refine wpAny_all (rs := [7]) (by kernel_rfl) (by simp) ?_
      intro i2 hi2
      obtain rfl : i2 = 7 := by simpa using hi2
      refine wpOp_value (v := .pointer (some ⟨w.heap.size, 4, none⟩)) (W' := W) rfl rfl ?_ ?_
      · go_simp
      refine wpAny_all (rs := [8]) (by kernel_rfl) (by simp) ?_
      intro i2 hi2
      obtain rfl : i2 = 8 := by simpa using hi2
      refine wpOp_skip (W' := W.setCell ⟨w.heap.size, 4, none⟩ (.slice A (f.claims.length + 1) cp)) rfl rfl ?_ ?_
      · rw [hv6]; go_simp
      refine wpAny_done (by kernel_rfl) ?_ _
      exact ⟨rfl, fun q => if q = 7 then .pointer (some ⟨w.heap.size, 4, none⟩) else vs q, rfl, W, A, cp, rfl, hb, hi6⟩
  case imp =>
  rintro a9 w2 ⟨vs, rfl, W1, A, cp, rfl, hb1, hown⟩
  simp only [setAll, List.setIfInBounds_toArray, List.set_cons_succ, List.set_cons_zero, List.getD_cons_succ, List.getD_cons_zero]
  rw [claims_snoc] at hown
  have b0 := (Q1.out.below hb1 z0).store 4 (.slice A (f.claims.length + 1) cp)
  have b3 := (Q3.out.below hb1 z2).else_ (p := ⟨w.heap.size, 4, none⟩) (by simp; omega) (.slice A (f.claims.length + 1) cp)
  have hk1 : Keep (fun q => q = w.heap.size) W1 (W1.setCell ⟨w.heap.size, 4, none⟩ (.slice A (f.claims.length + 1) cp)) := Keep.setCell _ _ _ _ rfl
  have ho := own_kept hown hk1 (fun b hb hS => by omega)
  have hb2 : Below w.heap.size w (W1.setCell ⟨w.heap.size, 4, none⟩ (.slice A (f.claims.length + 1) cp)) := (HA1.out.trans (hb1.mono (Nat.le_of_lt z0))).setCell (p := ⟨w.heap.size, 4, none⟩) (Nat.le_refl _) (.slice A (f.claims.length + 1) cp)
  have b2 : Blk (W1.setCell ⟨w.heap.size, 4, none⟩ (.slice A (f.claims.length + 1) cp)) w.heap.size 28 #[.slice fa.A1 f.parties.length fa.c1, .slice fa.A2 f.untils.length fa.c2, .slice fa.A3 f.lots.length fa.c3, .slice fa.A4 f.papers.length fa.c4, .slice A (f.claims.length + 1) cp] := b0
  have HO := hide ho
  have HB2 := hide hb2
  have Q3 := hide b3
  have Q1 := hide b2
  clear ho hk1 hown hb1 b0 b2 b3 hb2 HSE pb4 fb4 pl0 pl1 pl2 HA1
  generalize W1.setCell ⟨w.heap.size, 4, none⟩ (.slice A (f.claims.length + 1) cp) = v2 at *
  have hzz := Q3.out.lt
  have p0 := Q1.out.at_ 0
  have c0 := Q3.out.at_ 0
  have f0 := Q3.out.free 0
  have p1 := Q1.out.at_ 1
  have c1 := Q3.out.at_ 1
  have f1 := Q3.out.free 1
  have p2 := Q1.out.at_ 2
  have c2 := Q3.out.at_ 2
  have f2 := Q3.out.free 2
  have p3 := Q1.out.at_ 3
  have c3 := Q3.out.at_ 3
  have f3 := Q3.out.free 3
  have p4 := Q1.out.at_ 4
  have c4 := Q3.out.at_ 4
  have f4 := Q3.out.free 4
  simp only [List.getElem?_toArray, List.getElem?_cons_zero, List.getElem?_cons_succ] at p0 p1 p2 p3 p4 c0 c1 c2 c3 c4
  go_wp2_with fail
  have hkF : Keep (fun q => q = w.heap.size + 1 + 1) v2 (((((v2.setCell ⟨w.heap.size + 1 + 1, 0, none⟩ (.slice fa.A1 f.parties.length fa.c1)).setCell ⟨w.heap.size + 1 + 1, 1, none⟩ (.slice fa.A2 f.untils.length fa.c2)).setCell ⟨w.heap.size + 1 + 1, 2, none⟩ (.slice fa.A3 f.lots.length fa.c3)).setCell ⟨w.heap.size + 1 + 1, 3, none⟩ (.slice fa.A4 f.papers.length fa.c4)).setCell ⟨w.heap.size + 1 + 1, 4, none⟩ (.slice A (f.claims.length + 1) cp)) := keep5 v2 (w.heap.size + 1 + 1) _ _ _ _ _
  have b0 : Blk (((((v2.setCell ⟨w.heap.size + 1 + 1, 0, none⟩ (.slice fa.A1 f.parties.length fa.c1)).setCell ⟨w.heap.size + 1 + 1, 1, none⟩ (.slice fa.A2 f.untils.length fa.c2)).setCell ⟨w.heap.size + 1 + 1, 2, none⟩ (.slice fa.A3 f.lots.length fa.c3)).setCell ⟨w.heap.size + 1 + 1, 3, none⟩ (.slice fa.A4 f.papers.length fa.c4)).setCell ⟨w.heap.size + 1 + 1, 4, none⟩ (.slice A (f.claims.length + 1) cp)) (w.heap.size + 1 + 1) 28 #[.slice fa.A1 f.parties.length fa.c1, .slice fa.A2 f.untils.length fa.c2, .slice fa.A3 f.lots.length fa.c3, .slice fa.A4 f.papers.length fa.c4, .slice A (f.claims.length + 1) cp] := ((((Q3.out.store 0 _).store 1 _).store 2 _).store 3 _).store 4 _
  have hBF := HB2.out.trans (hkF.below (B := w.heap.size) (fun k h => by omega) HB2.out.size)
  have hsz1 := HSZ.out
  obtain ⟨m1, m2, hr⟩ := row_fun (f := claimsF (f.claims ++ [c])) (m := (f.claims.length + 1)) (own_kept HO.out hkF (fun b hb hS => by omega))
  have hvv := H0.out.next hBF
  have hFF : FileV (((((v2.setCell ⟨w.heap.size + 1 + 1, 0, none⟩ (.slice fa.A1 f.parties.length fa.c1)).setCell ⟨w.heap.size + 1 + 1, 1, none⟩ (.slice fa.A2 f.untils.length fa.c2)).setCell ⟨w.heap.size + 1 + 1, 2, none⟩ (.slice fa.A3 f.lots.length fa.c3)).setCell ⟨w.heap.size + 1 + 1, 3, none⟩ (.slice fa.A4 f.papers.length fa.c4)).setCell ⟨w.heap.size + 1 + 1, 4, none⟩ (.slice A (f.claims.length + 1) cp)) (((((v2.setCell ⟨w.heap.size + 1 + 1, 0, none⟩ (.slice fa.A1 f.parties.length fa.c1)).setCell ⟨w.heap.size + 1 + 1, 1, none⟩ (.slice fa.A2 f.untils.length fa.c2)).setCell ⟨w.heap.size + 1 + 1, 2, none⟩ (.slice fa.A3 f.lots.length fa.c3)).setCell ⟨w.heap.size + 1 + 1, 3, none⟩ (.slice fa.A4 f.papers.length fa.c4)).setCell ⟨w.heap.size + 1 + 1, 4, none⟩ (.slice A (f.claims.length + 1) cp)).heap.size (moreF f c) ⟨fa.A1, fa.A2, fa.A3, fa.A4, A, fa.c1, fa.c2, fa.c3, fa.c4, cp, fa.R, fa.K⟩ := ⟨hvv.parties, hvv.untils, hvv.lots, hvv.papers, by simpa [moreF] using hr, hvv.routes, hvv.small, hvv.fit, hvv.m1, hvv.m2, hvv.m3, hvv.m4, by simpa [moreF] using (⟨m1, m2⟩ : _ ∧ _)⟩
  clear hr hvv m1 m2
  generalize (((((v2.setCell ⟨w.heap.size + 1 + 1, 0, none⟩ (.slice fa.A1 f.parties.length fa.c1)).setCell ⟨w.heap.size + 1 + 1, 1, none⟩ (.slice fa.A2 f.untils.length fa.c2)).setCell ⟨w.heap.size + 1 + 1, 2, none⟩ (.slice fa.A3 f.lots.length fa.c3)).setCell ⟨w.heap.size + 1 + 1, 3, none⟩ (.slice fa.A4 f.papers.length fa.c4)).setCell ⟨w.heap.size + 1 + 1, 4, none⟩ (.slice A (f.claims.length + 1) cp)) = v3 at *
  have g0 := b0.at_ 0
  have g1 := b0.at_ 1
  have g2 := b0.at_ 2
  have g3 := b0.at_ 3
  have g4 := b0.at_ 4
  simp only [List.getElem?_toArray, List.getElem?_cons_succ, List.getElem?_cons_zero] at g0 g1 g2 g3 g4
  refine bodyPost_ret (v := fileVal (moreF f c) ⟨fa.A1, fa.A2, fa.A3, fa.A4, A, fa.c1, fa.c2, fa.c3, fa.c4, cp, fa.R, fa.K⟩) ?_ rfl ⟨_, rfl, hFF, hBF⟩
  simp [results, Tryz.results42, go_sem, g0, g1, g2, g3, g4, moreF]
end Go.Proofs.YtllmahcanipcpaaGreat
