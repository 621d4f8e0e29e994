/- The contract of the reference's Pays. -/
import Derived.Test.YtllmahcanipcpaaGreatSJ
import Derived.OwnWalkIn
import Derived.TacticsInMore
import Derived.Deep.DeepCutAuto
set_option linter.unusedVariables false
set_option linter.unusedSimpArgs false
namespace Go.Proofs.YtllmahcanipcpaaGreat
open Go.RowKit
attribute [local go_sem ↓] Go.wp_at_zero Go.wp_at_succ
attribute [local go_sem] Oper.semAt_some

def payR (f : File) (n : Int) : Int × Int := if errK f (indexM f n f.claims.length) = 0 then (toldM f n.toNat (truthsM f []), 0) else (0, errK f (indexM f n f.claims.length))
set_option maxHeartbeats 4000000 in
set_option maxRecDepth 100000 in
theorem pays7_any {f : File} {fa : FA} {w : World} (h : FileV w w.heap.size f fa) (l : Int) :
    Calls Tryz.prog 12 #[fileVal f fa, .int .i64 l] w fun e w' => e = .returned (.tuple #[.int .i64 (payR f l).1, .int .i64 (payR f l).2]) ∧ Below w.heap.size w w' := by
  have HBX0 := hide (BoxF.made h)
  have HB0 : Hid (Below w.heap.size w (w.alloc (.cells (fileCells f fa) 28))) := hide ((Below.refl _ _).alloc (Nat.le_refl _) _)
  have hm5 := h.m5
  unfold maxLen at hm5
  have HLB := hide (show (0 : Int) ≤ (f.claims.length : Nat) ∧ ((f.claims.length : Nat) : Int) ≤ 9223372036854775807 by omega)
  clear h
  go_enter Tryz.func12, Tryz.ntmps12
  go_upto_region 1 with (fail)
  generalize (w.alloc (.cells (fileCells f fa) 28)) = w0 at *
  obtain ⟨hz, e1, e2, e3, e4, e5⟩ := HBX0.out.cells
  refine wp_region_rel (dst := fun oi => [9, 10, 11, 12, 13, 14, 15, 16, 8, 17, 18, 6, 7].getD oi 0) (mono := fun oi => decide (oi < 13)) (pre := fun oi => decide (oi < 13)) (R := LKeep (fun _ => False) (fun _ => True))
    (Pv := fun oi v W => match oi with
      | 0 => v = fileVal f fa
      | 1 => v = fileVal f fa
      | 2 => v = .int .i64 l
      | 3 => v = .pointer (some ⟨w.heap.size, 4, none⟩)
      | 4 => v = .slice fa.A5 f.claims.length fa.c5
      | 5 => v = .int .i64 (f.claims.length : Nat)
      | 6 => v = .int .i64 (indexM f l (f.claims.length : Nat))
      | 7 => ∃ gl cp, v = .tuple #[.slice gl (lstK f (indexM f l f.claims.length)).length cp, .int .i64 (errK f (indexM f l f.claims.length))] ∧ ListsS W W.heap.size gl (lstK f (indexM f l f.claims.length)).length cp (lstK f (indexM f l f.claims.length))
      | 8 => ∃ gl cp, v = .tuple #[.slice gl (lstK f (indexM f l f.claims.length)).length cp, .int .i64 (errK f (indexM f l f.claims.length))] ∧ ListsS W W.heap.size gl (lstK f (indexM f l f.claims.length)).length cp (lstK f (indexM f l f.claims.length))
      | 9 => ∃ gl cp, v = .slice gl (lstK f (indexM f l f.claims.length)).length cp ∧ ListsS W W.heap.size gl (lstK f (indexM f l f.claims.length)).length cp (lstK f (indexM f l f.claims.length))
      | 10 => v = .int .i64 (errK f (indexM f l f.claims.length))
      | 11 => ∃ gl cp, v = .slice gl (lstK f (indexM f l f.claims.length)).length cp ∧ ListsS W W.heap.size gl (lstK f (indexM f l f.claims.length)).length cp (lstK f (indexM f l f.claims.length))
      | 12 => v = .int .i64 (errK f (indexM f l f.claims.length))
      | _ => True) (by kernel_rfl) (by kernel_rfl) (LKeep.refl _ _) (fun _ _ _ h h' => h.trans h') ?hst ?hstep ?hend
  case hst =>
    intro oi v W W' h hk
    match oi, h with
    | 0, h => exact h
    | 1, h => exact h
    | 2, h => exact h
    | 3, h => exact h
    | 4, h => exact h
    | 5, h => exact h
    | 6, h => exact h
    | 7, h => obtain ⟨gl, cp, h1, h2⟩ := h; exact ⟨gl, cp, h1, h2.next (hk.1.below (B := W.heap.size) (fun k h => h.elim) (Nat.le_refl _))⟩
    | 8, h => obtain ⟨gl, cp, h1, h2⟩ := h; exact ⟨gl, cp, h1, h2.next (hk.1.below (B := W.heap.size) (fun k h => h.elim) (Nat.le_refl _))⟩
    | 9, h => obtain ⟨gl, cp, h1, h2⟩ := h; exact ⟨gl, cp, h1, h2.next (hk.1.below (B := W.heap.size) (fun k h => h.elim) (Nat.le_refl _))⟩
    | 10, h => exact h
    | 11, h => obtain ⟨gl, cp, h1, h2⟩ := h; exact ⟨gl, cp, h1, h2.next (hk.1.below (B := W.heap.size) (fun k h => h.elim) (Nat.le_refl _))⟩
    | 12, h => exact h
    | oi + 13, h => exact trivial
  case hstep =>
    intro oi hoi hom listed vs ao W hU hk0 hpv haft Ko hK
    have hkk := (LKeep.drew (fun _ => False) (M := fun _ => True) w0 (fun h => h)).trans hk0
    have hk := hkk.1
    have hkm := hkk.2
    clear hkk
    match oi, hoi, hom with
    | 0, hoi, hom =>
      have z2 : ao.tmps[2]?.getD undef = .pointer (some ⟨w.heap.size, 0, none⟩) := hU.same 2 (by decide)
      have y0 := (hk.cell (b := w.heap.size) (o := 0) (hz) (fun h => h)).trans (e1)
      have y1 := (hk.cell (b := w.heap.size) (o := 1) (hz) (fun h => h)).trans (e2)
      have y2 := (hk.cell (b := w.heap.size) (o := 2) (hz) (fun h => h)).trans (e3)
      have y3 := (hk.cell (b := w.heap.size) (o := 3) (hz) (fun h => h)).trans (e4)
      have y4 := (hk.cell (b := w.heap.size) (o := 4) (hz) (fun h => h)).trans (e5)
      refine wpOp_value (v := fileVal f fa) (W' := W) rfl rfl ?_ (hK _ _ (LKeep.refl _ _ _) rfl)
      go_simp
    | 1, hoi, hom =>
      have z2 : ao.tmps[2]?.getD undef = .pointer (some ⟨w.heap.size, 0, none⟩) := hU.same 2 (by decide)
      have y0 := (hk.cell (b := w.heap.size) (o := 0) (hz) (fun h => h)).trans (e1)
      have y1 := (hk.cell (b := w.heap.size) (o := 1) (hz) (fun h => h)).trans (e2)
      have y2 := (hk.cell (b := w.heap.size) (o := 2) (hz) (fun h => h)).trans (e3)
      have y3 := (hk.cell (b := w.heap.size) (o := 3) (hz) (fun h => h)).trans (e4)
      have y4 := (hk.cell (b := w.heap.size) (o := 4) (hz) (fun h => h)).trans (e5)
      refine wpOp_value (v := fileVal f fa) (W' := W) rfl rfl ?_ (hK _ _ (LKeep.refl _ _ _) rfl)
      go_simp
    | 2, hoi, hom =>
      have z1 : ao.tmps[1]?.getD undef = .int .i64 l := hU.same 1 (by decide)
      refine wpOp_value (v := .int .i64 l) (W' := W) rfl rfl ?_ (hK _ _ (LKeep.refl _ _ _) rfl)
      go_simp
    | 3, hoi, hom =>
      have z2 : ao.tmps[2]?.getD undef = .pointer (some ⟨w.heap.size, 0, none⟩) := hU.same 2 (by decide)
      refine wpOp_value (v := .pointer (some ⟨w.heap.size, 4, none⟩)) (W' := W) rfl rfl ?_ (hK _ _ (LKeep.refl _ _ _) rfl)
      go_simp
    | 4, hoi, hom =>
      have l3 := haft _ rfl { on := 3, ground := .data } (by simp) rfl
      have hv3 : vs 3 = .pointer (some ⟨w.heap.size, 4, none⟩) := hpv 3 l3
      have s3 : ao.tmps[12]?.getD undef = vs 3 := hU.slot 3 (by decide) l3
      rw [hv3] at s3
      have y0 := (hk.cell (b := w.heap.size) (o := 4) (hz) (fun h => h)).trans (e5)
      refine wpOp_value (v := .slice fa.A5 f.claims.length fa.c5) (W' := W) rfl rfl ?_ (hK _ _ (LKeep.refl _ _ _) rfl)
      go_simp
    | 5, hoi, hom =>
      have l4 := haft _ rfl { on := 4, ground := .data } (by simp) rfl
      have hv4 : vs 4 = .slice fa.A5 f.claims.length fa.c5 := hpv 4 l4
      have s4 : ao.tmps[13]?.getD undef = vs 4 := hU.slot 4 (by decide) l4
      rw [hv4] at s4
      refine wpOp_value (v := .int .i64 (f.claims.length : Nat)) (W' := W) rfl rfl ?_ (hK _ _ (LKeep.refl _ _ _) rfl)
      go_simp
    | 6, hoi, hom =>
      have l1 := haft _ rfl { on := 1, ground := .data } (by simp) rfl
      have hv1 : vs 1 = fileVal f fa := hpv 1 l1
      have s1 : ao.tmps[10]?.getD undef = vs 1 := hU.slot 1 (by decide) l1
      rw [hv1] at s1
      have l2 := haft _ rfl { on := 2, ground := .data } (by simp) rfl
      have hv2 : vs 2 = .int .i64 l := hpv 2 l2
      have s2 : ao.tmps[11]?.getD undef = vs 2 := hU.slot 2 (by decide) l2
      rw [hv2] at s2
      have l5 := haft _ rfl { on := 5, ground := .data } (by simp) rfl
      have hv5 : vs 5 = .int .i64 (f.claims.length : Nat) := hpv 5 l5
      have s5 : ao.tmps[14]?.getD undef = vs 5 := hU.slot 5 (by decide) l5
      rw [hv5] at s5
      refine wpOp_enter (f := 48) (args := #[fileVal f fa, .int .i64 l, .int .i64 ((f.claims.length : Nat))]) (W' := W) rfl rfl ?_ ((index7_any (HBX0.out.v.next (hk.below (B := w0.heap.size) (fun k h => h.elim) (Nat.le_refl _))) l (f.claims.length : Nat) HLB.out).mono (fun e w'' h => ?_))
      · go_simp
      · obtain ⟨he, hbw⟩ := h
        exact ⟨_, he, hK _ _ (LKeep.below hbw (fun h => h)) rfl⟩
    | 7, hoi, hom =>
      have l0 := haft _ rfl { on := 0, ground := .data } (by simp) rfl
      have hv0 : vs 0 = fileVal f fa := hpv 0 l0
      have s0 : ao.tmps[9]?.getD undef = vs 0 := hU.slot 0 (by decide) l0
      rw [hv0] at s0
      have l6 := haft _ rfl { on := 6, ground := .data } (by simp) rfl
      have hv6 : vs 6 = .int .i64 (indexM f l (f.claims.length : Nat)) := hpv 6 l6
      have s6 : ao.tmps[15]?.getD undef = vs 6 := hU.slot 6 (by decide) l6
      rw [hv6] at s6
      refine wpOp_enter (f := 47) (args := #[fileVal f fa, .int .i64 (indexM f l f.claims.length)]) (W' := W) rfl rfl ?_ ((known7_any (HBX0.out.v.next (hk.below (B := w0.heap.size) (fun k h => h.elim) (Nat.le_refl _))) _ index_valid).mono (fun e w'' h => ?_))
      · go_simp
      · obtain ⟨gl7, cp7, he, hi7, hbw⟩ := h
        exact ⟨_, he, hK _ _ (LKeep.below hbw (fun h => h)) ⟨_, _, rfl, hi7⟩⟩
    | 8, hoi, hom =>
      have l7 := haft _ rfl { on := 7, ground := .data } (by simp) rfl
      obtain ⟨gl7, cp7, hv7, hi7⟩ := hpv 7 l7
      have s7 : ao.tmps[16]?.getD undef = vs 7 := hU.slot 7 (by decide) l7
      rw [hv7] at s7
      refine wpOp_value (v := .tuple #[.slice gl7 (lstK f (indexM f l f.claims.length)).length cp7, .int .i64 (errK f (indexM f l f.claims.length))]) (W' := W) rfl rfl ?_ (hK _ _ (LKeep.refl _ _ _) ⟨_, _, rfl, hi7⟩)
      go_simp
    | 9, hoi, hom =>
      have l8 := haft _ rfl { on := 8, ground := .data } (by simp) rfl
      obtain ⟨gl8, cp8, hv8, hi8⟩ := hpv 8 l8
      have s8 : ao.tmps[8]?.getD undef = vs 8 := hU.slot 8 (by decide) l8
      rw [hv8] at s8
      refine wpOp_value (v := .slice gl8 (lstK f (indexM f l f.claims.length)).length cp8) (W' := W) rfl rfl ?_ (hK _ _ (LKeep.refl _ _ _) ⟨_, _, rfl, hi8⟩)
      go_simp
    | 10, hoi, hom =>
      have l8 := haft _ rfl { on := 8, ground := .data } (by simp) rfl
      obtain ⟨gl8, cp8, hv8, hi8⟩ := hpv 8 l8
      have s8 : ao.tmps[8]?.getD undef = vs 8 := hU.slot 8 (by decide) l8
      rw [hv8] at s8
      refine wpOp_value (v := .int .i64 (errK f (indexM f l f.claims.length))) (W' := W) rfl rfl ?_ (hK _ _ (LKeep.refl _ _ _) rfl)
      go_simp
    | 11, hoi, hom =>
      have l9 := haft _ rfl { on := 9, ground := .data } (by simp) rfl
      obtain ⟨gl9, cp9, hv9, hi9⟩ := hpv 9 l9
      have s9 : ao.tmps[17]?.getD undef = vs 9 := hU.slot 9 (by decide) l9
      rw [hv9] at s9
      refine wpOp_value (v := .slice gl9 (lstK f (indexM f l f.claims.length)).length cp9) (W' := W) rfl rfl ?_ (hK _ _ (LKeep.refl _ _ _) ⟨_, _, rfl, hi9⟩)
      go_simp
    | 12, hoi, hom =>
      have l10 := haft _ rfl { on := 10, ground := .data } (by simp) rfl
      have hv10 : vs 10 = .int .i64 (errK f (indexM f l f.claims.length)) := hpv 10 l10
      have s10 : ao.tmps[18]?.getD undef = vs 10 := hU.slot 10 (by decide) l10
      rw [hv10] at s10
      refine wpOp_value (v := .int .i64 (errK f (indexM f l f.claims.length))) (W' := W) rfl rfl ?_ (hK _ _ (LKeep.refl _ _ _) rfl)
      go_simp
    | oi + 13, hoi, hom => exact absurd (of_decide_eq_true hom) (by omega)
  case hend =>
    intro listed vs ao W hG hk0 hpv hpre
    have hkk := (LKeep.drew (fun _ => False) (M := fun _ => True) w0 (fun h => h)).trans hk0
    have hk := hkk.1
    have hkm := hkk.2
    clear hkk
    have hact := hG.act
    have hT := hG.lst hpre 0 #[true, true, true, true, true, true, true, true, true, true, true, true, true] rfl (by kernel_rfl) (hpre 0 (by decide) (by decide))
    rw [hG.ix hT (l := [0, 1, 2, 3, 4, 5, 6, 7, 8, 9, 10, 11, 12]) (by kernel_rfl)] at hact
    rw [hG.lo hT (k := 0) (by kernel_rfl)]
    have hv0 : vs 0 = fileVal f fa := hpv 0 (hpre 0 (by decide) (by decide))
    have hv1 : vs 1 = fileVal f fa := hpv 1 (hpre 1 (by decide) (by decide))
    have hv2 : vs 2 = .int .i64 l := hpv 2 (hpre 2 (by decide) (by decide))
    have hv3 : vs 3 = .pointer (some ⟨w.heap.size, 4, none⟩) := hpv 3 (hpre 3 (by decide) (by decide))
    have hv4 : vs 4 = .slice fa.A5 f.claims.length fa.c5 := hpv 4 (hpre 4 (by decide) (by decide))
    have hv5 : vs 5 = .int .i64 (f.claims.length : Nat) := hpv 5 (hpre 5 (by decide) (by decide))
    have hv6 : vs 6 = .int .i64 (indexM f l (f.claims.length : Nat)) := hpv 6 (hpre 6 (by decide) (by decide))
    obtain ⟨gl7, cp7, hv7, hi7⟩ := hpv 7 (hpre 7 (by decide) (by decide))
    obtain ⟨gl8, cp8, hv8, hi8⟩ := hpv 8 (hpre 8 (by decide) (by decide))
    obtain ⟨gl9, cp9, hv9, hi9⟩ := hpv 9 (hpre 9 (by decide) (by decide))
    have hv10 : vs 10 = .int .i64 (errK f (indexM f l f.claims.length)) := hpv 10 (hpre 10 (by decide) (by decide))
    obtain ⟨gl11, cp11, hv11, hi11⟩ := hpv 11 (hpre 11 (by decide) (by decide))
    have hv12 : vs 12 = .int .i64 (errK f (indexM f l f.claims.length)) := hpv 12 (hpre 12 (by decide) (by decide))
    clear hpv hpre hG hk0
    obtain rfl : ao = _ := hact
    subst hT
    simp only [setAll, List.setIfInBounds_toArray, List.set_cons_succ, List.set_cons_zero, List.getD_cons_succ, List.getD_cons_zero]
    simp only [hv0, hv1, hv2, hv3, hv4, hv5, hv6, hv7, hv8, hv9, hv10, hv11, hv12]
    clear hv0 hv1 hv2 hv3 hv4 hv5 hv6 hv7 hv8 hv9 hv10 hv11 hv12
    refine wpAny_done (by kernel_rfl) ?_ _
    have hbW := hk.below (B := w0.heap.size) (fun k h => h.elim) (Nat.le_refl _)
    have HBXW := hide (HBX0.out.next hbW)
    have HBZ := hide (HB0.out.trans (hbW.mono HB0.out.size))
    have HLW := hide hi11
    clear hk hkm hbW hi7 hi8 hi9 hi11 HBX0 e1 e2 e3 e4 e5 hz
    have HX := hide (show payR f l = if errK f (indexM f l f.claims.length) = 0 then (toldM f l.toNat (truthsM f []), 0) else (0, errK f (indexM f l f.claims.length)) from rfl)
    have HEI := hide (fun (hh : indexM f l f.claims.length = 0) => (⟨index_valid hh, index_in hh⟩ : Valid f ∧ 0 ≤ l ∧ l < f.claims.length))
    have HEK := hide (fun (hh : errK f (indexM f l f.claims.length) = 0) => errK_zero hh)
    generalize hID : errK f (indexM f l f.claims.length) = er at *
    generalize lstK f (indexM f l f.claims.length) = T at *
    clear hID
    cases he : (er != 0) with
    | true =>
      have hne : ¬ er = 0 := by simpa using he
      have HY := hide (show payR f l = (0, er) by rw [HX.out, if_neg hne])
      clear hne
      go_wp2_with fail
      go_ret2
      rw [HY.out]
      exact ⟨rfl, HBZ.out⟩
    | false =>
      have hz' : er = 0 := by simpa using he
      have HY := hide (show payR f l = (toldM f l.toNat (truthsM f []), 0) by rw [HX.out, if_pos hz'])
      obtain ⟨hE0, hTM, hT0⟩ := HEK.out hz'
      obtain ⟨hv, hl0, hl1⟩ := HEI.out hE0
      subst hTM
      obtain ⟨l, rfl⟩ : ∃ k : Nat, l = k := ⟨l.toNat, by omega⟩
      rw [Int.toNat_natCast] at HY
      have hl : l < f.claims.length := by omega
      have hct := told7_any HBXW.out.v hv HLW.out (fun g hg => truthsM_pl hv hg) (truthsM_256 hv []) hl
      subst hz'
      clear hE0 hl0 hl1 hv hT0 HX HEI HEK
      obtain ⟨hz, e1, e2, e3, e4, e5⟩ := HBXW.out.cells
      generalize toldM f l (truthsM f []) = tm at *
      generalize truthsM f [] = T at *
      go_wp2_with (go_at_call 49; refine hct.mono ?_; rintro e w2 ⟨rfl, hb⟩)
      go_ret2
      rw [HY.out]
      exact ⟨rfl, HBZ.out.trans (hb.mono HBZ.out.size)⟩
theorem cntP_all (q : List Int → Bool) (G : List (List Int)) (h : G ≠ []) : settledM (cntP q G) G.length = told3 G q := by
  have h1 : cntP q G = G.length ↔ G.all q = true := by
    rw [cntP, List.length_filter_eq_length_iff, List.all_eq_true]
  have h2 : cntP q G = 0 ↔ G.any q = false := by
    rw [cntP, List.length_eq_zero_iff, List.filter_eq_nil_iff, List.any_eq_false]
  have h3 : 0 < G.length := List.length_pos_iff.2 h
  unfold settledM told3
  cases ha : G.all q with
  | true =>
    have := h1.2 ha
    rw [this]
    simp
  | false =>
    have h4 : ¬ cntP q G = G.length := fun e => by rw [h1.1 e] at ha; cases ha
    cases hb : G.any q with
    | true =>
      have h5 : ¬ cntP q G = 0 := fun e => by rw [h2.1 e] at hb; cases hb
      have h6 : ¬ (cntP q G : Int) = (G.length : Int) := by omega
      simp [h5, h6]
    | false =>
      have h5 := h2.2 hb
      simp [h5]; omega
end Go.Proofs.YtllmahcanipcpaaGreat
