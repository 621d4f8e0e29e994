/- Contracts of the reference's told and Pays. -/
import Derived.Test.YtllmahcanipcpaaGreatSI
import Derived.OwnWalkIn
import Derived.TacticsInMore
import Derived.Deep.DeepCutAuto
set_option linter.unusedVariables false
set_option linter.unusedSimpArgs false
namespace Go.Proofs.YtllmahcanipcpaaGreat
open Go.RowKit
attribute [local go_sem ↓] Go.wp_at_zero Go.wp_at_succ
attribute [local go_sem] Oper.semAt_some

def cntP (q : List Int → Bool) (G : List (List Int)) : Nat := (G.filter q).length
theorem cntP_take (q : List Int → Bool) (G : List (List Int)) {i : Nat} (hi : i < G.length) : cntP q (G.take (i + 1)) = cntP q (G.take i) + (if q (nth G i) then 1 else 0) := by
  rw [cntP, filter_snoc G q hi]
  split <;> simp [cntP]
theorem cntP_le (q : List Int → Bool) (G : List (List Int)) : cntP q G ≤ G.length := List.length_filter_le _ _
def toldM (f : File) (n : Nat) (G : List (List Int)) : Int := settledM (cntP (fun p => paidB f p n) G) G.length
set_option maxHeartbeats 4000000 in
set_option maxRecDepth 100000 in
theorem told7_any {f : File} {fa : FA} {w : World} {A : Option Addr} {c : Nat} {G : List (List Int)} (h : FileV w w.heap.size f fa) (hv : Valid f) (hG : ListsS w w.heap.size A G.length c G) (hGP : ∀ g ∈ G, Pl f g) (hl : G.length ≤ 256) {n : Nat} (hn : n < f.claims.length) :
    Calls Tryz.prog 49 #[fileVal f fa, .int .i64 (n : Nat), .slice A G.length c] w fun e w' => e = .returned (.int .i64 (toldM f n G)) ∧ Below w.heap.size w w' := by
  have HBX := hide (BoxF.made h)
  have HB0 : Hid (Below w.heap.size w (w.alloc (.cells (fileCells f fa) 28))) := hide ((Below.refl _ _).alloc (Nat.le_refl _) _)
  have HG0 := hide (hG.next HB0.out)
  have HGP := hide hGP
  have HV := hide hv
  clear h hG hGP hv
  have HCT := hide (fun i (hi : i < G.length) => cntP_take (fun p => paidB f p n) G hi)
  have HTM := hide (show toldM f n G = settledM (cntP (fun p => paidB f p n) G) G.length from rfl)
  have HCL := hide (fun i => Nat.le_trans (cntP_le (fun p => paidB f p n) (G.take i)) (List.length_take_le i G))
  go_enter Tryz.func49, Tryz.ntmps49
  go_upto_region 1 with (fail)
  generalize (w.alloc (.cells (fileCells f fa) 28)) = w0 at *
  go_wp2_with fail
  go_loopw [7, 8] (fun v7 v8 wr => ∃ i : Nat, i ≤ G.length ∧ v8 = .int .i64 i ∧ v7 = .int .i64 (cntP (fun p => paidB f p n) (G.take i) : Nat) ∧ Below w0.heap.size w0 wr) (fun _ v8 _ => G.length - (intOf v8).toNat)
  case atStart => exact ⟨0, Nat.zero_le _, rfl, rfl, Below.refl _ _⟩
  case round =>
    obtain ⟨i, hi, rfl, rfl, hB⟩ := hrel
    have hi0 : (0 : Int) ≤ (i : Int) := Int.natCast_nonneg _
    have HBr := hide (HBX.out.next hB)
    obtain ⟨hz, e1, e2, e3, e4, e5⟩ := HBr.out.cells
    have hzr := hB.size
    have hc := HCL.out i
    by_cases hlt : i < G.length
    · have hi1 : (i : Int) < (G.length : Int) := by omega
      obtain ⟨bg, og, Ag, cg, rfl, hbg, hgc, hgi⟩ := HG0.out.at_ hlt
      have hgc := (hB.cell (p := ⟨bg, og + i, none⟩) hbg).trans hgc
      have HGr := hide ((hgi.below hB).more hzr)
      have hbgz : bg < wr.heap.size := by omega
      have HPG := hide (HGP.out (nth G i) (by rw [nth_eq hlt]; exact List.getElem_mem hlt))
      have HSU := hide (HCT.out i hlt)
      have HB := hide hB
      clear hB hgi
      generalize nth G i = g at *
      generalize cntP (fun p => paidB f p n) (G.take i) = m at *
      cases hpb : paidB f g n with
      | true =>
        have HX := hide (show cntP (fun p => paidB f p n) (G.take (i + 1)) = m + 1 by rw [HSU.out, hpb]; rfl)
        have HPB := hide hpb
        clear hpb
        go_wp2_with fail
        refine wp_region_rel (dst := fun oi => [15, 16, 17, 18, 19, 20, 21].getD oi 0) (mono := fun oi => decide (oi < 7)) (pre := fun oi => decide (oi < 7)) (R := LKeep (fun _ => False) (fun _ => True))
          (Pv := fun oi v W => match oi with
            | 0 => v = fileVal f fa
            | 1 => v = .int .i64 (n : Nat)
            | 2 => v = .slice (some ⟨bg, og, none⟩) G.length c
            | 3 => v = .int .i64 (i : Nat)
            | 4 => v = .pointer (some ⟨bg, og + i, none⟩)
            | 5 => v = .slice Ag g.length cg
            | 6 => v = .bool true
            | _ => True) (by kernel_rfl) (by kernel_rfl) (LKeep.refl _ _) (fun _ _ _ h h' => h.trans h') ?hstA ?hstepA ?hendA
        case hstA =>
          intro oi v W W' h hk
          match oi, h with
          | 0, h => exact h
          | 1, h => exact h
          | 2, h => exact h
          | 3, h => exact h
          | 4, h => exact h
          | 5, h => exact h
          | 6, h => exact h
          | oi + 7, h => exact trivial
        case hstepA =>
          intro oi hoi hom listed vs ao W hU hk0 hpv haft Ko hK
          have hkk := (LKeep.drew (fun _ => False) (M := fun _ => True) wr (fun h => h)).trans hk0
          have hk := hkk.1
          have hkm := hkk.2
          clear hkk
          match oi, hoi, hom with
          | 0, hoi, hom =>
            have z3 : ao.tmps[3]?.getD undef = .pointer (some ⟨w.heap.size, 0, none⟩) := hU.same 3 (by decide)
            have y0 := (hk.cell (b := w.heap.size) (o := 0) (hz) (fun h => h)).trans (e1)
            have y1 := (hk.cell (b := w.heap.size) (o := 1) (hz) (fun h => h)).trans (e2)
            have y2 := (hk.cell (b := w.heap.size) (o := 2) (hz) (fun h => h)).trans (e3)
            have y3 := (hk.cell (b := w.heap.size) (o := 3) (hz) (fun h => h)).trans (e4)
            have y4 := (hk.cell (b := w.heap.size) (o := 4) (hz) (fun h => h)).trans (e5)
            refine wpOp_value (v := fileVal f fa) (W' := W) rfl rfl ?_ (hK _ _ (LKeep.refl _ _ _) rfl)
            go_simp
          | 1, hoi, hom =>
            have z1 : ao.tmps[1]?.getD undef = .int .i64 (n : Nat) := hU.same 1 (by decide)
            refine wpOp_value (v := .int .i64 (n : Nat)) (W' := W) rfl rfl ?_ (hK _ _ (LKeep.refl _ _ _) rfl)
            go_simp
          | 2, hoi, hom =>
            have z2 : ao.tmps[2]?.getD undef = .slice (some ⟨bg, og, none⟩) G.length c := hU.same 2 (by decide)
            refine wpOp_value (v := .slice (some ⟨bg, og, none⟩) G.length c) (W' := W) rfl rfl ?_ (hK _ _ (LKeep.refl _ _ _) rfl)
            go_simp
          | 3, hoi, hom =>
            have z8 : ao.tmps[8]?.getD undef = .int .i64 (i : Nat) := hU.same 8 (by decide)
            refine wpOp_value (v := .int .i64 (i : Nat)) (W' := W) rfl rfl ?_ (hK _ _ (LKeep.refl _ _ _) rfl)
            go_simp
          | 4, hoi, hom =>
            have l2 := haft _ rfl { on := 2, ground := .data } (by simp) rfl
            have hv2 : vs 2 = .slice (some ⟨bg, og, none⟩) G.length c := hpv 2 l2
            have s2 : ao.tmps[17]?.getD undef = vs 2 := hU.slot 2 (by decide) l2
            rw [hv2] at s2
            have l3 := haft _ rfl { on := 3, ground := .data } (by simp) rfl
            have hv3 : vs 3 = .int .i64 (i : Nat) := hpv 3 l3
            have s3 : ao.tmps[18]?.getD undef = vs 3 := hU.slot 3 (by decide) l3
            rw [hv3] at s3
            refine wpOp_value (v := .pointer (some ⟨bg, og + i, none⟩)) (W' := W) rfl rfl ?_ (hK _ _ (LKeep.refl _ _ _) rfl)
            go_simp
          | 5, hoi, hom =>
            have l4 := haft _ rfl { on := 4, ground := .data } (by simp) rfl
            have hv4 : vs 4 = .pointer (some ⟨bg, og + i, none⟩) := hpv 4 l4
            have s4 : ao.tmps[19]?.getD undef = vs 4 := hU.slot 4 (by decide) l4
            rw [hv4] at s4
            have y0 := (hk.cell (b := bg) (o := og + i) (hbgz) (fun h => h)).trans (hgc)
            refine wpOp_value (v := .slice Ag g.length cg) (W' := W) rfl rfl ?_ (hK _ _ (LKeep.refl _ _ _) rfl)
            go_simp
          | 6, hoi, hom =>
            have l0 := haft _ rfl { on := 0, ground := .data } (by simp) rfl
            have hv0 : vs 0 = fileVal f fa := hpv 0 l0
            have s0 : ao.tmps[15]?.getD undef = vs 0 := hU.slot 0 (by decide) l0
            rw [hv0] at s0
            have l1 := haft _ rfl { on := 1, ground := .data } (by simp) rfl
            have hv1 : vs 1 = .int .i64 (n : Nat) := hpv 1 l1
            have s1 : ao.tmps[16]?.getD undef = vs 1 := hU.slot 1 (by decide) l1
            rw [hv1] at s1
            have l5 := haft _ rfl { on := 5, ground := .data } (by simp) rfl
            have hv5 : vs 5 = .slice Ag g.length cg := hpv 5 l5
            have s5 : ao.tmps[20]?.getD undef = vs 5 := hU.slot 5 (by decide) l5
            rw [hv5] at s5
            refine wpOp_enter (f := 34) (args := #[fileVal f fa, .int .i64 (n : Nat), .slice Ag g.length cg]) (W' := W) rfl rfl ?_ (((paid7_any (HBr.out.v.next (hk.below (B := wr.heap.size) (fun k h => h.elim) (Nat.le_refl _))) HV.out.fair (HGr.out.next (hk.below (B := wr.heap.size) (fun k h => h.elim) (Nat.le_refl _))) HPG.out hn).mono (fun e w h => by rw [HPB.out] at h; exact h)).mono (fun e w'' h => ?_))
            · go_simp
            · obtain ⟨he, hbw⟩ := h
              exact ⟨_, he, hK _ _ (LKeep.below hbw (fun h => h)) rfl⟩
          | oi + 7, hoi, hom => exact absurd (of_decide_eq_true hom) (by omega)
        case hendA =>
          intro listed vs ao W hG hk0 hpv hpre
          have hkk := (LKeep.drew (fun _ => False) (M := fun _ => True) wr (fun h => h)).trans hk0
          have hk := hkk.1
          have hkm := hkk.2
          clear hkk
          have hact := hG.act
          have hT := hG.lst hpre 0 #[true, true, true, true, true, true, true] rfl (by kernel_rfl) (hpre 0 (by decide) (by decide))
          rw [hG.ix hT (l := [0, 1, 2, 3, 4, 5, 6]) (by kernel_rfl)] at hact
          rw [hG.lo hT (k := 0) (by kernel_rfl)]
          have hv0 : vs 0 = fileVal f fa := hpv 0 (hpre 0 (by decide) (by decide))
          have hv1 : vs 1 = .int .i64 (n : Nat) := hpv 1 (hpre 1 (by decide) (by decide))
          have hv2 : vs 2 = .slice (some ⟨bg, og, none⟩) G.length c := hpv 2 (hpre 2 (by decide) (by decide))
          have hv3 : vs 3 = .int .i64 (i : Nat) := hpv 3 (hpre 3 (by decide) (by decide))
          have hv4 : vs 4 = .pointer (some ⟨bg, og + i, none⟩) := hpv 4 (hpre 4 (by decide) (by decide))
          have hv5 : vs 5 = .slice Ag g.length cg := hpv 5 (hpre 5 (by decide) (by decide))
          have hv6 : vs 6 = .bool true := hpv 6 (hpre 6 (by decide) (by decide))
          clear hpv hpre hG hk0
          obtain rfl : ao = _ := hact
          subst hT
          simp only [setAll, List.setIfInBounds_toArray, List.set_cons_succ, List.set_cons_zero, List.getD_cons_succ, List.getD_cons_zero]
          simp only [hv0, hv1, hv2, hv3, hv4, hv5, hv6]
          clear hv0 hv1 hv2 hv3 hv4 hv5 hv6
          refine wpAny_done (by kernel_rfl) ?_ _
          have HBZ := hide (HB.out.trans ((hk.below (B := wr.heap.size) (fun k h => h.elim) (Nat.le_refl _)).mono hzr))
          clear hk hkm
          go_wp2_with fail
          go_roundw
          case rel => exact ⟨i + 1, by omega, by go_num, by rw [HX.out]; go_num, HBZ.out⟩
          case measure => simp [intOf]; omega
      | false =>
        have HX := hide (show cntP (fun p => paidB f p n) (G.take (i + 1)) = m by rw [HSU.out, hpb]; rfl)
        have HPB := hide hpb
        clear hpb
        go_wp2_with fail
        refine wp_region_rel (dst := fun oi => [15, 16, 17, 18, 19, 20, 21].getD oi 0) (mono := fun oi => decide (oi < 7)) (pre := fun oi => decide (oi < 7)) (R := LKeep (fun _ => False) (fun _ => True))
          (Pv := fun oi v W => match oi with
            | 0 => v = fileVal f fa
            | 1 => v = .int .i64 (n : Nat)
            | 2 => v = .slice (some ⟨bg, og, none⟩) G.length c
            | 3 => v = .int .i64 (i : Nat)
            | 4 => v = .pointer (some ⟨bg, og + i, none⟩)
            | 5 => v = .slice Ag g.length cg
            | 6 => v = .bool false
            | _ => True) (by kernel_rfl) (by kernel_rfl) (LKeep.refl _ _) (fun _ _ _ h h' => h.trans h') ?hstB ?hstepB ?hendB
        case hstB =>
          intro oi v W W' h hk
          match oi, h with
          | 0, h => exact h
          | 1, h => exact h
          | 2, h => exact h
          | 3, h => exact h
          | 4, h => exact h
          | 5, h => exact h
          | 6, h => exact h
          | oi + 7, h => exact trivial
        case hstepB =>
          intro oi hoi hom listed vs ao W hU hk0 hpv haft Ko hK
          have hkk := (LKeep.drew (fun _ => False) (M := fun _ => True) wr (fun h => h)).trans hk0
          have hk := hkk.1
          have hkm := hkk.2
          clear hkk
          match oi, hoi, hom with
          | 0, hoi, hom =>
            have z3 : ao.tmps[3]?.getD undef = .pointer (some ⟨w.heap.size, 0, none⟩) := hU.same 3 (by decide)
            have y0 := (hk.cell (b := w.heap.size) (o := 0) (hz) (fun h => h)).trans (e1)
            have y1 := (hk.cell (b := w.heap.size) (o := 1) (hz) (fun h => h)).trans (e2)
            have y2 := (hk.cell (b := w.heap.size) (o := 2) (hz) (fun h => h)).trans (e3)
            have y3 := (hk.cell (b := w.heap.size) (o := 3) (hz) (fun h => h)).trans (e4)
            have y4 := (hk.cell (b := w.heap.size) (o := 4) (hz) (fun h => h)).trans (e5)
            refine wpOp_value (v := fileVal f fa) (W' := W) rfl rfl ?_ (hK _ _ (LKeep.refl _ _ _) rfl)
            go_simp
          | 1, hoi, hom =>
            have z1 : ao.tmps[1]?.getD undef = .int .i64 (n : Nat) := hU.same 1 (by decide)
            refine wpOp_value (v := .int .i64 (n : Nat)) (W' := W) rfl rfl ?_ (hK _ _ (LKeep.refl _ _ _) rfl)
            go_simp
          | 2, hoi, hom =>
            have z2 : ao.tmps[2]?.getD undef = .slice (some ⟨bg, og, none⟩) G.length c := hU.same 2 (by decide)
            refine wpOp_value (v := .slice (some ⟨bg, og, none⟩) G.length c) (W' := W) rfl rfl ?_ (hK _ _ (LKeep.refl _ _ _) rfl)
            go_simp
          | 3, hoi, hom =>
            have z8 : ao.tmps[8]?.getD undef = .int .i64 (i : Nat) := hU.same 8 (by decide)
            refine wpOp_value (v := .int .i64 (i : Nat)) (W' := W) rfl rfl ?_ (hK _ _ (LKeep.refl _ _ _) rfl)
            go_simp
          | 4, hoi, hom =>
            have l2 := haft _ rfl { on := 2, ground := .data } (by simp) rfl
            have hv2 : vs 2 = .slice (some ⟨bg, og, none⟩) G.length c := hpv 2 l2
            have s2 : ao.tmps[17]?.getD undef = vs 2 := hU.slot 2 (by decide) l2
            rw [hv2] at s2
            have l3 := haft _ rfl { on := 3, ground := .data } (by simp) rfl
            have hv3 : vs 3 = .int .i64 (i : Nat) := hpv 3 l3
            have s3 : ao.tmps[18]?.getD undef = vs 3 := hU.slot 3 (by decide) l3
            rw [hv3] at s3
            refine wpOp_value (v := .pointer (some ⟨bg, og + i, none⟩)) (W' := W) rfl rfl ?_ (hK _ _ (LKeep.refl _ _ _) rfl)
            go_simp
          | 5, hoi, hom =>
            have l4 := haft _ rfl { on := 4, ground := .data } (by simp) rfl
            have hv4 : vs 4 = .pointer (some ⟨bg, og + i, none⟩) := hpv 4 l4
            have s4 : ao.tmps[19]?.getD undef = vs 4 := hU.slot 4 (by decide) l4
            rw [hv4] at s4
            have y0 := (hk.cell (b := bg) (o := og + i) (hbgz) (fun h => h)).trans (hgc)
            refine wpOp_value (v := .slice Ag g.length cg) (W' := W) rfl rfl ?_ (hK _ _ (LKeep.refl _ _ _) rfl)
            go_simp
          | 6, hoi, hom =>
            have l0 := haft _ rfl { on := 0, ground := .data } (by simp) rfl
            have hv0 : vs 0 = fileVal f fa := hpv 0 l0
            have s0 : ao.tmps[15]?.getD undef = vs 0 := hU.slot 0 (by decide) l0
            rw [hv0] at s0
            have l1 := haft _ rfl { on := 1, ground := .data } (by simp) rfl
            have hv1 : vs 1 = .int .i64 (n : Nat) := hpv 1 l1
            have s1 : ao.tmps[16]?.getD undef = vs 1 := hU.slot 1 (by decide) l1
            rw [hv1] at s1
            have l5 := haft _ rfl { on := 5, ground := .data } (by simp) rfl
            have hv5 : vs 5 = .slice Ag g.length cg := hpv 5 l5
            have s5 : ao.tmps[20]?.getD undef = vs 5 := hU.slot 5 (by decide) l5
            rw [hv5] at s5
            refine wpOp_enter (f := 34) (args := #[fileVal f fa, .int .i64 (n : Nat), .slice Ag g.length cg]) (W' := W) rfl rfl ?_ (((paid7_any (HBr.out.v.next (hk.below (B := wr.heap.size) (fun k h => h.elim) (Nat.le_refl _))) HV.out.fair (HGr.out.next (hk.below (B := wr.heap.size) (fun k h => h.elim) (Nat.le_refl _))) HPG.out hn).mono (fun e w h => by rw [HPB.out] at h; exact h)).mono (fun e w'' h => ?_))
            · go_simp
            · obtain ⟨he, hbw⟩ := h
              exact ⟨_, he, hK _ _ (LKeep.below hbw (fun h => h)) rfl⟩
          | oi + 7, hoi, hom => exact absurd (of_decide_eq_true hom) (by omega)
        case hendB =>
          intro listed vs ao W hG hk0 hpv hpre
          have hkk := (LKeep.drew (fun _ => False) (M := fun _ => True) wr (fun h => h)).trans hk0
          have hk := hkk.1
          have hkm := hkk.2
          clear hkk
          have hact := hG.act
          have hT := hG.lst hpre 0 #[true, true, true, true, true, true, true] rfl (by kernel_rfl) (hpre 0 (by decide) (by decide))
          rw [hG.ix hT (l := [0, 1, 2, 3, 4, 5, 6]) (by kernel_rfl)] at hact
          rw [hG.lo hT (k := 0) (by kernel_rfl)]
          have hv0 : vs 0 = fileVal f fa := hpv 0 (hpre 0 (by decide) (by decide))
          have hv1 : vs 1 = .int .i64 (n : Nat) := hpv 1 (hpre 1 (by decide) (by decide))
          have hv2 : vs 2 = .slice (some ⟨bg, og, none⟩) G.length c := hpv 2 (hpre 2 (by decide) (by decide))
          have hv3 : vs 3 = .int .i64 (i : Nat) := hpv 3 (hpre 3 (by decide) (by decide))
          have hv4 : vs 4 = .pointer (some ⟨bg, og + i, none⟩) := hpv 4 (hpre 4 (by decide) (by decide))
          have hv5 : vs 5 = .slice Ag g.length cg := hpv 5 (hpre 5 (by decide) (by decide))
          have hv6 : vs 6 = .bool false := hpv 6 (hpre 6 (by decide) (by decide))
          clear hpv hpre hG hk0
          obtain rfl : ao = _ := hact
          subst hT
          simp only [setAll, List.setIfInBounds_toArray, List.set_cons_succ, List.set_cons_zero, List.getD_cons_succ, List.getD_cons_zero]
          simp only [hv0, hv1, hv2, hv3, hv4, hv5, hv6]
          clear hv0 hv1 hv2 hv3 hv4 hv5 hv6
          refine wpAny_done (by kernel_rfl) ?_ _
          have HBZ := hide (HB.out.trans ((hk.below (B := wr.heap.size) (fun k h => h.elim) (Nat.le_refl _)).mono hzr))
          clear hk hkm
          go_wp2_with fail
          go_roundw
          case rel => exact ⟨i + 1, by omega, by go_num, by rw [HX.out], HBZ.out⟩
          case measure => simp [intOf]; omega
    · have hii : i = G.length := by omega
      rw [hii, List.take_length]
      rw [hii, List.take_length] at hc
      clear hii
      have HST := hide (settled_any (cntP (fun p => paidB f p n) G : Nat) G.length wr)
      generalize cntP (fun p => paidB f p n) G = m at *
      go_wp2_with (go_at_call 70; refine HST.out.mono ?_; rintro e w2 ⟨rfl, rfl⟩)
      go_ret
      exact ⟨by rw [HTM.out]; rfl, HB0.out.trans (hB.mono HB0.out.size)⟩
end Go.Proofs.YtllmahcanipcpaaGreat
