/- The contract of the reference's Helps. -/
import Derived.Test.YtllmahcanipcpaaGreatST
import Derived.OwnWalkIn
import Derived.TacticsInMore
import Derived.Deep.DeepCutAuto
set_option linter.unusedVariables false
set_option linter.unusedSimpArgs false
namespace Go.Proofs.YtllmahcanipcpaaGreat
open Go.RowKit
attribute [local go_sem ↓] Go.wp_at_zero Go.wp_at_succ
attribute [local go_sem] Oper.semAt_some
theorem helpsM_take (f : File) (c : Claim) (G : List (List Int)) {i : Nat} (hi : i < G.length) : helpsM f c (G.take (i + 1)) = helpsM f c (G.take i) + (if helpB f c (nth G i) then 1 else 0) := cntP_take _ G hi
set_option maxHeartbeats 4000000 in
set_option maxRecDepth 100000 in
theorem helps7_any {f : File} {fa : FA} {w : World} {A : Option Addr} {cG : Nat} {G : List (List Int)} (h : FileV w w.heap.size f fa) (hv : Valid f) (c : Claim)
    (hc : 0 ≤ c.lot ∧ c.lot < f.lots.length ∧ 0 ≤ c.against ∧ c.against < f.parties.length ∧ 0 ≤ c.day ∧ c.day ≤ 60) (hG : ListsS w w.heap.size A G.length cG G) (hGP : ∀ g ∈ G, Pl f g) (hl : G.length ≤ 256) :
    Calls Tryz.prog 40 #[fileVal f fa, .agg #[.int .i64 c.lot, .int .i64 c.against, .int .i64 c.day], .slice A G.length cG] w fun e w' => e = .returned (.int .i64 (helpsM f c G : Nat)) ∧ Below w.heap.size w w' := by
  have hB0 : Below w.heap.size w ((w.alloc (.cells (fileCells f fa) 28)).alloc (.cells #[.int .i64 c.lot, .int .i64 c.against, .int .i64 c.day] 59)) := ((Below.refl _ _).alloc (Nat.le_refl _) _).alloc (by simp) _
  have HBX0 : Hid (BoxF ((w.alloc (.cells (fileCells f fa) 28)).alloc (.cells #[.int .i64 c.lot, .int .i64 c.against, .int .i64 c.day] 59)) w.heap.size f fa) := hide ⟨h.next hB0, Blk.made.alloc _⟩
  have HQ0 : Hid (Blk ((w.alloc (.cells (fileCells f fa) 28)).alloc (.cells #[.int .i64 c.lot, .int .i64 c.against, .int .i64 c.day] 59)) (w.heap.size + 1) 59 #[.int .i64 c.lot, .int .i64 c.against, .int .i64 c.day]) := hide (Blk.made' (by simp))
  have HL0 := hide (hG.next hB0)
  have HB0 := hide hB0
  have HV := hide hv
  have HFM := hide (hv.fair.more hc)
  have HGP := hide hGP
  have hcl := hv.claims
  clear h hv hB0 hG hGP hc
  go_enter Tryz.func40, Tryz.ntmps40
  go_upto_region 1 with (fail)
  generalize ((w.alloc (.cells (fileCells f fa) 28)).alloc (.cells #[.int .i64 c.lot, .int .i64 c.against, .int .i64 c.day] 59)) = w0 at *
  obtain ⟨hz, e1, e2, e3, e4, e5⟩ := HBX0.out.cells
  have q0 := HQ0.out.at_ 0
  have q1 := HQ0.out.at_ 1
  have q2 := HQ0.out.at_ 2
  simp only [List.getElem?_toArray, List.getElem?_cons_zero, List.getElem?_cons_succ] at q0 q1 q2
  have hzq := HQ0.out.lt
  go_upto_region 2 with (go_at_call 42; refine (more7_any HBX0.out.v (by omega) c).mono ?_; rintro e u1 ⟨fb, rfl, hF, hb⟩)
  have hb1 : Below u1.heap.size u1 (u1.alloc (.cells (fileCells (moreF f c) fb) 28)) := (Below.refl _ _).alloc (Nat.le_refl _) _
  have HBY1 := hide (BoxF.made hF)
  have hb2 := hb.trans (hb1.mono hb.size)
  have HBX1 := hide (HBX0.out.next hb2)
  have HQ1 := hide (HQ0.out.next hb2)
  have HL1 := hide (HL0.out.next hb2)
  have HB1 := hide (HB0.out.trans (hb2.mono HB0.out.size))
  clear hb hb1 hb2 hF hz e1 e2 e3 e4 e5 q0 q1 q2 hzq HBX0 HQ0 HL0
  generalize (u1.alloc (.cells (fileCells (moreF f c) fb) 28)) = y2 at *
  have HT0 := hide (show helpsM f c (G.take 0) = 0 from rfl)
  have HTN := hide (show helpsM f c (G.take G.length) = helpsM f c G by rw [List.take_length])
  have HTS := hide (fun i => helpsM_take f c G (i := i))
  have HHB := hide (fun g => show helpB f c g = (!settlesB f g c.lot && settlesB (moreF f c) g c.lot) from rfl)
  have HLE := hide (fun i => show helpsM f c (G.take i) ≤ 256 from Nat.le_trans (cntP_le _ _) (by rw [List.length_take]; omega))
  go_wp2_with fail
  go_loopw [8, 9] (fun v8 v9 wr => ∃ i : Nat, i ≤ G.length ∧ v9 = .int .i64 i ∧ v8 = .int .i64 (helpsM f c (G.take i) : Nat) ∧ Below y2.heap.size y2 wr) (fun _ v9 _ => G.length - (intOf v9).toNat)
  case atStart => exact ⟨0, Nat.zero_le _, rfl, by rw [HT0.out]; rfl, Below.refl _ _⟩
  case round =>
    obtain ⟨i, hi', rfl, rfl, hB2⟩ := hrel
    have hi0 : (0 : Int) ≤ (i : Int) := Int.natCast_nonneg _
    have hz2 := hB2.size
    have HB2r := hide hB2
    have HBXr := hide (HBX1.out.next hB2)
    have HBYr := hide (HBY1.out.next hB2)
    have HQr := hide (HQ1.out.next hB2)
    have HLr := hide (HL1.out.next hB2)
    clear hB2
    have hle := HLE.out i
    by_cases hlt : i < G.length
    · have hi1 : (i : Int) < (G.length : Int) := by omega
      obtain ⟨hz, e1, e2, e3, e4, e5⟩ := HBXr.out.cells
      obtain ⟨hzm, m1, m2, m3, m4, m5⟩ := HBYr.out.cells
      have hq := HQr.out.at_ 0
      simp only [List.getElem?_toArray, List.getElem?_cons_zero] at hq
      have hzq := HQr.out.lt
      obtain ⟨bg, og, Ag, cg, hAg, hbgz, hgc, hgi⟩ := HLr.out.at_ hlt
      have HGr := hide hgi
      have HPG := hide (HGP.out (nth G i) (by rw [nth_eq hlt]; exact List.getElem_mem hlt))
      have HSU := hide (HTS.out i hlt)
      have HH2 := hide (HHB.out (nth G i))
      subst hAg
      clear hgi
      generalize helpsM f c (G.take i) = k0 at *
      generalize nth G i = g at *
      cases hst : settlesB f g c.lot with
      | true =>
        have HST := hide hst
        have HZ := hide (show helpsM f c (G.take (i + 1)) = k0 by rw [HSU.out, HH2.out, hst]; simp)
        clear hst
        go_wp2_with fail
        refine wp_region_rel (dst := fun oi => [19, 20, 21, 22, 23, 24, 25, 26, 27, 28, 29, 30, 31, 32, 33, 34, 35, 36, 37].getD oi 0) (mono := fun oi => decide (oi < 19)) (pre := fun oi => decide (oi < 19)) (R := LKeep (fun _ => False) (fun _ => True))
          (Pv := fun oi v W => match oi with
            | 0 => v = fileVal f fa
            | 1 => v = .pointer (some ⟨w.heap.size + 1, 0, none⟩)
            | 2 => v = .int .i64 c.lot
            | 3 => v = .slice (some ⟨bg, og, none⟩) G.length cG
            | 4 => v = .int .i64 (i : Nat)
            | 5 => v = .pointer (some ⟨bg, og + i, none⟩)
            | 6 => v = .slice Ag g.length cg
            | 7 => v = .bool true
            | 8 => v = .bool false
            | 9 => v = .bool false
            | 10 => v = undef
            | 11 => v = undef
            | 12 => v = undef
            | 13 => v = undef
            | 14 => v = undef
            | 15 => v = undef
            | 16 => v = undef
            | 17 => v = undef
            | 18 => v = .bool false
            | _ => True) (by kernel_rfl) (by kernel_rfl) (LKeep.refl _ _) (fun _ _ _ h h' => h.trans h') ?hstT ?hstepT ?hendT
        case hstT =>
          intro oi v W W' h hk
          match oi, h with
          | 0, h => exact h
          | 1, h => exact h
          | 2, h => exact h
          | 3, h => exact h
          | 4, h => exact h
          | 5, h => exact h
          | 6, h => exact h
          | 7, h => exact h
          | 8, h => exact h
          | 9, h => exact h
          | 10, h => exact h
          | 11, h => exact h
          | 12, h => exact h
          | 13, h => exact h
          | 14, h => exact h
          | 15, h => exact h
          | 16, h => exact h
          | 17, h => exact h
          | 18, h => exact h
          | oi + 19, h => exact trivial
        case hstepT =>
          intro oi hoi hom listed vs ao W hU hk0 hpv haft Ko hK
          have hkk := (LKeep.drew (fun _ => False) (M := fun _ => True) wr (fun h => h)).trans hk0
          have hk := hkk.1
          have hkm := hkk.2
          clear hkk
          match oi, hoi, hom with
          | 0, hoi, hom =>
            have z3 : ao.tmps[3]?.getD undef = .pointer (some ⟨w.heap.size, 0, none⟩) := hU.same 3 (by decide)
            have y0 := (hk.cell (b := w.heap.size) (o := 0) (hz) (fun h => h)).trans (e1)
            have y1 := (hk.cell (b := w.heap.size) (o := 1) (hz) (fun h => h)).trans (e2)
            have y2 := (hk.cell (b := w.heap.size) (o := 2) (hz) (fun h => h)).trans (e3)
            have y3 := (hk.cell (b := w.heap.size) (o := 3) (hz) (fun h => h)).trans (e4)
            have y4 := (hk.cell (b := w.heap.size) (o := 4) (hz) (fun h => h)).trans (e5)
            refine wpOp_value (v := fileVal f fa) (W' := W) rfl rfl ?_ (hK _ _ (LKeep.refl _ _ _) rfl)
            go_simp
          | 1, hoi, hom =>
            have z4 : ao.tmps[4]?.getD undef = .pointer (some ⟨w.heap.size + 1, 0, none⟩) := hU.same 4 (by decide)
            refine wpOp_value (v := .pointer (some ⟨w.heap.size + 1, 0, none⟩)) (W' := W) rfl rfl ?_ (hK _ _ (LKeep.refl _ _ _) rfl)
            go_simp
          | 2, hoi, hom =>
            have l1 := haft _ rfl { on := 1, ground := .data } (by simp) rfl
            have hv1 : vs 1 = .pointer (some ⟨w.heap.size + 1, 0, none⟩) := hpv 1 l1
            have s1 : ao.tmps[20]?.getD undef = vs 1 := hU.slot 1 (by decide) l1
            rw [hv1] at s1
            have y0 := (hk.cell (b := w.heap.size + 1) (o := 0) (hzq) (fun h => h)).trans (hq)
            refine wpOp_value (v := .int .i64 c.lot) (W' := W) rfl rfl ?_ (hK _ _ (LKeep.refl _ _ _) rfl)
            go_simp
          | 3, hoi, hom =>
            have z2 : ao.tmps[2]?.getD undef = .slice (some ⟨bg, og, none⟩) G.length cG := hU.same 2 (by decide)
            refine wpOp_value (v := .slice (some ⟨bg, og, none⟩) G.length cG) (W' := W) rfl rfl ?_ (hK _ _ (LKeep.refl _ _ _) rfl)
            go_simp
          | 4, hoi, hom =>
            have z9 : ao.tmps[9]?.getD undef = .int .i64 (i : Nat) := hU.same 9 (by decide)
            refine wpOp_value (v := .int .i64 (i : Nat)) (W' := W) rfl rfl ?_ (hK _ _ (LKeep.refl _ _ _) rfl)
            go_simp
          | 5, hoi, hom =>
            have l3 := haft _ rfl { on := 3, ground := .data } (by simp) rfl
            have hv3 : vs 3 = .slice (some ⟨bg, og, none⟩) G.length cG := hpv 3 l3
            have s3 : ao.tmps[22]?.getD undef = vs 3 := hU.slot 3 (by decide) l3
            rw [hv3] at s3
            have l4 := haft _ rfl { on := 4, ground := .data } (by simp) rfl
            have hv4 : vs 4 = .int .i64 (i : Nat) := hpv 4 l4
            have s4 : ao.tmps[23]?.getD undef = vs 4 := hU.slot 4 (by decide) l4
            rw [hv4] at s4
            refine wpOp_value (v := .pointer (some ⟨bg, og + i, none⟩)) (W' := W) rfl rfl ?_ (hK _ _ (LKeep.refl _ _ _) rfl)
            go_simp
          | 6, hoi, hom =>
            have l5 := haft _ rfl { on := 5, ground := .data } (by simp) rfl
            have hv5 : vs 5 = .pointer (some ⟨bg, og + i, none⟩) := hpv 5 l5
            have s5 : ao.tmps[24]?.getD undef = vs 5 := hU.slot 5 (by decide) l5
            rw [hv5] at s5
            have y0 := (hk.cell (b := bg) (o := og + i) (hbgz) (fun h => h)).trans (hgc)
            refine wpOp_value (v := .slice Ag g.length cg) (W' := W) rfl rfl ?_ (hK _ _ (LKeep.refl _ _ _) rfl)
            go_simp
          | 7, hoi, hom =>
            have l0 := haft _ rfl { on := 0, ground := .data } (by simp) rfl
            have hv0 : vs 0 = fileVal f fa := hpv 0 l0
            have s0 : ao.tmps[19]?.getD undef = vs 0 := hU.slot 0 (by decide) l0
            rw [hv0] at s0
            have l2 := haft _ rfl { on := 2, ground := .data } (by simp) rfl
            have hv2 : vs 2 = .int .i64 c.lot := hpv 2 l2
            have s2 : ao.tmps[21]?.getD undef = vs 2 := hU.slot 2 (by decide) l2
            rw [hv2] at s2
            have l6 := haft _ rfl { on := 6, ground := .data } (by simp) rfl
            have hv6 : vs 6 = .slice Ag g.length cg := hpv 6 l6
            have s6 : ao.tmps[25]?.getD undef = vs 6 := hU.slot 6 (by decide) l6
            rw [hv6] at s6
            refine wpOp_enter (f := 30) (args := #[fileVal f fa, .int .i64 c.lot, .slice Ag g.length cg]) (W' := W) rfl rfl ?_ (((settles7_any (HBXr.out.v.next (hk.below (B := wr.heap.size) (fun k h => h.elim) (Nat.le_refl _))) HV.out.fair (HGr.out.next (hk.below (B := wr.heap.size) (fun k h => h.elim) (Nat.le_refl _))) HPG.out c.lot).mono (fun e w h => by rw [HST.out] at h; exact h)).mono (fun e w'' h => ?_))
            · go_simp
            · obtain ⟨he, hbw⟩ := h
              exact ⟨_, he, hK _ _ (LKeep.below hbw (fun h => h)) rfl⟩
          | 8, hoi, hom =>
            have l7 := haft _ rfl { on := 7, ground := .data } (by simp) rfl
            have hv7 : vs 7 = .bool true := hpv 7 l7
            have s7 : ao.tmps[26]?.getD undef = vs 7 := hU.slot 7 (by decide) l7
            rw [hv7] at s7
            refine wpOp_value (v := .bool false) (W' := W) rfl rfl ?_ (hK _ _ (LKeep.refl _ _ _) rfl)
            go_simp
          | 9, hoi, hom =>
            have l8 := haft _ rfl { on := 8, ground := .data } (by simp) rfl
            have hv8 : vs 8 = .bool false := hpv 8 l8
            have s8 : ao.tmps[27]?.getD undef = vs 8 := hU.slot 8 (by decide) l8
            rw [hv8] at s8
            refine wpOp_value (v := .bool false) (W' := W) rfl rfl ?_ (hK _ _ (LKeep.refl _ _ _) rfl)
            go_simp
          | 10, hoi, hom =>
            have l9 := haft _ rfl { on := 9, ground := .guard } (by simp) rfl
            have hv9 : vs 9 = .bool false := hpv 9 l9
            have s9 : ao.tmps[28]?.getD undef = vs 9 := hU.slot 9 (by decide) l9
            rw [hv9] at s9
            refine wpOp_unwanted rfl ?_ (hK _ _ (LKeep.refl _ _ _) rfl)
            refine wanted_no (j := 9) (d := 28) ?_ ?_ s9 <;> rfl
          | 11, hoi, hom =>
            have l9 := haft _ rfl { on := 9, ground := .guard } (by simp) rfl
            have hv9 : vs 9 = .bool false := hpv 9 l9
            have s9 : ao.tmps[28]?.getD undef = vs 9 := hU.slot 9 (by decide) l9
            rw [hv9] at s9
            refine wpOp_unwanted rfl ?_ (hK _ _ (LKeep.refl _ _ _) rfl)
            refine wanted_no (j := 9) (d := 28) ?_ ?_ s9 <;> rfl
          | 12, hoi, hom =>
            have l9 := haft _ rfl { on := 9, ground := .guard } (by simp) rfl
            have hv9 : vs 9 = .bool false := hpv 9 l9
            have s9 : ao.tmps[28]?.getD undef = vs 9 := hU.slot 9 (by decide) l9
            rw [hv9] at s9
            refine wpOp_unwanted rfl ?_ (hK _ _ (LKeep.refl _ _ _) rfl)
            refine wanted_no (j := 9) (d := 28) ?_ ?_ s9 <;> rfl
          | 13, hoi, hom =>
            have l9 := haft _ rfl { on := 9, ground := .guard } (by simp) rfl
            have hv9 : vs 9 = .bool false := hpv 9 l9
            have s9 : ao.tmps[28]?.getD undef = vs 9 := hU.slot 9 (by decide) l9
            rw [hv9] at s9
            refine wpOp_unwanted rfl ?_ (hK _ _ (LKeep.refl _ _ _) rfl)
            refine wanted_no (j := 9) (d := 28) ?_ ?_ s9 <;> rfl
          | 14, hoi, hom =>
            have l9 := haft _ rfl { on := 9, ground := .guard } (by simp) rfl
            have hv9 : vs 9 = .bool false := hpv 9 l9
            have s9 : ao.tmps[28]?.getD undef = vs 9 := hU.slot 9 (by decide) l9
            rw [hv9] at s9
            refine wpOp_unwanted rfl ?_ (hK _ _ (LKeep.refl _ _ _) rfl)
            refine wanted_no (j := 9) (d := 28) ?_ ?_ s9 <;> rfl
          | 15, hoi, hom =>
            have l9 := haft _ rfl { on := 9, ground := .guard } (by simp) rfl
            have hv9 : vs 9 = .bool false := hpv 9 l9
            have s9 : ao.tmps[28]?.getD undef = vs 9 := hU.slot 9 (by decide) l9
            rw [hv9] at s9
            refine wpOp_unwanted rfl ?_ (hK _ _ (LKeep.refl _ _ _) rfl)
            refine wanted_no (j := 9) (d := 28) ?_ ?_ s9 <;> rfl
          | 16, hoi, hom =>
            have l9 := haft _ rfl { on := 9, ground := .guard } (by simp) rfl
            have hv9 : vs 9 = .bool false := hpv 9 l9
            have s9 : ao.tmps[28]?.getD undef = vs 9 := hU.slot 9 (by decide) l9
            rw [hv9] at s9
            refine wpOp_unwanted rfl ?_ (hK _ _ (LKeep.refl _ _ _) rfl)
            refine wanted_no (j := 9) (d := 28) ?_ ?_ s9 <;> rfl
          | 17, hoi, hom =>
            have l9 := haft _ rfl { on := 9, ground := .guard } (by simp) rfl
            have hv9 : vs 9 = .bool false := hpv 9 l9
            have s9 : ao.tmps[28]?.getD undef = vs 9 := hU.slot 9 (by decide) l9
            rw [hv9] at s9
            refine wpOp_unwanted rfl ?_ (hK _ _ (LKeep.refl _ _ _) rfl)
            refine wanted_no (j := 9) (d := 28) ?_ ?_ s9 <;> rfl
          | 18, hoi, hom =>
            have l9 := haft _ rfl { on := 9, ground := .data } (by simp) rfl
            have hv9 : vs 9 = .bool false := hpv 9 l9
            have s9 : ao.tmps[28]?.getD undef = vs 9 := hU.slot 9 (by decide) l9
            rw [hv9] at s9
            have l17 := haft _ rfl { on := 17, ground := .data } (by simp) rfl
            have hv17 : vs 17 = undef := hpv 17 l17
            have s17 : ao.tmps[36]?.getD undef = vs 17 := hU.slot 17 (by decide) l17
            rw [hv17] at s17
            refine wpOp_value (v := .bool false) (W' := W) rfl rfl ?_ (hK _ _ (LKeep.refl _ _ _) rfl)
            go_simp
          | oi + 19, hoi, hom => exact absurd (of_decide_eq_true hom) (by omega)
        case hendT =>
          intro listed vs ao W hG hk0 hpv hpre
          have hkk := (LKeep.drew (fun _ => False) (M := fun _ => True) wr (fun h => h)).trans hk0
          have hk := hkk.1
          have hkm := hkk.2
          clear hkk
          have hact := hG.act
          have hT := hG.lst hpre 0 #[true, true, true, true, true, true, true, true, true, true, true, true, true, true, true, true, true, true, true] rfl (by kernel_rfl) (hpre 0 (by decide) (by decide))
          rw [hG.ix hT (l := [0, 1, 2, 3, 4, 5, 6, 7, 8, 9, 10, 11, 12, 13, 14, 15, 16, 17, 18]) (by kernel_rfl)] at hact
          rw [hG.lo hT (k := 0) (by kernel_rfl)]
          have hv0 : vs 0 = fileVal f fa := hpv 0 (hpre 0 (by decide) (by decide))
          have hv1 : vs 1 = .pointer (some ⟨w.heap.size + 1, 0, none⟩) := hpv 1 (hpre 1 (by decide) (by decide))
          have hv2 : vs 2 = .int .i64 c.lot := hpv 2 (hpre 2 (by decide) (by decide))
          have hv3 : vs 3 = .slice (some ⟨bg, og, none⟩) G.length cG := hpv 3 (hpre 3 (by decide) (by decide))
          have hv4 : vs 4 = .int .i64 (i : Nat) := hpv 4 (hpre 4 (by decide) (by decide))
          have hv5 : vs 5 = .pointer (some ⟨bg, og + i, none⟩) := hpv 5 (hpre 5 (by decide) (by decide))
          have hv6 : vs 6 = .slice Ag g.length cg := hpv 6 (hpre 6 (by decide) (by decide))
          have hv7 : vs 7 = .bool true := hpv 7 (hpre 7 (by decide) (by decide))
          have hv8 : vs 8 = .bool false := hpv 8 (hpre 8 (by decide) (by decide))
          have hv9 : vs 9 = .bool false := hpv 9 (hpre 9 (by decide) (by decide))
          have hv10 : vs 10 = undef := hpv 10 (hpre 10 (by decide) (by decide))
          have hv11 : vs 11 = undef := hpv 11 (hpre 11 (by decide) (by decide))
          have hv12 : vs 12 = undef := hpv 12 (hpre 12 (by decide) (by decide))
          have hv13 : vs 13 = undef := hpv 13 (hpre 13 (by decide) (by decide))
          have hv14 : vs 14 = undef := hpv 14 (hpre 14 (by decide) (by decide))
          have hv15 : vs 15 = undef := hpv 15 (hpre 15 (by decide) (by decide))
          have hv16 : vs 16 = undef := hpv 16 (hpre 16 (by decide) (by decide))
          have hv17 : vs 17 = undef := hpv 17 (hpre 17 (by decide) (by decide))
          have hv18 : vs 18 = .bool false := hpv 18 (hpre 18 (by decide) (by decide))
          clear hpv hpre hG hk0
          obtain rfl : ao = _ := hact
          subst hT
          simp only [setAll, List.setIfInBounds_toArray, List.set_cons_succ, List.set_cons_zero, List.getD_cons_succ, List.getD_cons_zero]
          simp only [hv0, hv1, hv2, hv3, hv4, hv5, hv6, hv7, hv8, hv9, hv10, hv11, hv12, hv13, hv14, hv15, hv16, hv17, hv18]
          clear hv0 hv1 hv2 hv3 hv4 hv5 hv6 hv7 hv8 hv9 hv10 hv11 hv12 hv13 hv14 hv15 hv16 hv17 hv18
          refine wpAny_done (by kernel_rfl) ?_ _
          have HBZ2 := hide (HB2r.out.trans ((hk.below (B := wr.heap.size) (fun k h => h.elim) (Nat.le_refl _)).mono hz2))
          clear hk hkm
          go_wp2_with fail
          go_roundw
          case rel => exact ⟨i + 1, by omega, by go_num, by rw [HZ.out] <;> try (rw [Int.natCast_add]; rfl), HBZ2.out⟩
          case measure => simp [intOf]; omega
      | false =>
        have HST := hide hst
        generalize hsm : settlesB (moreF f c) g c.lot = sm at *
        have HSM := hide hsm
        have HZ1 := hide (show helpsM f c (G.take (i + 1)) = k0 + (if sm then 1 else 0) by rw [HSU.out, HH2.out, hst]; simp)
        clear hst hsm
        go_wp2_with fail
        refine wp_region_rel (dst := fun oi => [19, 20, 21, 22, 23, 24, 25, 26, 27, 28, 29, 30, 31, 32, 33, 34, 35, 36, 37].getD oi 0) (mono := fun oi => decide (oi < 19)) (pre := fun oi => decide (oi < 19)) (R := LKeep (fun _ => False) (fun _ => True))
          (Pv := fun oi v W => match oi with
            | 0 => v = fileVal f fa
            | 1 => v = .pointer (some ⟨w.heap.size + 1, 0, none⟩)
            | 2 => v = .int .i64 c.lot
            | 3 => v = .slice (some ⟨bg, og, none⟩) G.length cG
            | 4 => v = .int .i64 (i : Nat)
            | 5 => v = .pointer (some ⟨bg, og + i, none⟩)
            | 6 => v = .slice Ag g.length cg
            | 7 => v = .bool false
            | 8 => v = .bool true
            | 9 => v = .bool true
            | 10 => v = fileVal (moreF f c) fb
            | 11 => v = .pointer (some ⟨w.heap.size + 1, 0, none⟩)
            | 12 => v = .int .i64 c.lot
            | 13 => v = .slice (some ⟨bg, og, none⟩) G.length cG
            | 14 => v = .int .i64 (i : Nat)
            | 15 => v = .pointer (some ⟨bg, og + i, none⟩)
            | 16 => v = .slice Ag g.length cg
            | 17 => v = .bool sm
            | 18 => v = .bool sm
            | _ => True) (by kernel_rfl) (by kernel_rfl) (LKeep.refl _ _) (fun _ _ _ h h' => h.trans h') ?hstF ?hstepF ?hendF
        case hstF =>
          intro oi v W W' h hk
          match oi, h with
          | 0, h => exact h
          | 1, h => exact h
          | 2, h => exact h
          | 3, h => exact h
          | 4, h => exact h
          | 5, h => exact h
          | 6, h => exact h
          | 7, h => exact h
          | 8, h => exact h
          | 9, h => exact h
          | 10, h => exact h
          | 11, h => exact h
          | 12, h => exact h
          | 13, h => exact h
          | 14, h => exact h
          | 15, h => exact h
          | 16, h => exact h
          | 17, h => exact h
          | 18, h => exact h
          | oi + 19, h => exact trivial
        case hstepF =>
          intro oi hoi hom listed vs ao W hU hk0 hpv haft Ko hK
          have hkk := (LKeep.drew (fun _ => False) (M := fun _ => True) wr (fun h => h)).trans hk0
          have hk := hkk.1
          have hkm := hkk.2
          clear hkk
          match oi, hoi, hom with
          | 0, hoi, hom =>
            have z3 : ao.tmps[3]?.getD undef = .pointer (some ⟨w.heap.size, 0, none⟩) := hU.same 3 (by decide)
            have y0 := (hk.cell (b := w.heap.size) (o := 0) (hz) (fun h => h)).trans (e1)
            have y1 := (hk.cell (b := w.heap.size) (o := 1) (hz) (fun h => h)).trans (e2)
            have y2 := (hk.cell (b := w.heap.size) (o := 2) (hz) (fun h => h)).trans (e3)
            have y3 := (hk.cell (b := w.heap.size) (o := 3) (hz) (fun h => h)).trans (e4)
            have y4 := (hk.cell (b := w.heap.size) (o := 4) (hz) (fun h => h)).trans (e5)
            refine wpOp_value (v := fileVal f fa) (W' := W) rfl rfl ?_ (hK _ _ (LKeep.refl _ _ _) rfl)
            go_simp
          | 1, hoi, hom =>
            have z4 : ao.tmps[4]?.getD undef = .pointer (some ⟨w.heap.size + 1, 0, none⟩) := hU.same 4 (by decide)
            refine wpOp_value (v := .pointer (some ⟨w.heap.size + 1, 0, none⟩)) (W' := W) rfl rfl ?_ (hK _ _ (LKeep.refl _ _ _) rfl)
            go_simp
          | 2, hoi, hom =>
            have l1 := haft _ rfl { on := 1, ground := .data } (by simp) rfl
            have hv1 : vs 1 = .pointer (some ⟨w.heap.size + 1, 0, none⟩) := hpv 1 l1
            have s1 : ao.tmps[20]?.getD undef = vs 1 := hU.slot 1 (by decide) l1
            rw [hv1] at s1
            have y0 := (hk.cell (b := w.heap.size + 1) (o := 0) (hzq) (fun h => h)).trans (hq)
            refine wpOp_value (v := .int .i64 c.lot) (W' := W) rfl rfl ?_ (hK _ _ (LKeep.refl _ _ _) rfl)
            go_simp
          | 3, hoi, hom =>
            have z2 : ao.tmps[2]?.getD undef = .slice (some ⟨bg, og, none⟩) G.length cG := hU.same 2 (by decide)
            refine wpOp_value (v := .slice (some ⟨bg, og, none⟩) G.length cG) (W' := W) rfl rfl ?_ (hK _ _ (LKeep.refl _ _ _) rfl)
            go_simp
          | 4, hoi, hom =>
            have z9 : ao.tmps[9]?.getD undef = .int .i64 (i : Nat) := hU.same 9 (by decide)
            refine wpOp_value (v := .int .i64 (i : Nat)) (W' := W) rfl rfl ?_ (hK _ _ (LKeep.refl _ _ _) rfl)
            go_simp
          | 5, hoi, hom =>
            have l3 := haft _ rfl { on := 3, ground := .data } (by simp) rfl
            have hv3 : vs 3 = .slice (some ⟨bg, og, none⟩) G.length cG := hpv 3 l3
            have s3 : ao.tmps[22]?.getD undef = vs 3 := hU.slot 3 (by decide) l3
            rw [hv3] at s3
            have l4 := haft _ rfl { on := 4, ground := .data } (by simp) rfl
            have hv4 : vs 4 = .int .i64 (i : Nat) := hpv 4 l4
            have s4 : ao.tmps[23]?.getD undef = vs 4 := hU.slot 4 (by decide) l4
            rw [hv4] at s4
            refine wpOp_value (v := .pointer (some ⟨bg, og + i, none⟩)) (W' := W) rfl rfl ?_ (hK _ _ (LKeep.refl _ _ _) rfl)
            go_simp
          | 6, hoi, hom =>
            have l5 := haft _ rfl { on := 5, ground := .data } (by simp) rfl
            have hv5 : vs 5 = .pointer (some ⟨bg, og + i, none⟩) := hpv 5 l5
            have s5 : ao.tmps[24]?.getD undef = vs 5 := hU.slot 5 (by decide) l5
            rw [hv5] at s5
            have y0 := (hk.cell (b := bg) (o := og + i) (hbgz) (fun h => h)).trans (hgc)
            refine wpOp_value (v := .slice Ag g.length cg) (W' := W) rfl rfl ?_ (hK _ _ (LKeep.refl _ _ _) rfl)
            go_simp
          | 7, hoi, hom =>
            have l0 := haft _ rfl { on := 0, ground := .data } (by simp) rfl
            have hv0 : vs 0 = fileVal f fa := hpv 0 l0
            have s0 : ao.tmps[19]?.getD undef = vs 0 := hU.slot 0 (by decide) l0
            rw [hv0] at s0
            have l2 := haft _ rfl { on := 2, ground := .data } (by simp) rfl
            have hv2 : vs 2 = .int .i64 c.lot := hpv 2 l2
            have s2 : ao.tmps[21]?.getD undef = vs 2 := hU.slot 2 (by decide) l2
            rw [hv2] at s2
            have l6 := haft _ rfl { on := 6, ground := .data } (by simp) rfl
            have hv6 : vs 6 = .slice Ag g.length cg := hpv 6 l6
            have s6 : ao.tmps[25]?.getD undef = vs 6 := hU.slot 6 (by decide) l6
            rw [hv6] at s6
            refine wpOp_enter (f := 30) (args := #[fileVal f fa, .int .i64 c.lot, .slice Ag g.length cg]) (W' := W) rfl rfl ?_ (((settles7_any (HBXr.out.v.next (hk.below (B := wr.heap.size) (fun k h => h.elim) (Nat.le_refl _))) HV.out.fair (HGr.out.next (hk.below (B := wr.heap.size) (fun k h => h.elim) (Nat.le_refl _))) HPG.out c.lot).mono (fun e w h => by rw [HST.out] at h; exact h)).mono (fun e w'' h => ?_))
            · go_simp
            · obtain ⟨he, hbw⟩ := h
              exact ⟨_, he, hK _ _ (LKeep.below hbw (fun h => h)) rfl⟩
          | 8, hoi, hom =>
            have l7 := haft _ rfl { on := 7, ground := .data } (by simp) rfl
            have hv7 : vs 7 = .bool false := hpv 7 l7
            have s7 : ao.tmps[26]?.getD undef = vs 7 := hU.slot 7 (by decide) l7
            rw [hv7] at s7
            refine wpOp_value (v := .bool true) (W' := W) rfl rfl ?_ (hK _ _ (LKeep.refl _ _ _) rfl)
            go_simp
          | 9, hoi, hom =>
            have l8 := haft _ rfl { on := 8, ground := .data } (by simp) rfl
            have hv8 : vs 8 = .bool true := hpv 8 l8
            have s8 : ao.tmps[27]?.getD undef = vs 8 := hU.slot 8 (by decide) l8
            rw [hv8] at s8
            refine wpOp_value (v := .bool true) (W' := W) rfl rfl ?_ (hK _ _ (LKeep.refl _ _ _) rfl)
            go_simp
          | 10, hoi, hom =>
            have l9 := haft _ rfl { on := 9, ground := .guard } (by simp) rfl
            have hv9 : vs 9 = .bool true := hpv 9 l9
            have s9 : ao.tmps[28]?.getD undef = vs 9 := hU.slot 9 (by decide) l9
            rw [hv9] at s9
            have z7 : ao.tmps[7]?.getD undef = .pointer (some ⟨u1.heap.size, 0, none⟩) := hU.same 7 (by decide)
            have y0 := (hk.cell (b := u1.heap.size) (o := 0) (hzm) (fun h => h)).trans (m1)
            have y1 := (hk.cell (b := u1.heap.size) (o := 1) (hzm) (fun h => h)).trans (m2)
            have y2 := (hk.cell (b := u1.heap.size) (o := 2) (hzm) (fun h => h)).trans (m3)
            have y3 := (hk.cell (b := u1.heap.size) (o := 3) (hzm) (fun h => h)).trans (m4)
            have y4 := (hk.cell (b := u1.heap.size) (o := 4) (hzm) (fun h => h)).trans (m5)
            refine wpOp_wanted (v := fileVal (moreF f c) fb) (W' := W) rfl ?_ ?_ (hK _ _ (LKeep.refl _ _ _) rfl)
            · refine wanted_yes (j := 9) (d := 28) ?_ ?_ s9 <;> rfl
            go_simp
          | 11, hoi, hom =>
            have l9 := haft _ rfl { on := 9, ground := .guard } (by simp) rfl
            have hv9 : vs 9 = .bool true := hpv 9 l9
            have s9 : ao.tmps[28]?.getD undef = vs 9 := hU.slot 9 (by decide) l9
            rw [hv9] at s9
            have z4 : ao.tmps[4]?.getD undef = .pointer (some ⟨w.heap.size + 1, 0, none⟩) := hU.same 4 (by decide)
            refine wpOp_wanted (v := .pointer (some ⟨w.heap.size + 1, 0, none⟩)) (W' := W) rfl ?_ ?_ (hK _ _ (LKeep.refl _ _ _) rfl)
            · refine wanted_yes (j := 9) (d := 28) ?_ ?_ s9 <;> rfl
            go_simp
          | 12, hoi, hom =>
            have l9 := haft _ rfl { on := 9, ground := .guard } (by simp) rfl
            have hv9 : vs 9 = .bool true := hpv 9 l9
            have s9 : ao.tmps[28]?.getD undef = vs 9 := hU.slot 9 (by decide) l9
            rw [hv9] at s9
            have l11 := haft _ rfl { on := 11, ground := .data } (by simp) rfl
            have hv11 : vs 11 = .pointer (some ⟨w.heap.size + 1, 0, none⟩) := hpv 11 l11
            have s11 : ao.tmps[30]?.getD undef = vs 11 := hU.slot 11 (by decide) l11
            rw [hv11] at s11
            have y0 := (hk.cell (b := w.heap.size + 1) (o := 0) (hzq) (fun h => h)).trans (hq)
            refine wpOp_wanted (v := .int .i64 c.lot) (W' := W) rfl ?_ ?_ (hK _ _ (LKeep.refl _ _ _) rfl)
            · refine wanted_yes (j := 9) (d := 28) ?_ ?_ s9 <;> rfl
            go_simp
          | 13, hoi, hom =>
            have l9 := haft _ rfl { on := 9, ground := .guard } (by simp) rfl
            have hv9 : vs 9 = .bool true := hpv 9 l9
            have s9 : ao.tmps[28]?.getD undef = vs 9 := hU.slot 9 (by decide) l9
            rw [hv9] at s9
            have z2 : ao.tmps[2]?.getD undef = .slice (some ⟨bg, og, none⟩) G.length cG := hU.same 2 (by decide)
            refine wpOp_wanted (v := .slice (some ⟨bg, og, none⟩) G.length cG) (W' := W) rfl ?_ ?_ (hK _ _ (LKeep.refl _ _ _) rfl)
            · refine wanted_yes (j := 9) (d := 28) ?_ ?_ s9 <;> rfl
            go_simp
          | 14, hoi, hom =>
            have l9 := haft _ rfl { on := 9, ground := .guard } (by simp) rfl
            have hv9 : vs 9 = .bool true := hpv 9 l9
            have s9 : ao.tmps[28]?.getD undef = vs 9 := hU.slot 9 (by decide) l9
            rw [hv9] at s9
            have z9 : ao.tmps[9]?.getD undef = .int .i64 (i : Nat) := hU.same 9 (by decide)
            refine wpOp_wanted (v := .int .i64 (i : Nat)) (W' := W) rfl ?_ ?_ (hK _ _ (LKeep.refl _ _ _) rfl)
            · refine wanted_yes (j := 9) (d := 28) ?_ ?_ s9 <;> rfl
            go_simp
          | 15, hoi, hom =>
            have l9 := haft _ rfl { on := 9, ground := .guard } (by simp) rfl
            have hv9 : vs 9 = .bool true := hpv 9 l9
            have s9 : ao.tmps[28]?.getD undef = vs 9 := hU.slot 9 (by decide) l9
            rw [hv9] at s9
            have l13 := haft _ rfl { on := 13, ground := .data } (by simp) rfl
            have hv13 : vs 13 = .slice (some ⟨bg, og, none⟩) G.length cG := hpv 13 l13
            have s13 : ao.tmps[32]?.getD undef = vs 13 := hU.slot 13 (by decide) l13
            rw [hv13] at s13
            have l14 := haft _ rfl { on := 14, ground := .data } (by simp) rfl
            have hv14 : vs 14 = .int .i64 (i : Nat) := hpv 14 l14
            have s14 : ao.tmps[33]?.getD undef = vs 14 := hU.slot 14 (by decide) l14
            rw [hv14] at s14
            refine wpOp_wanted (v := .pointer (some ⟨bg, og + i, none⟩)) (W' := W) rfl ?_ ?_ (hK _ _ (LKeep.refl _ _ _) rfl)
            · refine wanted_yes (j := 9) (d := 28) ?_ ?_ s9 <;> rfl
            go_simp
          | 16, hoi, hom =>
            have l9 := haft _ rfl { on := 9, ground := .guard } (by simp) rfl
            have hv9 : vs 9 = .bool true := hpv 9 l9
            have s9 : ao.tmps[28]?.getD undef = vs 9 := hU.slot 9 (by decide) l9
            rw [hv9] at s9
            have l15 := haft _ rfl { on := 15, ground := .data } (by simp) rfl
            have hv15 : vs 15 = .pointer (some ⟨bg, og + i, none⟩) := hpv 15 l15
            have s15 : ao.tmps[34]?.getD undef = vs 15 := hU.slot 15 (by decide) l15
            rw [hv15] at s15
            have y0 := (hk.cell (b := bg) (o := og + i) (hbgz) (fun h => h)).trans (hgc)
            refine wpOp_wanted (v := .slice Ag g.length cg) (W' := W) rfl ?_ ?_ (hK _ _ (LKeep.refl _ _ _) rfl)
            · refine wanted_yes (j := 9) (d := 28) ?_ ?_ s9 <;> rfl
            go_simp
          | 17, hoi, hom =>
            have l9 := haft _ rfl { on := 9, ground := .guard } (by simp) rfl
            have hv9 : vs 9 = .bool true := hpv 9 l9
            have s9 : ao.tmps[28]?.getD undef = vs 9 := hU.slot 9 (by decide) l9
            rw [hv9] at s9
            have l10 := haft _ rfl { on := 10, ground := .data } (by simp) rfl
            have hv10 : vs 10 = fileVal (moreF f c) fb := hpv 10 l10
            have s10 : ao.tmps[29]?.getD undef = vs 10 := hU.slot 10 (by decide) l10
            rw [hv10] at s10
            have l12 := haft _ rfl { on := 12, ground := .data } (by simp) rfl
            have hv12 : vs 12 = .int .i64 c.lot := hpv 12 l12
            have s12 : ao.tmps[31]?.getD undef = vs 12 := hU.slot 12 (by decide) l12
            rw [hv12] at s12
            have l16 := haft _ rfl { on := 16, ground := .data } (by simp) rfl
            have hv16 : vs 16 = .slice Ag g.length cg := hpv 16 l16
            have s16 : ao.tmps[35]?.getD undef = vs 16 := hU.slot 16 (by decide) l16
            rw [hv16] at s16
            refine wpOp_enterW (f := 30) (args := #[fileVal (moreF f c) fb, .int .i64 c.lot, .slice Ag g.length cg]) (W' := W) rfl ?_ ?_ (((settles7_any (HBYr.out.v.next (hk.below (B := wr.heap.size) (fun k h => h.elim) (Nat.le_refl _))) HFM.out (HGr.out.next (hk.below (B := wr.heap.size) (fun k h => h.elim) (Nat.le_refl _))) HPG.out c.lot).mono (fun e w h => by rw [HSM.out] at h; exact h)).mono (fun e w'' h => ?_))
            · refine wanted_yes (j := 9) (d := 28) ?_ ?_ s9 <;> rfl
            · go_simp
            · obtain ⟨he, hbw⟩ := h
              exact ⟨_, he, hK _ _ (LKeep.below hbw (fun h => h)) rfl⟩
          | 18, hoi, hom =>
            have l9 := haft _ rfl { on := 9, ground := .data } (by simp) rfl
            have hv9 : vs 9 = .bool true := hpv 9 l9
            have s9 : ao.tmps[28]?.getD undef = vs 9 := hU.slot 9 (by decide) l9
            rw [hv9] at s9
            have l17 := haft _ rfl { on := 17, ground := .data } (by simp) rfl
            have hv17 : vs 17 = .bool sm := hpv 17 l17
            have s17 : ao.tmps[36]?.getD undef = vs 17 := hU.slot 17 (by decide) l17
            rw [hv17] at s17
            refine wpOp_value (v := .bool sm) (W' := W) rfl rfl ?_ (hK _ _ (LKeep.refl _ _ _) rfl)
            go_simp
          | oi + 19, hoi, hom => exact absurd (of_decide_eq_true hom) (by omega)
        case hendF =>
          intro listed vs ao W hG hk0 hpv hpre
          have hkk := (LKeep.drew (fun _ => False) (M := fun _ => True) wr (fun h => h)).trans hk0
          have hk := hkk.1
          have hkm := hkk.2
          clear hkk
          have hact := hG.act
          have hT := hG.lst hpre 0 #[true, true, true, true, true, true, true, true, true, true, true, true, true, true, true, true, true, true, true] rfl (by kernel_rfl) (hpre 0 (by decide) (by decide))
          rw [hG.ix hT (l := [0, 1, 2, 3, 4, 5, 6, 7, 8, 9, 10, 11, 12, 13, 14, 15, 16, 17, 18]) (by kernel_rfl)] at hact
          rw [hG.lo hT (k := 0) (by kernel_rfl)]
          have hv0 : vs 0 = fileVal f fa := hpv 0 (hpre 0 (by decide) (by decide))
          have hv1 : vs 1 = .pointer (some ⟨w.heap.size + 1, 0, none⟩) := hpv 1 (hpre 1 (by decide) (by decide))
          have hv2 : vs 2 = .int .i64 c.lot := hpv 2 (hpre 2 (by decide) (by decide))
          have hv3 : vs 3 = .slice (some ⟨bg, og, none⟩) G.length cG := hpv 3 (hpre 3 (by decide) (by decide))
          have hv4 : vs 4 = .int .i64 (i : Nat) := hpv 4 (hpre 4 (by decide) (by decide))
          have hv5 : vs 5 = .pointer (some ⟨bg, og + i, none⟩) := hpv 5 (hpre 5 (by decide) (by decide))
          have hv6 : vs 6 = .slice Ag g.length cg := hpv 6 (hpre 6 (by decide) (by decide))
          have hv7 : vs 7 = .bool false := hpv 7 (hpre 7 (by decide) (by decide))
          have hv8 : vs 8 = .bool true := hpv 8 (hpre 8 (by decide) (by decide))
          have hv9 : vs 9 = .bool true := hpv 9 (hpre 9 (by decide) (by decide))
          have hv10 : vs 10 = fileVal (moreF f c) fb := hpv 10 (hpre 10 (by decide) (by decide))
          have hv11 : vs 11 = .pointer (some ⟨w.heap.size + 1, 0, none⟩) := hpv 11 (hpre 11 (by decide) (by decide))
          have hv12 : vs 12 = .int .i64 c.lot := hpv 12 (hpre 12 (by decide) (by decide))
          have hv13 : vs 13 = .slice (some ⟨bg, og, none⟩) G.length cG := hpv 13 (hpre 13 (by decide) (by decide))
          have hv14 : vs 14 = .int .i64 (i : Nat) := hpv 14 (hpre 14 (by decide) (by decide))
          have hv15 : vs 15 = .pointer (some ⟨bg, og + i, none⟩) := hpv 15 (hpre 15 (by decide) (by decide))
          have hv16 : vs 16 = .slice Ag g.length cg := hpv 16 (hpre 16 (by decide) (by decide))
          have hv17 : vs 17 = .bool sm := hpv 17 (hpre 17 (by decide) (by decide))
          have hv18 : vs 18 = .bool sm := hpv 18 (hpre 18 (by decide) (by decide))
          clear hpv hpre hG hk0
          obtain rfl : ao = _ := hact
          subst hT
          simp only [setAll, List.setIfInBounds_toArray, List.set_cons_succ, List.set_cons_zero, List.getD_cons_succ, List.getD_cons_zero]
          simp only [hv0, hv1, hv2, hv3, hv4, hv5, hv6, hv7, hv8, hv9, hv10, hv11, hv12, hv13, hv14, hv15, hv16, hv17, hv18]
          clear hv0 hv1 hv2 hv3 hv4 hv5 hv6 hv7 hv8 hv9 hv10 hv11 hv12 hv13 hv14 hv15 hv16 hv17 hv18
          refine wpAny_done (by kernel_rfl) ?_ _
          have HBZ2 := hide (HB2r.out.trans ((hk.below (B := wr.heap.size) (fun k h => h.elim) (Nat.le_refl _)).mono hz2))
          clear hk hkm
          cases sm with
          | true =>
            have HZ := hide (show helpsM f c (G.take (i + 1)) = k0 + 1 by rw [HZ1.out]; rfl)
            go_wp2_with fail
            go_roundw
            case rel => exact ⟨i + 1, by omega, by go_num, by rw [HZ.out] <;> try (rw [Int.natCast_add]; rfl), HBZ2.out⟩
            case measure => simp [intOf]; omega
          | false =>
            have HZ := hide (show helpsM f c (G.take (i + 1)) = k0 by rw [HZ1.out]; rfl)
            go_wp2_with fail
            go_roundw
            case rel => exact ⟨i + 1, by omega, by go_num, by rw [HZ.out] <;> try (rw [Int.natCast_add]; rfl), HBZ2.out⟩
            case measure => simp [intOf]; omega
    · have hii : i = G.length := by omega
      have HE := hide (show helpsM f c (G.take i) = helpsM f c G by rw [hii, HTN.out])
      clear hii
      rw [HE.out]
      go_wp2_with fail
      go_ret
      exact ⟨rfl, HB1.out.trans (HB2r.out.mono HB1.out.size)⟩
end Go.Proofs.YtllmahcanipcpaaGreat
