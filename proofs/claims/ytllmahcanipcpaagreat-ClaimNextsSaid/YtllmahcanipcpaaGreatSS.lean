/- The contract of the reference's Wrong. -/
import Derived.Test.YtllmahcanipcpaaGreatSR
import Derived.Test.YtllmahcanipcpaaGreatSV
import Derived.OwnWalkIn
import Derived.TacticsInMore
import Derived.Deep.DeepCutAuto
set_option linter.unusedVariables false
set_option linter.unusedSimpArgs false
namespace Go.Proofs.YtllmahcanipcpaaGreat
open Go.RowKit
attribute [local go_sem ↓] Go.wp_at_zero Go.wp_at_succ
attribute [local go_sem] Oper.semAt_some

theorem wpOp_valueW {P : Program} {ops : Array Oper} {Q : Exit → Act → World → Prop} {i d : Nat} {o : Oper} {K : Act → World → Prop} {a : Act} {W W' : World} {v : Value} (ho : ops[i]? = some o) (hg : o.guard = none) (hd : o.dst = some d) (hr : (execOp a.eval o).run P W = .ok (.value v) W') (hk : K (a.put (some d) v) W') : wpOp P ops Q i K a W :=
  wpOp_value ho hg hr (by rw [hd]; exact hk)
theorem ch_len (n : Nat) (hn : n ≤ 5) : (chTo n n).length = 1 := by rw [(fl_facts hn).2.2.2]; rfl
theorem flat_step {f : File} {j : Nat} (h1 : ∀ b ∈ flatC f.papers.length j, emptyB f b = true) (h2 : ∀ q, q < (chTo f.papers.length j).length → emptyB f (nth (chTo f.papers.length j) q) = true) : ∀ b ∈ flatC f.papers.length (j + 1), emptyB f b = true := fun b hb => by
  rw [flatC_succ, List.mem_append] at hb
  rcases hb with hb | hb
  · exact h1 b hb
  · obtain ⟨q, hq, rfl⟩ := List.getElem_of_mem hb
    rw [← nth_eq hq]; exact h2 q hq
set_option maxHeartbeats 4000000 in
set_option maxRecDepth 100000 in
theorem wrong7_any {f : File} {fa : FA} {w : World} (h : FileV w w.heap.size f fa) :
    Calls Tryz.prog 24 #[fileVal f fa] w fun e w' => ∃ A cp, e = .returned (.tuple #[.slice A (wrongR f).1.length cp, .int .i64 (wrongR f).2]) ∧ IntsS w' w'.heap.size A (wrongR f).1.length cp (wrongR f).1 ∧ Below w.heap.size w w' := by
  have HBX0 := hide (BoxF.made h)
  have HB0 : Hid (Below w.heap.size w (w.alloc (.cells (fileCells f fa) 28))) := hide ((Below.refl _ _).alloc (Nat.le_refl _) _)
  have hm4 := h.m4
  unfold maxLen at hm4
  clear h
  go_enter Tryz.func24, Tryz.ntmps24
  go_upto_region 1 with (fail)
  generalize (w.alloc (.cells (fileCells f fa) 28)) = w0 at *
  obtain ⟨hz, e1, e2, e3, e4, e5⟩ := HBX0.out.cells
  go_upto_region 2 with (go_at_call 51; refine (check7_any HBX0.out.v).mono ?_; rintro e y1 ⟨rfl, hb⟩)
  have HBX1 := hide (HBX0.out.next hb)
  have HB1 := hide (HB0.out.trans (hb.mono HB0.out.size))
  clear hb hz e1 e2 e3 e4 e5
  have HX := hide (show wrongR f = if (checkM f).2.2 = 0 then (wrongL f, 0) else ([], (checkM f).2.2) from rfl)
  have HVE := hide (fun (hh : (checkM f).2.2 = 0) => valid_of hh)
  generalize (checkM f).1 = k1 at *
  generalize (checkM f).2.1 = k2 at *
  generalize (checkM f).2.2 = er at *
  cases he : (er != 0) with
  | true =>
    have hne : ¬ er = 0 := by simpa using he
    have HY := hide (show wrongR f = ([], er) by rw [HX.out, if_neg hne])
    clear hne
    go_wp2_with fail
    go_ret2
    rw [HY.out]
    exact ⟨none, 0, rfl, IntsS.nil_, HB1.out⟩
  | false =>
    have hz' : er = 0 := by simpa using he
    have hv := HVE.out hz'
    have HY := hide (show wrongR f = (wrongL f, 0) by rw [HX.out, if_pos hz'])
    subst hz'
    clear HX HVE he
    have hn5 := hv.papers
    have HV := hide hv
    have HHIT := hide (fun (j k : Nat) => wrong_hit (f := f) (j := j) (k := k))
    have HNON := hide (wrong_none (f := f))
    have HST := hide (fun (j : Nat) => flat_step (f := f) (j := j))
    have HCL := hide (ch_len f.papers.length hn5)
    clear hv
    go_wp2_with fail
    go_loopw [7, 8, 9] (fun v7 _ _ wr => ∃ j : Nat, j ≤ f.papers.length ∧ v7 = .int .i64 j ∧ Below y1.heap.size y1 wr ∧ Hid (∀ b ∈ flatC f.papers.length j, emptyB f b = true)) (fun v7 _ _ _ => f.papers.length - (intOf v7).toNat)
    case atStart => exact ⟨0, Nat.zero_le _, rfl, Below.refl _ _, hide (fun b hb => by simp [flatC] at hb)⟩
    case round =>
      obtain ⟨j, hj, rfl, hB, HP⟩ := hrel
      have hj0 : (0 : Int) ≤ (j : Int) := Int.natCast_nonneg _
      have HBXa := hide (HBX1.out.next hB)
      have HBa := hide (HB1.out.trans (hB.mono HB1.out.size))
      obtain ⟨hz, e1, e2, e3, e4, e5⟩ := HBXa.out.cells
      by_cases hlt : j < f.papers.length
      · have hj1 : (j : Int) < (f.papers.length : Int) := by omega
        go_upto_region 8 with (go_at_call 66; refine (choices_any hn5 (show j ≤ 5 by omega) _).mono ?_; rintro e w2 ⟨AL, cL, rfl, hL, hb2⟩)
        have HBX2 := hide (HBXa.out.next hb2)
        have HBV := hide (hB.trans (hb2.mono hB.size))
        have HBX := hide (HBa.out.trans (hb2.mono HBa.out.size))
        have HL := hide hL
        have hlm := hL.bd
        clear hL hb2 hz e1 e2 e3 e4 e5 hB HBXa
        generalize hGG : chTo f.papers.length j = G at *
        have HGG := hide hGG
        clear hGG
        go_wp2_with fail
        go_loopw [9] (fun v9 w3 => ∃ k : Nat, k ≤ G.length ∧ v9 = .int .i64 k ∧ Below w2.heap.size w2 w3 ∧ Hid (∀ q, q < k → emptyB f (nth G q) = true)) (fun v9 _ => G.length - (intOf v9).toNat)
        case atStart => exact ⟨0, Nat.zero_le _, rfl, Below.refl _ _, hide (fun q hq => absurd hq (Nat.not_lt_zero _))⟩
        case round =>
          obtain ⟨k, hk', rfl, hB2, HR⟩ := hrel
          have hk0 : (0 : Int) ≤ (k : Int) := Int.natCast_nonneg _
          have HB2r := hide hB2
          have hz2 := hB2.size
          have HBXr := hide (HBX2.out.next hB2)
          have HLr := hide (HL.out.next hB2)
          have HBXz := hide (HBX.out.trans (hB2.mono HBX.out.size))
          have HBVr := hide (HBV.out.trans (hB2.mono HBV.out.size))
          clear hB2
          by_cases hlt2 : k < G.length
          · have hk1 : (k : Int) < (G.length : Int) := by omega
            obtain ⟨hz, e1, e2, e3, e4, e5⟩ := HBXr.out.cells
            obtain ⟨bg, og, Ag, cg, hAg, hbgz, hgc, hgi⟩ := HLr.out.at_ hlt2
            have HGr := hide hgi
            subst hAg
            clear hgi
            have HBX := HBXz
            generalize hgg : nth G k = g at *
            have HGK := hide hgg
            clear hgg
            have HEM := hide (show emptyB f g = decide ((truthsM f g).length = 0) from rfl)
            generalize hem : emptyB f g = em at *
            have HEQ := hide hem
            clear hem
            have HGN : Hid (decide (0 < (truthsM f g).length) = !em) := hide (by rw [HEM.out]; cases h : (truthsM f g).length <;> simp [h])
            go_wp2_with fail
            refine wp_region_rel (dst := fun oi => [37, 38, 39, 40, 41, 42, 43, 44].getD oi 0) (mono := fun oi => decide (oi < 8)) (pre := fun oi => decide (oi < 8)) (R := LKeep (fun _ => False) (fun _ => True))
              (Pv := fun oi v W => match oi with
                | 0 => v = fileVal f fa
                | 1 => v = .slice (some ⟨bg, og, none⟩) G.length cL
                | 2 => v = .int .i64 (k : Nat)
                | 3 => v = .pointer (some ⟨bg, og + k, none⟩)
                | 4 => v = .slice Ag g.length cg
                | 5 => ∃ gl cp, v = .slice gl (truthsM f g).length cp ∧ ListsS W W.heap.size gl (truthsM f g).length cp (truthsM f g)
                | 6 => v = .int .i64 ((truthsM f g).length : Nat)
                | 7 => v = .bool (!em)
                | _ => True) (by kernel_rfl) (by kernel_rfl) (LKeep.refl _ _) (fun _ _ _ h h' => h.trans h') ?hstB ?hstepB ?hendB
            case hstB =>
              intro oi v W W' h hk
              match oi, h with
              | 0, h => exact h
              | 1, h => exact h
              | 2, h => exact h
              | 3, h => exact h
              | 4, h => exact h
              | 5, h => obtain ⟨gl, cp, h1, h2⟩ := h; exact ⟨gl, cp, h1, h2.next (hk.1.below (B := W.heap.size) (fun k h => h.elim) (Nat.le_refl _))⟩
              | 6, h => exact h
              | 7, h => exact h
              | oi + 8, h => exact trivial
            case hstepB =>
              intro oi hoi hom listed vs ao W hU hk0 hpv haft Ko hK
              have hkk := (LKeep.drew (fun _ => False) (M := fun _ => True) wr (fun h => h)).trans hk0
              have hk := hkk.1
              have hkm := hkk.2
              clear hkk
              match oi, hoi, hom with
              | 0, hoi, hom =>
                have z1 : ao.tmps[1]?.getD undef = .pointer (some ⟨w.heap.size, 0, none⟩) := hU.same 1 (by decide)
                have y0 := (hk.cell (b := w.heap.size) (o := 0) (hz) (fun h => h)).trans (e1)
                have y1 := (hk.cell (b := w.heap.size) (o := 1) (hz) (fun h => h)).trans (e2)
                have y2 := (hk.cell (b := w.heap.size) (o := 2) (hz) (fun h => h)).trans (e3)
                have y3 := (hk.cell (b := w.heap.size) (o := 3) (hz) (fun h => h)).trans (e4)
                have y4 := (hk.cell (b := w.heap.size) (o := 4) (hz) (fun h => h)).trans (e5)
                refine wpOp_value (v := fileVal f fa) (W' := W) rfl rfl ?_ (hK _ _ (LKeep.refl _ _ _) rfl)
                go_simp
              | 1, hoi, hom =>
                have z8 : ao.tmps[8]?.getD undef = .slice (some ⟨bg, og, none⟩) G.length cL := hU.same 8 (by decide)
                refine wpOp_value (v := .slice (some ⟨bg, og, none⟩) G.length cL) (W' := W) rfl rfl ?_ (hK _ _ (LKeep.refl _ _ _) rfl)
                go_simp
              | 2, hoi, hom =>
                have z9 : ao.tmps[9]?.getD undef = .int .i64 (k : Nat) := hU.same 9 (by decide)
                refine wpOp_value (v := .int .i64 (k : Nat)) (W' := W) rfl rfl ?_ (hK _ _ (LKeep.refl _ _ _) rfl)
                go_simp
              | 3, hoi, hom =>
                have l1 := haft _ rfl { on := 1, ground := .data } (by simp) rfl
                have hv1 : vs 1 = .slice (some ⟨bg, og, none⟩) G.length cL := hpv 1 l1
                have s1 : ao.tmps[38]?.getD undef = vs 1 := hU.slot 1 (by decide) l1
                rw [hv1] at s1
                have l2 := haft _ rfl { on := 2, ground := .data } (by simp) rfl
                have hv2 : vs 2 = .int .i64 (k : Nat) := hpv 2 l2
                have s2 : ao.tmps[39]?.getD undef = vs 2 := hU.slot 2 (by decide) l2
                rw [hv2] at s2
                refine wpOp_value (v := .pointer (some ⟨bg, og + k, none⟩)) (W' := W) rfl rfl ?_ (hK _ _ (LKeep.refl _ _ _) rfl)
                go_simp
              | 4, hoi, hom =>
                have l3 := haft _ rfl { on := 3, ground := .data } (by simp) rfl
                have hv3 : vs 3 = .pointer (some ⟨bg, og + k, none⟩) := hpv 3 l3
                have s3 : ao.tmps[40]?.getD undef = vs 3 := hU.slot 3 (by decide) l3
                rw [hv3] at s3
                have y0 := (hk.cell (b := bg) (o := og + k) (hbgz) (fun h => h)).trans (hgc)
                refine wpOp_value (v := .slice Ag g.length cg) (W' := W) rfl rfl ?_ (hK _ _ (LKeep.refl _ _ _) rfl)
                go_simp
              | 5, hoi, hom =>
                have l0 := haft _ rfl { on := 0, ground := .data } (by simp) rfl
                have hv0 : vs 0 = fileVal f fa := hpv 0 l0
                have s0 : ao.tmps[37]?.getD undef = vs 0 := hU.slot 0 (by decide) l0
                rw [hv0] at s0
                have l4 := haft _ rfl { on := 4, ground := .data } (by simp) rfl
                have hv4 : vs 4 = .slice Ag g.length cg := hpv 4 l4
                have s4 : ao.tmps[41]?.getD undef = vs 4 := hU.slot 4 (by decide) l4
                rw [hv4] at s4
                refine wpOp_enter (f := 37) (args := #[fileVal f fa, .slice Ag g.length cg]) (W' := W) rfl rfl ?_ ((truths7_any (HBXr.out.v.next (hk.below (B := wr.heap.size) (fun k h => h.elim) (Nat.le_refl _))) HV.out (HGr.out.next (hk.below (B := wr.heap.size) (fun k h => h.elim) (Nat.le_refl _)))).mono (fun e w'' h => ?_))
                · go_simp
                · obtain ⟨gl5, cp5, he, hi5, hbw⟩ := h
                  exact ⟨_, he, hK _ _ (LKeep.below hbw (fun h => h)) ⟨_, _, rfl, hi5⟩⟩
              | 6, hoi, hom =>
                have l5 := haft _ rfl { on := 5, ground := .data } (by simp) rfl
                obtain ⟨gl5, cp5, hv5, hi5⟩ := hpv 5 l5
                have s5 : ao.tmps[42]?.getD undef = vs 5 := hU.slot 5 (by decide) l5
                rw [hv5] at s5
                refine wpOp_value (v := .int .i64 ((truthsM f g).length : Nat)) (W' := W) rfl rfl ?_ (hK _ _ (LKeep.refl _ _ _) rfl)
                go_simp
              | 7, hoi, hom =>
                have l6 := haft _ rfl { on := 6, ground := .data } (by simp) rfl
                have hv6 : vs 6 = .int .i64 ((truthsM f g).length : Nat) := hpv 6 l6
                have s6 : ao.tmps[43]?.getD undef = vs 6 := hU.slot 6 (by decide) l6
                rw [hv6] at s6
                refine wpOp_value (v := .bool (!em)) (W' := W) rfl rfl ?_ (hK _ _ (LKeep.refl _ _ _) rfl)
                go_simp
                exact HGN.out
              | oi + 8, hoi, hom => exact absurd (of_decide_eq_true hom) (by omega)
            case hendB =>
              intro listed vs ao W hG hk0 hpv hpre
              have hkk := (LKeep.drew (fun _ => False) (M := fun _ => True) wr (fun h => h)).trans hk0
              have hk := hkk.1
              have hkm := hkk.2
              clear hkk
              have hact := hG.act
              have hT := hG.lst hpre 0 #[true, true, true, true, true, true, true, true] rfl (by kernel_rfl) (hpre 0 (by decide) (by decide))
              rw [hG.ix hT (l := [0, 1, 2, 3, 4, 5, 6, 7]) (by kernel_rfl)] at hact
              rw [hG.lo hT (k := 0) (by kernel_rfl)]
              have hv0 : vs 0 = fileVal f fa := hpv 0 (hpre 0 (by decide) (by decide))
              have hv1 : vs 1 = .slice (some ⟨bg, og, none⟩) G.length cL := hpv 1 (hpre 1 (by decide) (by decide))
              have hv2 : vs 2 = .int .i64 (k : Nat) := hpv 2 (hpre 2 (by decide) (by decide))
              have hv3 : vs 3 = .pointer (some ⟨bg, og + k, none⟩) := hpv 3 (hpre 3 (by decide) (by decide))
              have hv4 : vs 4 = .slice Ag g.length cg := hpv 4 (hpre 4 (by decide) (by decide))
              obtain ⟨gl5, cp5, hv5, hi5⟩ := hpv 5 (hpre 5 (by decide) (by decide))
              have hv6 : vs 6 = .int .i64 ((truthsM f g).length : Nat) := hpv 6 (hpre 6 (by decide) (by decide))
              have hv7 : vs 7 = .bool (!em) := hpv 7 (hpre 7 (by decide) (by decide))
              clear hpv hpre hG hk0
              obtain rfl : ao = _ := hact
              subst hT
              simp only [setAll, List.setIfInBounds_toArray, List.set_cons_succ, List.set_cons_zero, List.getD_cons_succ, List.getD_cons_zero]
              simp only [hv0, hv1, hv2, hv3, hv4, hv5, hv6, hv7]
              clear hv0 hv1 hv2 hv3 hv4 hv5 hv6 hv7
              refine wpAny_done (by kernel_rfl) ?_ _
              have HW4 := hide (HB2r.out.trans ((hk.below (B := wr.heap.size) (fun k h => h.elim) (Nat.le_refl _)).mono hz2))
              have HBX4 := hide (HBXr.out.next (hk.below (B := wr.heap.size) (fun k h => h.elim) (Nat.le_refl _)))
              have HG4 := hide (HGr.out.next (hk.below (B := wr.heap.size) (fun k h => h.elim) (Nat.le_refl _)))
              have HBY := hide (HBX.out.trans ((hk.below (B := wr.heap.size) (fun k h => h.elim) (Nat.le_refl _)).mono HBX.out.size))
              have HL4 := hide (HLr.out.next (hk.below (B := wr.heap.size) (fun k h => h.elim) (Nat.le_refl _)))
              have hgc4 := (hk.cell (b := bg) (o := og + k) hbgz (fun h => h)).trans hgc
              have hbg4 : bg < W.heap.size := Nat.lt_of_lt_of_le hbgz hk.size
              clear hk hkm
              cases em with
              | false =>
                go_wp2_with fail
                go_ret2
                have e1 := HHIT.out j k hlt (by rw [HGG.out]; exact hlt2) HP.out (by rw [HGG.out]; exact HR.out) (by rw [HGG.out, HGK.out]; exact HEQ.out)
                rw [HGG.out, HGK.out] at e1
                rw [HY.out, e1]
                exact ⟨Ag, cg, rfl, HG4.out, HBY.out⟩
              | true =>
                go_wp2_with fail
                go_roundw
                case rel => exact ⟨k + 1, by omega, by go_num, HW4.out, hide (fun q hq => by
                  by_cases hqk : q = k
                  · rw [hqk, HGK.out]; exact HEQ.out
                  · exact HR.out q (by omega))⟩
                case measure => simp [intOf]; omega
          · have hkk : k = G.length := by omega
            have HR2 : Hid (∀ q, q < G.length → emptyB f (nth G q) = true) := by rw [hkk] at HR; exact HR
            clear hkk
            go_wp2_with fail
            go_roundw
            case rel => exact ⟨j + 1, by omega, by go_num, HBVr.out, hide (HST.out j HP.out (by rw [HGG.out]; exact HR2.out))⟩
            case measure => simp [intOf]; omega
      · obtain rfl : j = f.papers.length := by omega
        have hjj : ¬ ((f.papers.length : Int) < (f.papers.length : Int)) := by omega
        go_wp2_with fail
        refine (choices_any hn5 hn5 _).mono ?_
        rintro e w2 ⟨AL, cL, rfl, hL, hb2⟩
        have hq0 : 0 < (chTo f.papers.length f.papers.length).length := by have := HCL.out; omega
        obtain ⟨bg, og, Ag, cg, rfl, hbg, hgc, hgi⟩ := hL.at_ hq0
        have hgi2 := hide hgi
        have hgc : w2.cell? ⟨bg, og, none⟩ = some (.slice Ag (nth (chTo f.papers.length f.papers.length) 0).length cg) := hgc
        clear hgi hL
        rw [HCL.out]
        go_wp2_with fail
        go_ret2
        rw [HY.out]
        have e1 := HNON.out HP.out
        rw [e1]
        exact ⟨Ag, cg, rfl, hgi2.out, HBa.out.trans (hb2.mono HBa.out.size)⟩
end Go.Proofs.YtllmahcanipcpaaGreat
