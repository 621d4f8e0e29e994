/- The contract of the reference's Truths. -/
import Derived.Test.YtllmahcanipcpaaSD
import Derived.OwnWalkIn
import Derived.TacticsInMore
import Derived.Deep.DeepCutAuto
set_option linter.unusedVariables false
set_option linter.unusedSimpArgs false
namespace Go.Proofs.Ytllmahcanipcpaa
open Go.RowKit
attribute [local go_sem ↓] Go.wp_at_zero Go.wp_at_succ
attribute [local go_sem] Oper.semAt_some

theorem soTo_succ (f : File) (but p : List Int) (k : Nat) : soTo f but p (k + 1) = (soTo f but p k && (hasInt but k || soP f (nth f.papers k) p)) := by simp [soTo, List.range_succ]
theorem allP_256 {f : File} (hv : Valid f) : (allP f).length ≤ 256 := allTo_256 hv (Nat.le_refl _)
theorem filter_snoc (G : List (List Int)) (q : List Int → Bool) {i : Nat} (hi : i < G.length) : (G.take (i + 1)).filter q = (G.take i).filter q ++ if q (nth G i) then [nth G i] else [] := by
  rw [take_nth hi, List.filter_append]
  cases h : q (nth G i) <;> simp [h]
theorem filter_le256 (G : List (List Int)) (q : List Int → Bool) (i : Nat) : ((G.take i).filter q).length ≤ G.length := by
  have h1 := List.length_filter_le q (G.take i)
  have h2 : (G.take i).length ≤ G.length := by simp; omega
  omega
set_option maxHeartbeats 4000000 in
set_option maxRecDepth 100000 in
theorem truths7_any {f : File} {fa : FA} {w : World} {A : Option Addr} {n c : Nat} {but : List Int} (h : FileV w w.heap.size f fa) (hv : Valid f) (hb : IntsS w w.heap.size A n c but) :
    Calls Try.prog 64 #[fileVal f fa, .slice A n c] w fun e w' =>
      ∃ A' c', e = .returned (.slice A' (truthsM f but).length c') ∧ ListsS w' w'.heap.size A' (truthsM f but).length c' (truthsM f but) ∧ Below w.heap.size w w' := by
  obtain ⟨i1, gi, gz0, gz1, gz2⟩ := info_parts Try.infoInts
  have HBX := hide (BoxF.made h)
  have HB0 : Hid (Below w.heap.size w (w.alloc (.cells (fileCells f fa) 28))) := hide ((Below.refl _ _).alloc (Nat.le_refl _) _)
  have HBU0 := hide (hb.next HB0.out)
  have hm4 := h.m4
  unfold maxLen at hm4
  have HV := hide hv
  have hlp := hv.papers
  clear h hv hb
  go_enter Try.func64, Try.ntmps64
  go_upto_region 1 with (fail)
  generalize (w.alloc (.cells (fileCells f fa) 28)) = w0 at *
  obtain ⟨hz0, e1, e2, e3, e4, e5⟩ := HBX.out.cells
  go_wp2_with (first | (go_at_call 82; refine (places_any HBX.out.v HV.out).mono ?_; rintro e w1 ⟨AG, cG, rfl, hG, hb1⟩))
  have HB1 := hide (HB0.out.trans (hb1.mono HB0.out.size))
  have HBX1 := hide (HBX.out.next hb1)
  have HBU := hide (HBU0.out.next hb1)
  have HGM := hide (show truthsM f but = (allP f).filter (soM f but) from rfl)
  have HGL := hide (allP_256 HV.out)
  have HGP := hide (fun g (hg : g ∈ allP f) => allP_pl HV.out hg)
  have hgb := hG.bd
  clear hb1 HBU0 HBX e1 e2 e3 e4 e5 hz0
  generalize allP f = G at *
  have hGl := HGL.out
  go_loopw [6, 7, 8, 9] (fun v6 v7 _ _ wr => ∃ i : Nat, i ≤ G.length ∧ v7 = .int .i64 i ∧ Below w1.heap.size w1 wr ∧ OwnRefs wr w1.heap.size w1.heap.size v6 ((G.take i).filter (soM f but))) (fun _ v7 _ _ _ => G.length - (intOf v7).toNat)
  case atStart => exact ⟨0, Nat.zero_le _, rfl, Below.refl _ _, OwnRefs.nil_⟩
  case round =>
    obtain ⟨i, hi', rfl, hB, hO⟩ := hrel
    obtain ⟨wa, rfl⟩ : ∃ wa : World, wa = wr := ⟨_, rfl⟩
    have hi0 : (0 : Int) ≤ (i : Int) := Int.natCast_nonneg _
    by_cases hlt : i < G.length
    · have hi1 : (i : Int) < (G.length : Int) := by omega
      obtain ⟨bg, og, Ag, cg, rfl, hbg, hgc, hgi⟩ := hG.at_ hlt
      have HPG := hide (HGP.out (nth G i) (by rw [nth_eq hlt]; exact List.getElem_mem hlt))
      have HFS := hide (filter_snoc G (soM f but) hlt)
      have HFL := hide (filter_le256 G (soM f but) i)
      have HSM := hide (show soM f but (nth G i) = soTo f but (nth G i) f.papers.length from rfl)
      have HSS := hide (soTo_succ f but (nth G i))
      have HS0 := hide (show soTo f but (nth G i) 0 = true from rfl)
      have HGI := hide hgi
      have HGC := hide hgc
      have HBa := hide hB
      have HOa := hide hO
      have hza := hB.size
      clear hB hO hgi hgc
      generalize nth G i = p at *
      go_wp2_with fail
      go_loopw [8, 9] (fun v8 v9 w2 => ∃ k : Nat, k ≤ f.papers.length ∧ v9 = .int .i64 k ∧ v8 = .bool (soTo f but p k) ∧ Below wa.heap.size wa w2) (fun _ v9 _ => f.papers.length - (intOf v9).toNat)
      case atStart => exact ⟨0, Nat.zero_le _, rfl, by rw [HS0.out], Below.refl _ _⟩
      case round =>
        obtain ⟨k, hk, rfl, rfl, hB2⟩ := hrel
        have hk0 : (0 : Int) ≤ (k : Int) := Int.natCast_nonneg _
        have hz2 := hB2.size
        have HB2 := hide hB2
        have HBw := hide (HBa.out.trans (hB2.mono hza))
        have HBXr := hide (HBX1.out.next HBw.out)
        obtain ⟨hz, e1, e2, e3, e4, e5⟩ := HBXr.out.cells
        by_cases hlt2 : k < f.papers.length
        · have hk1 : (k : Int) < (f.papers.length : Int) := by omega
          obtain ⟨bq, oq, hA4, hbq, y0, y1, y2⟩ := HBXr.out.v.papers.papers hlt2
          have HGr := hide ((HGI.out.below HBw.out).more (show w1.heap.size ≤ wr.heap.size by omega))
          have hgc := (HBw.out.cell (p := ⟨bg, og + i, none⟩) hbg).trans HGC.out
          have HBUr := hide (HBU.out.next HBw.out)
          have hbgz : bg < wr.heap.size := by omega
          have HPO := hide (HV.out.paper k hlt2)
          have HSK := hide (HSS.out k)
          have HE4 := hide (e4.trans (by rw [hA4]) : wr.cell? ⟨w.heap.size, 3, none⟩ = some (.slice (some ⟨bq, oq, none⟩) f.papers.length fa.c4))
          clear hB2
          cases hso : soTo f but p k with
          | false =>
            have HX := hide (show soTo f but p (k + 1) = false by rw [HSK.out, hso]; rfl)
            clear hso hA4
            go_wp2_with fail
            go_quiet (fail)
            go_wp2_with fail
            go_roundw
            case rel => exact ⟨k + 1, by omega, by go_num, by rw [HX.out], below_drewN HB2.out _⟩
            case measure => simp [intOf]; omega
          | true =>
            have HX := hide (show soTo f but p (k + 1) = (hasInt but k || soP f (nth f.papers k) p) by rw [HSK.out, hso]; rfl)
            clear hso
            have HA4 := hide hA4
            clear hA4
            cases hha : hasInt but k with
            | true =>
              have HY := hide (show soTo f but p (k + 1) = true by rw [HX.out, hha]; rfl)
              have HHA := hide hha
              clear hha
              go_wp2_with fail
              refine wp_region_rel (dst := fun oi => [25, 26, 27, 28, 29, 30, 31, 32, 33, 34, 35, 36, 37, 38, 39, 40, 41, 42, 43, 0].getD oi 0) (mono := fun oi => decide (oi < 19)) (pre := fun oi => decide (oi < 19)) (R := LKeep (fun _ => False) (fun _ => True))
                (Pv := fun oi v W => match oi with
                  | 0 => v = .bool true
                  | 1 => v = .bool true
                  | 2 => v = .slice A n c
                  | 3 => v = .int .i64 (k : Nat)
                  | 4 => v = .bool true
                  | 5 => v = .bool true
                  | 6 => v = undef
                  | 7 => v = undef
                  | 8 => v = undef
                  | 9 => v = undef
                  | 10 => v = undef
                  | 11 => v = undef
                  | 12 => v = undef
                  | 13 => v = undef
                  | 14 => v = undef
                  | 15 => v = undef
                  | 16 => v = undef
                  | 17 => v = .bool true
                  | 18 => v = .bool true
                  | _ => True) (by kernel_rfl) (by kernel_rfl) (LKeep.refl _ _) (fun _ _ _ h h' => h.trans h') ?hstA ?hstepA ?hendA
              case hstA =>
                intro oi v W W' h hk
                match oi, h with
                | 0, h => exact h
                | 1, h => exact h
                | 2, h => exact h
                | 3, h => exact h
                | 4, h => exact h
                | 5, h => exact h
                | 6, h => exact h
                | 7, h => exact h
                | 8, h => exact h
                | 9, h => exact h
                | 10, h => exact h
                | 11, h => exact h
                | 12, h => exact h
                | 13, h => exact h
                | 14, h => exact h
                | 15, h => exact h
                | 16, h => exact h
                | 17, h => exact h
                | 18, h => exact h
                | oi + 19, h => exact trivial
              case hstepA =>
                intro oi hoi hom listed vs ao W hU hk0 hpv haft Ko hK
                have hkk := (LKeep.drew (fun _ => False) (M := fun _ => True) wr (fun h => h)).trans hk0
                have hk := hkk.1
                have hkm := hkk.2
                clear hkk
                match oi, hoi, hom with
                | 0, hoi, hom =>
                  have z8 : ao.tmps[8]?.getD undef = .bool true := hU.same 8 (by decide)
                  refine wpOp_value (v := .bool true) (W' := W) rfl rfl ?_ (hK _ _ (LKeep.refl _ _ _) rfl)
                  go_simp
                | 1, hoi, hom =>
                  have l0 := haft _ rfl { on := 0, ground := .data } (by simp) rfl
                  have hv0 : vs 0 = .bool true := hpv 0 l0
                  have s0 : ao.tmps[25]?.getD undef = vs 0 := hU.slot 0 (by decide) l0
                  rw [hv0] at s0
                  refine wpOp_value (v := .bool true) (W' := W) rfl rfl ?_ (hK _ _ (LKeep.refl _ _ _) rfl)
                  go_simp
                | 2, hoi, hom =>
                  have l1 := haft _ rfl { on := 1, ground := .guard } (by simp) rfl
                  have hv1 : vs 1 = .bool true := hpv 1 l1
                  have s1 : ao.tmps[26]?.getD undef = vs 1 := hU.slot 1 (by decide) l1
                  rw [hv1] at s1
                  have z1 : ao.tmps[1]?.getD undef = .slice A n c := hU.same 1 (by decide)
                  refine wpOp_wanted (v := .slice A n c) (W' := W) rfl ?_ ?_ (hK _ _ (LKeep.refl _ _ _) rfl)
                  · refine wanted_yes (j := 1) (d := 26) ?_ ?_ s1 <;> rfl
                  go_simp
                | 3, hoi, hom =>
                  have l1 := haft _ rfl { on := 1, ground := .guard } (by simp) rfl
                  have hv1 : vs 1 = .bool true := hpv 1 l1
                  have s1 : ao.tmps[26]?.getD undef = vs 1 := hU.slot 1 (by decide) l1
                  rw [hv1] at s1
                  have z9 : ao.tmps[9]?.getD undef = .int .i64 (k : Nat) := hU.same 9 (by decide)
                  refine wpOp_wanted (v := .int .i64 (k : Nat)) (W' := W) rfl ?_ ?_ (hK _ _ (LKeep.refl _ _ _) rfl)
                  · refine wanted_yes (j := 1) (d := 26) ?_ ?_ s1 <;> rfl
                  go_simp
                | 4, hoi, hom =>
                  have l1 := haft _ rfl { on := 1, ground := .guard } (by simp) rfl
                  have hv1 : vs 1 = .bool true := hpv 1 l1
                  have s1 : ao.tmps[26]?.getD undef = vs 1 := hU.slot 1 (by decide) l1
                  rw [hv1] at s1
                  have l2 := haft _ rfl { on := 2, ground := .data } (by simp) rfl
                  have hv2 : vs 2 = .slice A n c := hpv 2 l2
                  have s2 : ao.tmps[27]?.getD undef = vs 2 := hU.slot 2 (by decide) l2
                  rw [hv2] at s2
                  have l3 := haft _ rfl { on := 3, ground := .data } (by simp) rfl
                  have hv3 : vs 3 = .int .i64 (k : Nat) := hpv 3 l3
                  have s3 : ao.tmps[28]?.getD undef = vs 3 := hU.slot 3 (by decide) l3
                  rw [hv3] at s3
                  refine wpOp_enterW (f := 25) (args := #[.slice A n c, .int .i64 (k : Nat)]) (W' := W) rfl ?_ ?_ (((has_any (HBUr.out.below (hk.below (B := wr.heap.size) (fun k h => h.elim) (Nat.le_refl _))) (k : Int)).mono (fun e w h => by rw [HHA.out] at h; exact h)).mono (fun e w'' h => ?_))
                  · refine wanted_yes (j := 1) (d := 26) ?_ ?_ s1 <;> rfl
                  · go_simp
                  · obtain ⟨he, hbw⟩ := h
                    exact ⟨_, he, hK _ _ (by rw [← hbw]; exact LKeep.refl _ _ _) rfl⟩
                | 5, hoi, hom =>
                  have l1 := haft _ rfl { on := 1, ground := .guard } (by simp) rfl
                  have hv1 : vs 1 = .bool true := hpv 1 l1
                  have s1 : ao.tmps[26]?.getD undef = vs 1 := hU.slot 1 (by decide) l1
                  rw [hv1] at s1
                  have l4 := haft _ rfl { on := 4, ground := .data } (by simp) rfl
                  have hv4 : vs 4 = .bool true := hpv 4 l4
                  have s4 : ao.tmps[29]?.getD undef = vs 4 := hU.slot 4 (by decide) l4
                  rw [hv4] at s4
                  refine wpOp_wanted (v := .bool true) (W' := W) rfl ?_ ?_ (hK _ _ (LKeep.refl _ _ _) rfl)
                  · refine wanted_yes (j := 1) (d := 26) ?_ ?_ s1 <;> rfl
                  go_simp
                | 6, hoi, hom =>
                  have l5 := haft _ rfl { on := 5, ground := .guard } (by simp) rfl
                  have hv5 : vs 5 = .bool true := hpv 5 l5
                  have s5 : ao.tmps[30]?.getD undef = vs 5 := hU.slot 5 (by decide) l5
                  rw [hv5] at s5
                  refine wpOp_unwanted rfl ?_ (hK _ _ (LKeep.refl _ _ _) rfl)
                  refine wanted_no (j := 5) (d := 30) ?_ ?_ s5 <;> rfl
                | 7, hoi, hom =>
                  have l5 := haft _ rfl { on := 5, ground := .guard } (by simp) rfl
                  have hv5 : vs 5 = .bool true := hpv 5 l5
                  have s5 : ao.tmps[30]?.getD undef = vs 5 := hU.slot 5 (by decide) l5
                  rw [hv5] at s5
                  refine wpOp_unwanted rfl ?_ (hK _ _ (LKeep.refl _ _ _) rfl)
                  refine wanted_no (j := 5) (d := 30) ?_ ?_ s5 <;> rfl
                | 8, hoi, hom =>
                  have l5 := haft _ rfl { on := 5, ground := .guard } (by simp) rfl
                  have hv5 : vs 5 = .bool true := hpv 5 l5
                  have s5 : ao.tmps[30]?.getD undef = vs 5 := hU.slot 5 (by decide) l5
                  rw [hv5] at s5
                  refine wpOp_unwanted rfl ?_ (hK _ _ (LKeep.refl _ _ _) rfl)
                  refine wanted_no (j := 5) (d := 30) ?_ ?_ s5 <;> rfl
                | 9, hoi, hom =>
                  have l5 := haft _ rfl { on := 5, ground := .guard } (by simp) rfl
                  have hv5 : vs 5 = .bool true := hpv 5 l5
                  have s5 : ao.tmps[30]?.getD undef = vs 5 := hU.slot 5 (by decide) l5
                  rw [hv5] at s5
                  refine wpOp_unwanted rfl ?_ (hK _ _ (LKeep.refl _ _ _) rfl)
                  refine wanted_no (j := 5) (d := 30) ?_ ?_ s5 <;> rfl
                | 10, hoi, hom =>
                  have l5 := haft _ rfl { on := 5, ground := .guard } (by simp) rfl
                  have hv5 : vs 5 = .bool true := hpv 5 l5
                  have s5 : ao.tmps[30]?.getD undef = vs 5 := hU.slot 5 (by decide) l5
                  rw [hv5] at s5
                  refine wpOp_unwanted rfl ?_ (hK _ _ (LKeep.refl _ _ _) rfl)
                  refine wanted_no (j := 5) (d := 30) ?_ ?_ s5 <;> rfl
                | 11, hoi, hom =>
                  have l5 := haft _ rfl { on := 5, ground := .guard } (by simp) rfl
                  have hv5 : vs 5 = .bool true := hpv 5 l5
                  have s5 : ao.tmps[30]?.getD undef = vs 5 := hU.slot 5 (by decide) l5
                  rw [hv5] at s5
                  refine wpOp_unwanted rfl ?_ (hK _ _ (LKeep.refl _ _ _) rfl)
                  refine wanted_no (j := 5) (d := 30) ?_ ?_ s5 <;> rfl
                | 12, hoi, hom =>
                  have l5 := haft _ rfl { on := 5, ground := .guard } (by simp) rfl
                  have hv5 : vs 5 = .bool true := hpv 5 l5
                  have s5 : ao.tmps[30]?.getD undef = vs 5 := hU.slot 5 (by decide) l5
                  rw [hv5] at s5
                  refine wpOp_unwanted rfl ?_ (hK _ _ (LKeep.refl _ _ _) rfl)
                  refine wanted_no (j := 5) (d := 30) ?_ ?_ s5 <;> rfl
                | 13, hoi, hom =>
                  have l5 := haft _ rfl { on := 5, ground := .guard } (by simp) rfl
                  have hv5 : vs 5 = .bool true := hpv 5 l5
                  have s5 : ao.tmps[30]?.getD undef = vs 5 := hU.slot 5 (by decide) l5
                  rw [hv5] at s5
                  refine wpOp_unwanted rfl ?_ (hK _ _ (LKeep.refl _ _ _) rfl)
                  refine wanted_no (j := 5) (d := 30) ?_ ?_ s5 <;> rfl
                | 14, hoi, hom =>
                  have l5 := haft _ rfl { on := 5, ground := .guard } (by simp) rfl
                  have hv5 : vs 5 = .bool true := hpv 5 l5
                  have s5 : ao.tmps[30]?.getD undef = vs 5 := hU.slot 5 (by decide) l5
                  rw [hv5] at s5
                  refine wpOp_unwanted rfl ?_ (hK _ _ (LKeep.refl _ _ _) rfl)
                  refine wanted_no (j := 5) (d := 30) ?_ ?_ s5 <;> rfl
                | 15, hoi, hom =>
                  have l5 := haft _ rfl { on := 5, ground := .guard } (by simp) rfl
                  have hv5 : vs 5 = .bool true := hpv 5 l5
                  have s5 : ao.tmps[30]?.getD undef = vs 5 := hU.slot 5 (by decide) l5
                  rw [hv5] at s5
                  refine wpOp_unwanted rfl ?_ (hK _ _ (LKeep.refl _ _ _) rfl)
                  refine wanted_no (j := 5) (d := 30) ?_ ?_ s5 <;> rfl
                | 16, hoi, hom =>
                  have l5 := haft _ rfl { on := 5, ground := .guard } (by simp) rfl
                  have hv5 : vs 5 = .bool true := hpv 5 l5
                  have s5 : ao.tmps[30]?.getD undef = vs 5 := hU.slot 5 (by decide) l5
                  rw [hv5] at s5
                  refine wpOp_unwanted rfl ?_ (hK _ _ (LKeep.refl _ _ _) rfl)
                  refine wanted_no (j := 5) (d := 30) ?_ ?_ s5 <;> rfl
                | 17, hoi, hom =>
                  have l1 := haft _ rfl { on := 1, ground := .guard } (by simp) rfl
                  have hv1 : vs 1 = .bool true := hpv 1 l1
                  have s1 : ao.tmps[26]?.getD undef = vs 1 := hU.slot 1 (by decide) l1
                  rw [hv1] at s1
                  have l5 := haft _ rfl { on := 5, ground := .data } (by simp) rfl
                  have hv5 : vs 5 = .bool true := hpv 5 l5
                  have s5 : ao.tmps[30]?.getD undef = vs 5 := hU.slot 5 (by decide) l5
                  rw [hv5] at s5
                  have l16 := haft _ rfl { on := 16, ground := .data } (by simp) rfl
                  have hv16 : vs 16 = undef := hpv 16 l16
                  have s16 : ao.tmps[41]?.getD undef = vs 16 := hU.slot 16 (by decide) l16
                  rw [hv16] at s16
                  refine wpOp_wanted (v := .bool true) (W' := W) rfl ?_ ?_ (hK _ _ (LKeep.refl _ _ _) rfl)
                  · refine wanted_yes (j := 1) (d := 26) ?_ ?_ s1 <;> rfl
                  go_simp
                | 18, hoi, hom =>
                  have l1 := haft _ rfl { on := 1, ground := .data } (by simp) rfl
                  have hv1 : vs 1 = .bool true := hpv 1 l1
                  have s1 : ao.tmps[26]?.getD undef = vs 1 := hU.slot 1 (by decide) l1
                  rw [hv1] at s1
                  have l17 := haft _ rfl { on := 17, ground := .data } (by simp) rfl
                  have hv17 : vs 17 = .bool true := hpv 17 l17
                  have s17 : ao.tmps[42]?.getD undef = vs 17 := hU.slot 17 (by decide) l17
                  rw [hv17] at s17
                  refine wpOp_value (v := .bool true) (W' := W) rfl rfl ?_ (hK _ _ (LKeep.refl _ _ _) rfl)
                  go_simp
                | oi + 19, hoi, hom => exact absurd (of_decide_eq_true hom) (by omega)
              case hendA =>
                intro listed vs ao W hG hk0 hpv hpre
                have hkk := (LKeep.drew (fun _ => False) (M := fun _ => True) wr (fun h => h)).trans hk0
                have hk := hkk.1
                have hkm := hkk.2
                clear hkk
                have hact := hG.act
                have hT := hG.lst hpre 0 #[true, true, true, true, true, true, true, true, true, true, true, true, true, true, true, true, true, true, true, false] rfl (by kernel_rfl) (hpre 0 (by decide) (by decide))
                rw [hG.ix hT (l := [0, 1, 2, 3, 4, 5, 6, 7, 8, 9, 10, 11, 12, 13, 14, 15, 16, 17, 18]) (by kernel_rfl)] at hact
                rw [hG.lo hT (k := 1) (by kernel_rfl)]
                have hv0 : vs 0 = .bool true := hpv 0 (hpre 0 (by decide) (by decide))
                have hv1 : vs 1 = .bool true := hpv 1 (hpre 1 (by decide) (by decide))
                have hv2 : vs 2 = .slice A n c := hpv 2 (hpre 2 (by decide) (by decide))
                have hv3 : vs 3 = .int .i64 (k : Nat) := hpv 3 (hpre 3 (by decide) (by decide))
                have hv4 : vs 4 = .bool true := hpv 4 (hpre 4 (by decide) (by decide))
                have hv5 : vs 5 = .bool true := hpv 5 (hpre 5 (by decide) (by decide))
                have hv6 : vs 6 = undef := hpv 6 (hpre 6 (by decide) (by decide))
                have hv7 : vs 7 = undef := hpv 7 (hpre 7 (by decide) (by decide))
                have hv8 : vs 8 = undef := hpv 8 (hpre 8 (by decide) (by decide))
                have hv9 : vs 9 = undef := hpv 9 (hpre 9 (by decide) (by decide))
                have hv10 : vs 10 = undef := hpv 10 (hpre 10 (by decide) (by decide))
                have hv11 : vs 11 = undef := hpv 11 (hpre 11 (by decide) (by decide))
                have hv12 : vs 12 = undef := hpv 12 (hpre 12 (by decide) (by decide))
                have hv13 : vs 13 = undef := hpv 13 (hpre 13 (by decide) (by decide))
                have hv14 : vs 14 = undef := hpv 14 (hpre 14 (by decide) (by decide))
                have hv15 : vs 15 = undef := hpv 15 (hpre 15 (by decide) (by decide))
                have hv16 : vs 16 = undef := hpv 16 (hpre 16 (by decide) (by decide))
                have hv17 : vs 17 = .bool true := hpv 17 (hpre 17 (by decide) (by decide))
                have hv18 : vs 18 = .bool true := hpv 18 (hpre 18 (by decide) (by decide))
                clear hpv hpre hG hk0
                obtain rfl : ao = _ := hact
                subst hT
                simp only [setAll, List.setIfInBounds_toArray, List.set_cons_succ, List.set_cons_zero, List.getD_cons_succ, List.getD_cons_zero]
                simp only [hv0, hv1, hv2, hv3, hv4, hv5, hv6, hv7, hv8, hv9, hv10, hv11, hv12, hv13, hv14, hv15, hv16, hv17, hv18]
                clear hv0 hv1 hv2 hv3 hv4 hv5 hv6 hv7 hv8 hv9 hv10 hv11 hv12 hv13 hv14 hv15 hv16 hv17 hv18
                refine wpAny_all (rs := [19]) (by kernel_rfl) (by simp) ?_
                intro i2 hi2
                obtain rfl : i2 = 19 := by simpa using hi2
                refine wpOp_value (v := .bool true) (W' := W) rfl rfl ?_ ?_
                · go_simp
                try simp only [Act.put, List.setIfInBounds_toArray, List.set_cons_zero, List.set_cons_succ]
                refine wpAny_done (by kernel_rfl) ?_ _
                have HBZ := hide (HB2.out.trans ((hk.below (B := wr.heap.size) (fun k h => h.elim) (Nat.le_refl _)).mono hz2))
                clear hk hkm
                go_wp2_with fail
                go_roundw
                case rel => exact ⟨k + 1, by omega, by go_num, by rw [HY.out], HBZ.out⟩
                case measure => simp [intOf]; omega
            | false =>
              have HY := hide (show soTo f but p (k + 1) = soP f (nth f.papers k) p by rw [HX.out, hha]; rfl)
              have HHA := hide hha
              clear hha
              generalize hSO : soP f (nth f.papers k) p = so at *
              have HSO := hide hSO
              clear hSO
              go_wp2_with fail
              refine wp_region_rel (dst := fun oi => [25, 26, 27, 28, 29, 30, 31, 32, 33, 34, 35, 36, 37, 38, 39, 40, 41, 42, 43, 0].getD oi 0) (mono := fun oi => decide (oi < 19)) (pre := fun oi => decide (oi < 19)) (R := LKeep (fun _ => False) (fun _ => True))
                (Pv := fun oi v W => match oi with
                  | 0 => v = .bool true
                  | 1 => v = .bool true
                  | 2 => v = .slice A n c
                  | 3 => v = .int .i64 (k : Nat)
                  | 4 => v = .bool false
                  | 5 => v = .bool false
                  | 6 => v = fileVal f fa
                  | 7 => v = .pointer (some ⟨w.heap.size, 3, none⟩)
                  | 8 => v = .slice (some ⟨bq, oq, none⟩) f.papers.length fa.c4
                  | 9 => v = .int .i64 (k : Nat)
                  | 10 => v = .pointer (some ⟨bq, oq + k * 3, none⟩)
                  | 11 => v = .agg #[.int .i64 (nth f.papers k).says, .int .i64 (nth f.papers k).lot, .int .i64 (nth f.papers k).of_]
                  | 12 => v = .slice (some ⟨bg, og, none⟩) G.length cG
                  | 13 => v = .int .i64 (i : Nat)
                  | 14 => v = .pointer (some ⟨bg, og + i, none⟩)
                  | 15 => v = .slice Ag p.length cg
                  | 16 => v = .bool so
                  | 17 => v = .bool so
                  | 18 => v = .bool so
                  | _ => True) (by kernel_rfl) (by kernel_rfl) (LKeep.refl _ _) (fun _ _ _ h h' => h.trans h') ?hstB ?hstepB ?hendB
              case hstB =>
                intro oi v W W' h hk
                match oi, h with
                | 0, h => exact h
                | 1, h => exact h
                | 2, h => exact h
                | 3, h => exact h
                | 4, h => exact h
                | 5, h => exact h
                | 6, h => exact h
                | 7, h => exact h
                | 8, h => exact h
                | 9, h => exact h
                | 10, h => exact h
                | 11, h => exact h
                | 12, h => exact h
                | 13, h => exact h
                | 14, h => exact h
                | 15, h => exact h
                | 16, h => exact h
                | 17, h => exact h
                | 18, h => exact h
                | oi + 19, h => exact trivial
              case hstepB =>
                intro oi hoi hom listed vs ao W hU hk0 hpv haft Ko hK
                have hkk := (LKeep.drew (fun _ => False) (M := fun _ => True) wr (fun h => h)).trans hk0
                have hk := hkk.1
                have hkm := hkk.2
                clear hkk
                match oi, hoi, hom with
                | 0, hoi, hom =>
                  have z8 : ao.tmps[8]?.getD undef = .bool true := hU.same 8 (by decide)
                  refine wpOp_value (v := .bool true) (W' := W) rfl rfl ?_ (hK _ _ (LKeep.refl _ _ _) rfl)
                  go_simp
                | 1, hoi, hom =>
                  have l0 := haft _ rfl { on := 0, ground := .data } (by simp) rfl
                  have hv0 : vs 0 = .bool true := hpv 0 l0
                  have s0 : ao.tmps[25]?.getD undef = vs 0 := hU.slot 0 (by decide) l0
                  rw [hv0] at s0
                  refine wpOp_value (v := .bool true) (W' := W) rfl rfl ?_ (hK _ _ (LKeep.refl _ _ _) rfl)
                  go_simp
                | 2, hoi, hom =>
                  have l1 := haft _ rfl { on := 1, ground := .guard } (by simp) rfl
                  have hv1 : vs 1 = .bool true := hpv 1 l1
                  have s1 : ao.tmps[26]?.getD undef = vs 1 := hU.slot 1 (by decide) l1
                  rw [hv1] at s1
                  have z1 : ao.tmps[1]?.getD undef = .slice A n c := hU.same 1 (by decide)
                  refine wpOp_wanted (v := .slice A n c) (W' := W) rfl ?_ ?_ (hK _ _ (LKeep.refl _ _ _) rfl)
                  · refine wanted_yes (j := 1) (d := 26) ?_ ?_ s1 <;> rfl
                  go_simp
                | 3, hoi, hom =>
                  have l1 := haft _ rfl { on := 1, ground := .guard } (by simp) rfl
                  have hv1 : vs 1 = .bool true := hpv 1 l1
                  have s1 : ao.tmps[26]?.getD undef = vs 1 := hU.slot 1 (by decide) l1
                  rw [hv1] at s1
                  have z9 : ao.tmps[9]?.getD undef = .int .i64 (k : Nat) := hU.same 9 (by decide)
                  refine wpOp_wanted (v := .int .i64 (k : Nat)) (W' := W) rfl ?_ ?_ (hK _ _ (LKeep.refl _ _ _) rfl)
                  · refine wanted_yes (j := 1) (d := 26) ?_ ?_ s1 <;> rfl
                  go_simp
                | 4, hoi, hom =>
                  have l1 := haft _ rfl { on := 1, ground := .guard } (by simp) rfl
                  have hv1 : vs 1 = .bool true := hpv 1 l1
                  have s1 : ao.tmps[26]?.getD undef = vs 1 := hU.slot 1 (by decide) l1
                  rw [hv1] at s1
                  have l2 := haft _ rfl { on := 2, ground := .data } (by simp) rfl
                  have hv2 : vs 2 = .slice A n c := hpv 2 l2
                  have s2 : ao.tmps[27]?.getD undef = vs 2 := hU.slot 2 (by decide) l2
                  rw [hv2] at s2
                  have l3 := haft _ rfl { on := 3, ground := .data } (by simp) rfl
                  have hv3 : vs 3 = .int .i64 (k : Nat) := hpv 3 l3
                  have s3 : ao.tmps[28]?.getD undef = vs 3 := hU.slot 3 (by decide) l3
                  rw [hv3] at s3
                  refine wpOp_enterW (f := 25) (args := #[.slice A n c, .int .i64 (k : Nat)]) (W' := W) rfl ?_ ?_ (((has_any (HBUr.out.below (hk.below (B := wr.heap.size) (fun k h => h.elim) (Nat.le_refl _))) (k : Int)).mono (fun e w h => by rw [HHA.out] at h; exact h)).mono (fun e w'' h => ?_))
                  · refine wanted_yes (j := 1) (d := 26) ?_ ?_ s1 <;> rfl
                  · go_simp
                  · obtain ⟨he, hbw⟩ := h
                    exact ⟨_, he, hK _ _ (by rw [← hbw]; exact LKeep.refl _ _ _) rfl⟩
                | 5, hoi, hom =>
                  have l1 := haft _ rfl { on := 1, ground := .guard } (by simp) rfl
                  have hv1 : vs 1 = .bool true := hpv 1 l1
                  have s1 : ao.tmps[26]?.getD undef = vs 1 := hU.slot 1 (by decide) l1
                  rw [hv1] at s1
                  have l4 := haft _ rfl { on := 4, ground := .data } (by simp) rfl
                  have hv4 : vs 4 = .bool false := hpv 4 l4
                  have s4 : ao.tmps[29]?.getD undef = vs 4 := hU.slot 4 (by decide) l4
                  rw [hv4] at s4
                  refine wpOp_wanted (v := .bool false) (W' := W) rfl ?_ ?_ (hK _ _ (LKeep.refl _ _ _) rfl)
                  · refine wanted_yes (j := 1) (d := 26) ?_ ?_ s1 <;> rfl
                  go_simp
                | 6, hoi, hom =>
                  have l5 := haft _ rfl { on := 5, ground := .guard } (by simp) rfl
                  have hv5 : vs 5 = .bool false := hpv 5 l5
                  have s5 : ao.tmps[30]?.getD undef = vs 5 := hU.slot 5 (by decide) l5
                  rw [hv5] at s5
                  have z2 : ao.tmps[2]?.getD undef = .pointer (some ⟨w.heap.size, 0, none⟩) := hU.same 2 (by decide)
                  have y0 := (hk.cell (b := w.heap.size) (o := 0) (hz) (fun h => h)).trans (e1)
                  have y1 := (hk.cell (b := w.heap.size) (o := 1) (hz) (fun h => h)).trans (e2)
                  have y2 := (hk.cell (b := w.heap.size) (o := 2) (hz) (fun h => h)).trans (e3)
                  have y3 := (hk.cell (b := w.heap.size) (o := 3) (hz) (fun h => h)).trans (e4)
                  have y4 := (hk.cell (b := w.heap.size) (o := 4) (hz) (fun h => h)).trans (e5)
                  refine wpOp_wanted (v := fileVal f fa) (W' := W) rfl ?_ ?_ (hK _ _ (LKeep.refl _ _ _) rfl)
                  · refine wanted_yes (j := 5) (d := 30) ?_ ?_ s5 <;> rfl
                  go_simp
                | 7, hoi, hom =>
                  have l5 := haft _ rfl { on := 5, ground := .guard } (by simp) rfl
                  have hv5 : vs 5 = .bool false := hpv 5 l5
                  have s5 : ao.tmps[30]?.getD undef = vs 5 := hU.slot 5 (by decide) l5
                  rw [hv5] at s5
                  have z2 : ao.tmps[2]?.getD undef = .pointer (some ⟨w.heap.size, 0, none⟩) := hU.same 2 (by decide)
                  refine wpOp_wanted (v := .pointer (some ⟨w.heap.size, 3, none⟩)) (W' := W) rfl ?_ ?_ (hK _ _ (LKeep.refl _ _ _) rfl)
                  · refine wanted_yes (j := 5) (d := 30) ?_ ?_ s5 <;> rfl
                  go_simp
                | 8, hoi, hom =>
                  have l5 := haft _ rfl { on := 5, ground := .guard } (by simp) rfl
                  have hv5 : vs 5 = .bool false := hpv 5 l5
                  have s5 : ao.tmps[30]?.getD undef = vs 5 := hU.slot 5 (by decide) l5
                  rw [hv5] at s5
                  have l7 := haft _ rfl { on := 7, ground := .data } (by simp) rfl
                  have hv7 : vs 7 = .pointer (some ⟨w.heap.size, 3, none⟩) := hpv 7 l7
                  have s7 : ao.tmps[32]?.getD undef = vs 7 := hU.slot 7 (by decide) l7
                  rw [hv7] at s7
                  have y0 := (hk.cell (b := w.heap.size) (o := 3) (hz) (fun h => h)).trans (HE4.out)
                  refine wpOp_wanted (v := .slice (some ⟨bq, oq, none⟩) f.papers.length fa.c4) (W' := W) rfl ?_ ?_ (hK _ _ (LKeep.refl _ _ _) rfl)
                  · refine wanted_yes (j := 5) (d := 30) ?_ ?_ s5 <;> rfl
                  go_simp
                | 9, hoi, hom =>
                  have l5 := haft _ rfl { on := 5, ground := .guard } (by simp) rfl
                  have hv5 : vs 5 = .bool false := hpv 5 l5
                  have s5 : ao.tmps[30]?.getD undef = vs 5 := hU.slot 5 (by decide) l5
                  rw [hv5] at s5
                  have z9 : ao.tmps[9]?.getD undef = .int .i64 (k : Nat) := hU.same 9 (by decide)
                  refine wpOp_wanted (v := .int .i64 (k : Nat)) (W' := W) rfl ?_ ?_ (hK _ _ (LKeep.refl _ _ _) rfl)
                  · refine wanted_yes (j := 5) (d := 30) ?_ ?_ s5 <;> rfl
                  go_simp
                | 10, hoi, hom =>
                  have l5 := haft _ rfl { on := 5, ground := .guard } (by simp) rfl
                  have hv5 : vs 5 = .bool false := hpv 5 l5
                  have s5 : ao.tmps[30]?.getD undef = vs 5 := hU.slot 5 (by decide) l5
                  rw [hv5] at s5
                  have l8 := haft _ rfl { on := 8, ground := .data } (by simp) rfl
                  have hv8 : vs 8 = .slice (some ⟨bq, oq, none⟩) f.papers.length fa.c4 := hpv 8 l8
                  have s8 : ao.tmps[33]?.getD undef = vs 8 := hU.slot 8 (by decide) l8
                  rw [hv8] at s8
                  have l9 := haft _ rfl { on := 9, ground := .data } (by simp) rfl
                  have hv9 : vs 9 = .int .i64 (k : Nat) := hpv 9 l9
                  have s9 : ao.tmps[34]?.getD undef = vs 9 := hU.slot 9 (by decide) l9
                  rw [hv9] at s9
                  refine wpOp_wanted (v := .pointer (some ⟨bq, oq + k * 3, none⟩)) (W' := W) rfl ?_ ?_ (hK _ _ (LKeep.refl _ _ _) rfl)
                  · refine wanted_yes (j := 5) (d := 30) ?_ ?_ s5 <;> rfl
                  go_simp
                | 11, hoi, hom =>
                  have l5 := haft _ rfl { on := 5, ground := .guard } (by simp) rfl
                  have hv5 : vs 5 = .bool false := hpv 5 l5
                  have s5 : ao.tmps[30]?.getD undef = vs 5 := hU.slot 5 (by decide) l5
                  rw [hv5] at s5
                  have l10 := haft _ rfl { on := 10, ground := .data } (by simp) rfl
                  have hv10 : vs 10 = .pointer (some ⟨bq, oq + k * 3, none⟩) := hpv 10 l10
                  have s10 : ao.tmps[35]?.getD undef = vs 10 := hU.slot 10 (by decide) l10
                  rw [hv10] at s10
                  have y0 := (hk.cell (b := bq) (o := oq + k * 3) (by omega) (fun h => h)).trans (y0)
                  have y1 := (hk.cell (b := bq) (o := oq + k * 3 + 1) (by omega) (fun h => h)).trans (y1)
                  have y2 := (hk.cell (b := bq) (o := oq + k * 3 + 2) (by omega) (fun h => h)).trans (y2)
                  refine wpOp_wanted (v := .agg #[.int .i64 (nth f.papers k).says, .int .i64 (nth f.papers k).lot, .int .i64 (nth f.papers k).of_]) (W' := W) rfl ?_ ?_ (hK _ _ (LKeep.refl _ _ _) rfl)
                  · refine wanted_yes (j := 5) (d := 30) ?_ ?_ s5 <;> rfl
                  go_simp
                | 12, hoi, hom =>
                  have l5 := haft _ rfl { on := 5, ground := .guard } (by simp) rfl
                  have hv5 : vs 5 = .bool false := hpv 5 l5
                  have s5 : ao.tmps[30]?.getD undef = vs 5 := hU.slot 5 (by decide) l5
                  rw [hv5] at s5
                  have z5 : ao.tmps[5]?.getD undef = .slice (some ⟨bg, og, none⟩) G.length cG := hU.same 5 (by decide)
                  refine wpOp_wanted (v := .slice (some ⟨bg, og, none⟩) G.length cG) (W' := W) rfl ?_ ?_ (hK _ _ (LKeep.refl _ _ _) rfl)
                  · refine wanted_yes (j := 5) (d := 30) ?_ ?_ s5 <;> rfl
                  go_simp
                | 13, hoi, hom =>
                  have l5 := haft _ rfl { on := 5, ground := .guard } (by simp) rfl
                  have hv5 : vs 5 = .bool false := hpv 5 l5
                  have s5 : ao.tmps[30]?.getD undef = vs 5 := hU.slot 5 (by decide) l5
                  rw [hv5] at s5
                  have z7 : ao.tmps[7]?.getD undef = .int .i64 (i : Nat) := hU.same 7 (by decide)
                  refine wpOp_wanted (v := .int .i64 (i : Nat)) (W' := W) rfl ?_ ?_ (hK _ _ (LKeep.refl _ _ _) rfl)
                  · refine wanted_yes (j := 5) (d := 30) ?_ ?_ s5 <;> rfl
                  go_simp
                | 14, hoi, hom =>
                  have l5 := haft _ rfl { on := 5, ground := .guard } (by simp) rfl
                  have hv5 : vs 5 = .bool false := hpv 5 l5
                  have s5 : ao.tmps[30]?.getD undef = vs 5 := hU.slot 5 (by decide) l5
                  rw [hv5] at s5
                  have l12 := haft _ rfl { on := 12, ground := .data } (by simp) rfl
                  have hv12 : vs 12 = .slice (some ⟨bg, og, none⟩) G.length cG := hpv 12 l12
                  have s12 : ao.tmps[37]?.getD undef = vs 12 := hU.slot 12 (by decide) l12
                  rw [hv12] at s12
                  have l13 := haft _ rfl { on := 13, ground := .data } (by simp) rfl
                  have hv13 : vs 13 = .int .i64 (i : Nat) := hpv 13 l13
                  have s13 : ao.tmps[38]?.getD undef = vs 13 := hU.slot 13 (by decide) l13
                  rw [hv13] at s13
                  refine wpOp_wanted (v := .pointer (some ⟨bg, og + i, none⟩)) (W' := W) rfl ?_ ?_ (hK _ _ (LKeep.refl _ _ _) rfl)
                  · refine wanted_yes (j := 5) (d := 30) ?_ ?_ s5 <;> rfl
                  go_simp
                | 15, hoi, hom =>
                  have l5 := haft _ rfl { on := 5, ground := .guard } (by simp) rfl
                  have hv5 : vs 5 = .bool false := hpv 5 l5
                  have s5 : ao.tmps[30]?.getD undef = vs 5 := hU.slot 5 (by decide) l5
                  rw [hv5] at s5
                  have l14 := haft _ rfl { on := 14, ground := .data } (by simp) rfl
                  have hv14 : vs 14 = .pointer (some ⟨bg, og + i, none⟩) := hpv 14 l14
                  have s14 : ao.tmps[39]?.getD undef = vs 14 := hU.slot 14 (by decide) l14
                  rw [hv14] at s14
                  have y0 := (hk.cell (b := bg) (o := og + i) (hbgz) (fun h => h)).trans (hgc)
                  refine wpOp_wanted (v := .slice Ag p.length cg) (W' := W) rfl ?_ ?_ (hK _ _ (LKeep.refl _ _ _) rfl)
                  · refine wanted_yes (j := 5) (d := 30) ?_ ?_ s5 <;> rfl
                  go_simp
                | 16, hoi, hom =>
                  have l5 := haft _ rfl { on := 5, ground := .guard } (by simp) rfl
                  have hv5 : vs 5 = .bool false := hpv 5 l5
                  have s5 : ao.tmps[30]?.getD undef = vs 5 := hU.slot 5 (by decide) l5
                  rw [hv5] at s5
                  have l6 := haft _ rfl { on := 6, ground := .data } (by simp) rfl
                  have hv6 : vs 6 = fileVal f fa := hpv 6 l6
                  have s6 : ao.tmps[31]?.getD undef = vs 6 := hU.slot 6 (by decide) l6
                  rw [hv6] at s6
                  have l11 := haft _ rfl { on := 11, ground := .data } (by simp) rfl
                  have hv11 : vs 11 = .agg #[.int .i64 (nth f.papers k).says, .int .i64 (nth f.papers k).lot, .int .i64 (nth f.papers k).of_] := hpv 11 l11
                  have s11 : ao.tmps[36]?.getD undef = vs 11 := hU.slot 11 (by decide) l11
                  rw [hv11] at s11
                  have l15 := haft _ rfl { on := 15, ground := .data } (by simp) rfl
                  have hv15 : vs 15 = .slice Ag p.length cg := hpv 15 l15
                  have s15 : ao.tmps[40]?.getD undef = vs 15 := hU.slot 15 (by decide) l15
                  rw [hv15] at s15
                  refine wpOp_enterW (f := 83) (args := #[fileVal f fa, .agg #[.int .i64 (nth f.papers k).says, .int .i64 (nth f.papers k).lot, .int .i64 (nth f.papers k).of_], .slice Ag p.length cg]) (W' := W) rfl ?_ ?_ (((so7_any (HBXr.out.v.next (hk.below (B := wr.heap.size) (fun k h => h.elim) (Nat.le_refl _))) (HGr.out.next (hk.below (B := wr.heap.size) (fun k h => h.elim) (Nat.le_refl _))) HPG.out (nth f.papers k) ⟨HPO.out.1, HPO.out.2.1, HPO.out.2.2.1, HPO.out.2.2.2.1, fun h => ⟨(HPO.out.2.2.2.2.2 h).1, (HPO.out.2.2.2.2.2 h).2.1⟩⟩).mono (fun e w h => by rw [HSO.out] at h; exact h)).mono (fun e w'' h => ?_))
                  · refine wanted_yes (j := 5) (d := 30) ?_ ?_ s5 <;> rfl
                  · go_simp
                  · obtain ⟨he, hbw⟩ := h
                    exact ⟨_, he, hK _ _ (LKeep.below hbw (fun h => h)) rfl⟩
                | 17, hoi, hom =>
                  have l1 := haft _ rfl { on := 1, ground := .guard } (by simp) rfl
                  have hv1 : vs 1 = .bool true := hpv 1 l1
                  have s1 : ao.tmps[26]?.getD undef = vs 1 := hU.slot 1 (by decide) l1
                  rw [hv1] at s1
                  have l5 := haft _ rfl { on := 5, ground := .data } (by simp) rfl
                  have hv5 : vs 5 = .bool false := hpv 5 l5
                  have s5 : ao.tmps[30]?.getD undef = vs 5 := hU.slot 5 (by decide) l5
                  rw [hv5] at s5
                  have l16 := haft _ rfl { on := 16, ground := .data } (by simp) rfl
                  have hv16 : vs 16 = .bool so := hpv 16 l16
                  have s16 : ao.tmps[41]?.getD undef = vs 16 := hU.slot 16 (by decide) l16
                  rw [hv16] at s16
                  refine wpOp_wanted (v := .bool so) (W' := W) rfl ?_ ?_ (hK _ _ (LKeep.refl _ _ _) rfl)
                  · refine wanted_yes (j := 1) (d := 26) ?_ ?_ s1 <;> rfl
                  go_simp
                | 18, hoi, hom =>
                  have l1 := haft _ rfl { on := 1, ground := .data } (by simp) rfl
                  have hv1 : vs 1 = .bool true := hpv 1 l1
                  have s1 : ao.tmps[26]?.getD undef = vs 1 := hU.slot 1 (by decide) l1
                  rw [hv1] at s1
                  have l17 := haft _ rfl { on := 17, ground := .data } (by simp) rfl
                  have hv17 : vs 17 = .bool so := hpv 17 l17
                  have s17 : ao.tmps[42]?.getD undef = vs 17 := hU.slot 17 (by decide) l17
                  rw [hv17] at s17
                  refine wpOp_value (v := .bool so) (W' := W) rfl rfl ?_ (hK _ _ (LKeep.refl _ _ _) rfl)
                  go_simp
                | oi + 19, hoi, hom => exact absurd (of_decide_eq_true hom) (by omega)
              case hendB =>
                intro listed vs ao W hG hk0 hpv hpre
                have hkk := (LKeep.drew (fun _ => False) (M := fun _ => True) wr (fun h => h)).trans hk0
                have hk := hkk.1
                have hkm := hkk.2
                clear hkk
                have hact := hG.act
                have hT := hG.lst hpre 0 #[true, true, true, true, true, true, true, true, true, true, true, true, true, true, true, true, true, true, true, false] rfl (by kernel_rfl) (hpre 0 (by decide) (by decide))
                rw [hG.ix hT (l := [0, 1, 2, 3, 4, 5, 6, 7, 8, 9, 10, 11, 12, 13, 14, 15, 16, 17, 18]) (by kernel_rfl)] at hact
                rw [hG.lo hT (k := 1) (by kernel_rfl)]
                have hv0 : vs 0 = .bool true := hpv 0 (hpre 0 (by decide) (by decide))
                have hv1 : vs 1 = .bool true := hpv 1 (hpre 1 (by decide) (by decide))
                have hv2 : vs 2 = .slice A n c := hpv 2 (hpre 2 (by decide) (by decide))
                have hv3 : vs 3 = .int .i64 (k : Nat) := hpv 3 (hpre 3 (by decide) (by decide))
                have hv4 : vs 4 = .bool false := hpv 4 (hpre 4 (by decide) (by decide))
                have hv5 : vs 5 = .bool false := hpv 5 (hpre 5 (by decide) (by decide))
                have hv6 : vs 6 = fileVal f fa := hpv 6 (hpre 6 (by decide) (by decide))
                have hv7 : vs 7 = .pointer (some ⟨w.heap.size, 3, none⟩) := hpv 7 (hpre 7 (by decide) (by decide))
                have hv8 : vs 8 = .slice (some ⟨bq, oq, none⟩) f.papers.length fa.c4 := hpv 8 (hpre 8 (by decide) (by decide))
                have hv9 : vs 9 = .int .i64 (k : Nat) := hpv 9 (hpre 9 (by decide) (by decide))
                have hv10 : vs 10 = .pointer (some ⟨bq, oq + k * 3, none⟩) := hpv 10 (hpre 10 (by decide) (by decide))
                have hv11 : vs 11 = .agg #[.int .i64 (nth f.papers k).says, .int .i64 (nth f.papers k).lot, .int .i64 (nth f.papers k).of_] := hpv 11 (hpre 11 (by decide) (by decide))
                have hv12 : vs 12 = .slice (some ⟨bg, og, none⟩) G.length cG := hpv 12 (hpre 12 (by decide) (by decide))
                have hv13 : vs 13 = .int .i64 (i : Nat) := hpv 13 (hpre 13 (by decide) (by decide))
                have hv14 : vs 14 = .pointer (some ⟨bg, og + i, none⟩) := hpv 14 (hpre 14 (by decide) (by decide))
                have hv15 : vs 15 = .slice Ag p.length cg := hpv 15 (hpre 15 (by decide) (by decide))
                have hv16 : vs 16 = .bool so := hpv 16 (hpre 16 (by decide) (by decide))
                have hv17 : vs 17 = .bool so := hpv 17 (hpre 17 (by decide) (by decide))
                have hv18 : vs 18 = .bool so := hpv 18 (hpre 18 (by decide) (by decide))
                clear hpv hpre hG hk0
                obtain rfl : ao = _ := hact
                subst hT
                simp only [setAll, List.setIfInBounds_toArray, List.set_cons_succ, List.set_cons_zero, List.getD_cons_succ, List.getD_cons_zero]
                simp only [hv0, hv1, hv2, hv3, hv4, hv5, hv6, hv7, hv8, hv9, hv10, hv11, hv12, hv13, hv14, hv15, hv16, hv17, hv18]
                clear hv0 hv1 hv2 hv3 hv4 hv5 hv6 hv7 hv8 hv9 hv10 hv11 hv12 hv13 hv14 hv15 hv16 hv17 hv18
                refine wpAny_all (rs := [19]) (by kernel_rfl) (by simp) ?_
                intro i2 hi2
                obtain rfl : i2 = 19 := by simpa using hi2
                refine wpOp_value (v := .bool so) (W' := W) rfl rfl ?_ ?_
                · go_simp
                try simp only [Act.put, List.setIfInBounds_toArray, List.set_cons_zero, List.set_cons_succ]
                refine wpAny_done (by kernel_rfl) ?_ _
                have HBZ := hide (HB2.out.trans ((hk.below (B := wr.heap.size) (fun k h => h.elim) (Nat.le_refl _)).mono hz2))
                clear hk hkm
                go_wp2_with fail
                go_roundw
                case rel => exact ⟨k + 1, by omega, by go_num, by rw [HY.out], HBZ.out⟩
                case measure => simp [intOf]; omega
        · have hnot : ¬ (k : Int) < (f.papers.length : Int) := by omega
          have hkk : k = f.papers.length := by omega
          have HSK := hide (show soTo f but p k = soM f but p by rw [HSM.out, hkk])
          have hOr := HOa.out.below hza hB2
          clear hkk hB2
          cases hsm : soM f but p with
          | false =>
            have HX := hide (show soTo f but p k = false by rw [HSK.out, hsm])
            rw [HX.out]
            have HZ := hide (show (G.take (i + 1)).filter (soM f but) = (G.take i).filter (soM f but) by rw [HFS.out, hsm]; simp)
            clear hsm
            go_wp2_with fail
            go_roundw
            case rel => exact ⟨i + 1, by omega, by go_num, HBw.out, by rw [HZ.out]; exact hOr⟩
            case measure => simp [intOf]; omega
          | true =>
            have HX := hide (show soTo f but p k = true by rw [HSK.out, hsm])
            rw [HX.out]
            have HZ := hide (show (G.take (i + 1)).filter (soM f but) = (G.take i).filter (soM f but) ++ [p] by rw [HFS.out, hsm]; simp)
            clear hsm
            have hgc := (HBw.out.cell (p := ⟨bg, og + i, none⟩) hbg).trans HGC.out
            have hbgz : bg < wr.heap.size := by omega
            have HGr := hide (HGI.out.below HBw.out)
            obtain ⟨vs, ho1, ho2⟩ := hOr
            have hvl : vs.length = ((G.take i).filter (soM f but)).length := by have := ho1.1; omega
            generalize (G.take i).filter (soM f but) = F at *
            have hFl := HFL.out
            go_wp2_with (first
              | (at_builtin
                 refine wpList_append_own _ rfl (.tmp 45) (.tmp 50) _ rfl w1.heap.size 23 i1 (.slice none 0 0) 1 24 Try.underlying89 gi gz0 gz1 gz2 rfl (by decide) _ _ vs rfl (ho1.alloc _) ⟨wr.heap.size, 0, none⟩ 1 1 [.slice Ag p.length cg] rfl rfl ?c1 ?c2 ?c3 ?c4 ?c5 ?_
                 case c1 => exact cell_one_new _ _ _
                 case c2 => simp [Value.oneCell']
                 case c3 => simp only [maxLen]; omega
                 case c4 => omega
                 case c5 => simp; omega
                 intro v' w6 hown6 hg6 _
                 have hbC := app_below (show w1.heap.size ≤ wr.heap.size by omega) ho1 hg6
                 have hOO := OwnRefs.snoc ho2 hvl HGr.out hown6 hbC
                 clear hg6 hown6))
            go_roundw
            case rel => exact ⟨i + 1, by omega, by go_num, HBw.out.trans hbC, by rw [HZ.out]; exact hOO⟩
            case measure => simp [intOf]; omega
    · have hii : i = G.length := by omega
      rw [hii, List.take_length, ← HGM.out] at hO
      obtain ⟨A', c', rfl, hL'⟩ := hO.lists hB.size
      go_wp2_with fail
      go_ret
      exact ⟨A', c', rfl, hL', HB1.out.trans (hB.mono HB1.out.size)⟩
end Go.Proofs.Ytllmahcanipcpaa
