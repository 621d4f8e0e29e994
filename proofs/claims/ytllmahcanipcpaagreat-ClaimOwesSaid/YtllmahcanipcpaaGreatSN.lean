/- The contract of the reference's Open. -/
import Derived.Test.YtllmahcanipcpaaGreatSL
import Derived.OwnWalkIn
import Derived.TacticsInMore
import Derived.Deep.DeepCutAuto
set_option linter.unusedVariables false
set_option linter.unusedSimpArgs false
namespace Go.Proofs.YtllmahcanipcpaaGreat
open Go.RowKit
attribute [local go_sem ↓] Go.wp_at_zero Go.wp_at_succ
attribute [local go_sem] Oper.semAt_some

def openTo7 (f : File) (T : List (List Int)) (j : Nat) : List Nat := (List.range j).filter fun l => T.any fun g => !settlesB f g l
def openR (f : File) : List Nat × Int := if errK f (checkM f).2.2 = 0 then (openTo7 f (truthsM f []) f.lots.length, 0) else ([], errK f (checkM f).2.2)
theorem openTo7_succ (f : File) (T : List (List Int)) (j : Nat) : openTo7 f T (j + 1) = openTo7 f T j ++ if T.any (fun g => !settlesB f g j) then [j] else [] := by
  simp only [openTo7, List.range_succ, List.filter_append, List.filter_cons, List.filter_nil]
theorem openTo7_le (f : File) (T : List (List Int)) (j : Nat) : (openTo7 f T j).length ≤ j := by
  have := List.length_filter_le (fun l : Nat => T.any fun g => !settlesB f g l) (List.range j)
  simpa [openTo7] using this
set_option maxHeartbeats 4000000 in
set_option maxRecDepth 100000 in
theorem open7_any {f : File} {fa : FA} {w : World} (h : FileV w w.heap.size f fa) :
    Calls Tryz.prog 20 #[fileVal f fa] w fun e w' => ∃ A c, e = .returned (.tuple #[.slice A (openR f).1.length c, .int .i64 (openR f).2]) ∧ IntsS w' w'.heap.size A (openR f).1.length c (natInts (openR f).1) ∧ Below w.heap.size w w' := by
  obtain ⟨i0, hi, hz0, hz1, hz2'⟩ := info_parts Tryz.infoInt
  have HBX0 := hide (BoxF.made h)
  have HB0 : Hid (Below w.heap.size w (w.alloc (.cells (fileCells f fa) 28))) := hide ((Below.refl _ _).alloc (Nat.le_refl _) _)
  clear h
  go_enter Tryz.func20, Tryz.ntmps20
  go_upto_region 1 with (fail)
  generalize (w.alloc (.cells (fileCells f fa) 28)) = w0 at *
  obtain ⟨hz, e1, e2, e3, e4, e5⟩ := HBX0.out.cells
  go_upto_region 2 with (go_at_call 51; refine (check7_any HBX0.out.v).mono ?_; rintro e y1 ⟨rfl, hb⟩)
  have HBX1 := hide (HBX0.out.next hb)
  have HB1 := hide (HB0.out.trans (hb.mono HB0.out.size))
  clear hb hz e1 e2 e3 e4 e5
  obtain ⟨hz, e1, e2, e3, e4, e5⟩ := HBX1.out.cells
  go_upto_region 3 with (go_at_call 47; refine (known7_any HBX1.out.v _ valid_of).mono ?_; rintro e y2 ⟨AT, cT, rfl, hL, hb⟩)
  have HBX2 := hide (HBX1.out.next hb)
  have HB2 := hide (HB1.out.trans (hb.mono HB1.out.size))
  have HL2 := hide hL
  clear hb hL hz e1 e2 e3 e4 e5
  have HX := hide (show openR f = if errK f (checkM f).2.2 = 0 then (openTo7 f (truthsM f []) f.lots.length, 0) else ([], errK f (checkM f).2.2) from rfl)
  have HEI := hide (fun (hh : (checkM f).2.2 = 0) => valid_of hh)
  have HEK := hide (fun (hh : errK f (checkM f).2.2 = 0) => errK_zero hh)
  generalize hID : errK f (checkM f).2.2 = er at *
  generalize lstK f (checkM f).2.2 = T at *
  clear hID
  cases he : (er != 0) with
  | true =>
    have hne : ¬ er = 0 := by simpa using he
    have HY := hide (show openR f = ([], er) by rw [HX.out, if_neg hne])
    clear hne
    go_wp2_with fail
    go_ret2
    rw [HY.out]
    exact ⟨_, _, rfl, IntsS.nil_, HB2.out⟩
  | false =>
    have hz' : er = 0 := by simpa using he
    obtain ⟨hE0, hTM, hT0⟩ := HEK.out hz'
    have hv := HEI.out hE0
    subst hTM
    have HY := hide (show openR f = (openTo7 f (truthsM f []) f.lots.length, 0) by rw [HX.out, if_pos hz'])
    subst hz'
    have HV := hide hv
    have HPL := hide (fun g (hg : g ∈ truthsM f []) => truthsM_pl hv hg)
    have hT256 := truthsM_256 hv []
    have HSU := hide (openTo7_succ f (truthsM f []))
    have HLE := hide (openTo7_le f (truthsM f []))
    have hcl := hv.lots
    have HW0 := hide (show openTo7 f (truthsM f []) 0 = [] from rfl)
    clear hE0 hv hT0 HX HEI HEK
    generalize truthsM f [] = T at *
    go_wp2_with fail
    go_loopw [8, 9, 10, 11] (fun v8 v9 _ _ wr => ∃ l : Nat, l ≤ f.lots.length ∧ v9 = .int .i64 l ∧ Below y2.heap.size y2 wr ∧ wr.ownsRow y2.heap.size 3 1 v8 (openTo7 f T l).length ((openTo7 f T l).map fun n : Nat => .int .i64 n)) (fun _ v9 _ _ _ => f.lots.length - (intOf v9).toNat)
    case atStart => exact ⟨0, Nat.zero_le _, rfl, Below.refl _ _, by rw [HW0.out]; exact World.ownsRow_nil _ _ _ _⟩
    case round =>
      obtain ⟨l, hl', rfl, hB, hown⟩ := hrel
      obtain ⟨wa, rfl⟩ : ∃ wa : World, wa = wr := ⟨_, rfl⟩
      have hl0 : (0 : Int) ≤ (l : Int) := Int.natCast_nonneg _
      have HBXa := hide (HBX2.out.next hB)
      obtain ⟨hz, e1, e2, e3, e4, e5⟩ := HBXa.out.cells
      have hza := hB.size
      have HBa := hide hB
      have HOa := hide hown
      clear hB hown
      by_cases hlt : l < f.lots.length
      · have hl1 : (l : Int) < (f.lots.length : Int) := by omega
        have HS := hide (HSU.out l)
        have hle := HLE.out l
        go_wp2_with fail
        go_loopw [10, 11] (fun v10 v11 w2 => ∃ i : Nat, i ≤ T.length ∧ v11 = .int .i64 i ∧ v10 = .bool ((T.take i).any fun g => !settlesB f g l) ∧ Below wa.heap.size wa w2) (fun _ v11 _ => T.length - (intOf v11).toNat)
        case atStart => exact ⟨0, Nat.zero_le _, rfl, by simp, Below.refl _ _⟩
        case round =>
          obtain ⟨i, hi2, rfl, rfl, hB2⟩ := hrel
          have hi0 : (0 : Int) ≤ (i : Int) := Int.natCast_nonneg _
          have hz2 := hB2.size
          have HB2r := hide hB2
          have HBXr := hide (HBXa.out.next hB2)
          obtain ⟨hz, e1, e2, e3, e4, e5⟩ := HBXr.out.cells
          by_cases hlt2 : i < T.length
          · have hi1 : (i : Int) < (T.length : Int) := by omega
            obtain ⟨bg, og, Ag, cg, hAg, hbg, hgc, hgi⟩ := HL2.out.at_ hlt2
            have HBw := hide (HBa.out.trans (hB2.mono hza))
            have hgc := (HBw.out.cell (p := ⟨bg, og + i, none⟩) hbg).trans hgc
            have HGr := hide ((hgi.below HBw.out).more HBw.out.size)
            have hbgz : bg < wr.heap.size := by have := HBw.out.size; omega
            have HPG := hide (HPL.out (nth T i) (by rw [nth_eq hlt2]; exact List.getElem_mem hlt2))
            have HAN := hide (any_take T (fun g => !settlesB f g l) hlt2)
            subst hAg
            clear hB2 hgi
            cases hso : (T.take i).any (fun g => !settlesB f g l) with
            | true =>
              have HZ := hide (show (T.take (i + 1)).any (fun g => !settlesB f g l) = true by rw [HAN.out, hso]; rfl)
              clear hso
              go_wp2_with fail
              go_quiet (fail)
              go_wp2_with fail
              go_roundw
              case rel => exact ⟨i + 1, by omega, by go_num, by rw [HZ.out], below_drewN HB2r.out _⟩
              case measure => simp [intOf]; omega
            | false =>
              have HZ := hide (show (T.take (i + 1)).any (fun g => !settlesB f g l) = !settlesB f (nth T i) l by rw [HAN.out, hso]; rfl)
              clear hso
              generalize nth T i = g at *
              generalize hST : settlesB f g l = st at *
              have HST := hide hST
              clear hST
              go_wp2_with fail
              refine wp_region_rel (dst := fun oi => [40, 41, 42, 43, 44, 45, 46, 47, 48, 49, 50, 0].getD oi 0) (mono := fun oi => decide (oi < 11)) (pre := fun oi => decide (oi < 11)) (R := LKeep (fun _ => False) (fun _ => True))
                (Pv := fun oi v W => match oi with
                  | 0 => v = .bool false
                  | 1 => v = .bool false
                  | 2 => v = fileVal f fa
                  | 3 => v = .int .i64 (l : Nat)
                  | 4 => v = .slice (some ⟨bg, og, none⟩) T.length cT
                  | 5 => v = .int .i64 (i : Nat)
                  | 6 => v = .pointer (some ⟨bg, og + i, none⟩)
                  | 7 => v = .slice Ag g.length cg
                  | 8 => v = .bool st
                  | 9 => v = .bool (!st)
                  | 10 => v = .bool (!st)
                  | _ => True) (by kernel_rfl) (by kernel_rfl) (LKeep.refl _ _) (fun _ _ _ h h' => h.trans h') ?hstB ?hstepB ?hendB
              case hstB =>
                intro oi v W W' h hk
                match oi, h with
                | 0, h => exact h
                | 1, h => exact h
                | 2, h => exact h
                | 3, h => exact h
                | 4, h => exact h
                | 5, h => exact h
                | 6, h => exact h
                | 7, h => exact h
                | 8, h => exact h
                | 9, h => exact h
                | 10, h => exact h
                | oi + 11, h => exact trivial
              case hstepB =>
                intro oi hoi hom listed vs ao W hU hk0 hpv haft Ko hK
                have hkk := (LKeep.drew (fun _ => False) (M := fun _ => True) wr (fun h => h)).trans hk0
                have hk := hkk.1
                have hkm := hkk.2
                clear hkk
                match oi, hoi, hom with
                | 0, hoi, hom =>
                  have z10 : ao.tmps[10]?.getD undef = .bool false := hU.same 10 (by decide)
                  refine wpOp_value (v := .bool false) (W' := W) rfl rfl ?_ (hK _ _ (LKeep.refl _ _ _) rfl)
                  go_simp
                | 1, hoi, hom =>
                  have l0 := haft _ rfl { on := 0, ground := .data } (by simp) rfl
                  have hv0 : vs 0 = .bool false := hpv 0 l0
                  have s0 : ao.tmps[40]?.getD undef = vs 0 := hU.slot 0 (by decide) l0
                  rw [hv0] at s0
                  refine wpOp_value (v := .bool false) (W' := W) rfl rfl ?_ (hK _ _ (LKeep.refl _ _ _) rfl)
                  go_simp
                | 2, hoi, hom =>
                  have l1 := haft _ rfl { on := 1, ground := .guard } (by simp) rfl
                  have hv1 : vs 1 = .bool false := hpv 1 l1
                  have s1 : ao.tmps[41]?.getD undef = vs 1 := hU.slot 1 (by decide) l1
                  rw [hv1] at s1
                  have z1 : ao.tmps[1]?.getD undef = .pointer (some ⟨w.heap.size, 0, none⟩) := hU.same 1 (by decide)
                  have y0 := (hk.cell (b := w.heap.size) (o := 0) (hz) (fun h => h)).trans (e1)
                  have y1 := (hk.cell (b := w.heap.size) (o := 1) (hz) (fun h => h)).trans (e2)
                  have y2 := (hk.cell (b := w.heap.size) (o := 2) (hz) (fun h => h)).trans (e3)
                  have y3 := (hk.cell (b := w.heap.size) (o := 3) (hz) (fun h => h)).trans (e4)
                  have y4 := (hk.cell (b := w.heap.size) (o := 4) (hz) (fun h => h)).trans (e5)
                  refine wpOp_wanted (v := fileVal f fa) (W' := W) rfl ?_ ?_ (hK _ _ (LKeep.refl _ _ _) rfl)
                  · refine wanted_yes (j := 1) (d := 41) ?_ ?_ s1 <;> rfl
                  go_simp
                | 3, hoi, hom =>
                  have l1 := haft _ rfl { on := 1, ground := .guard } (by simp) rfl
                  have hv1 : vs 1 = .bool false := hpv 1 l1
                  have s1 : ao.tmps[41]?.getD undef = vs 1 := hU.slot 1 (by decide) l1
                  rw [hv1] at s1
                  have z9 : ao.tmps[9]?.getD undef = .int .i64 (l : Nat) := hU.same 9 (by decide)
                  refine wpOp_wanted (v := .int .i64 (l : Nat)) (W' := W) rfl ?_ ?_ (hK _ _ (LKeep.refl _ _ _) rfl)
                  · refine wanted_yes (j := 1) (d := 41) ?_ ?_ s1 <;> rfl
                  go_simp
                | 4, hoi, hom =>
                  have l1 := haft _ rfl { on := 1, ground := .guard } (by simp) rfl
                  have hv1 : vs 1 = .bool false := hpv 1 l1
                  have s1 : ao.tmps[41]?.getD undef = vs 1 := hU.slot 1 (by decide) l1
                  rw [hv1] at s1
                  have z7 : ao.tmps[7]?.getD undef = .slice (some ⟨bg, og, none⟩) T.length cT := hU.same 7 (by decide)
                  refine wpOp_wanted (v := .slice (some ⟨bg, og, none⟩) T.length cT) (W' := W) rfl ?_ ?_ (hK _ _ (LKeep.refl _ _ _) rfl)
                  · refine wanted_yes (j := 1) (d := 41) ?_ ?_ s1 <;> rfl
                  go_simp
                | 5, hoi, hom =>
                  have l1 := haft _ rfl { on := 1, ground := .guard } (by simp) rfl
                  have hv1 : vs 1 = .bool false := hpv 1 l1
                  have s1 : ao.tmps[41]?.getD undef = vs 1 := hU.slot 1 (by decide) l1
                  rw [hv1] at s1
                  have z11 : ao.tmps[11]?.getD undef = .int .i64 (i : Nat) := hU.same 11 (by decide)
                  refine wpOp_wanted (v := .int .i64 (i : Nat)) (W' := W) rfl ?_ ?_ (hK _ _ (LKeep.refl _ _ _) rfl)
                  · refine wanted_yes (j := 1) (d := 41) ?_ ?_ s1 <;> rfl
                  go_simp
                | 6, hoi, hom =>
                  have l1 := haft _ rfl { on := 1, ground := .guard } (by simp) rfl
                  have hv1 : vs 1 = .bool false := hpv 1 l1
                  have s1 : ao.tmps[41]?.getD undef = vs 1 := hU.slot 1 (by decide) l1
                  rw [hv1] at s1
                  have l4 := haft _ rfl { on := 4, ground := .data } (by simp) rfl
                  have hv4 : vs 4 = .slice (some ⟨bg, og, none⟩) T.length cT := hpv 4 l4
                  have s4 : ao.tmps[44]?.getD undef = vs 4 := hU.slot 4 (by decide) l4
                  rw [hv4] at s4
                  have l5 := haft _ rfl { on := 5, ground := .data } (by simp) rfl
                  have hv5 : vs 5 = .int .i64 (i : Nat) := hpv 5 l5
                  have s5 : ao.tmps[45]?.getD undef = vs 5 := hU.slot 5 (by decide) l5
                  rw [hv5] at s5
                  refine wpOp_wanted (v := .pointer (some ⟨bg, og + i, none⟩)) (W' := W) rfl ?_ ?_ (hK _ _ (LKeep.refl _ _ _) rfl)
                  · refine wanted_yes (j := 1) (d := 41) ?_ ?_ s1 <;> rfl
                  go_simp
                | 7, hoi, hom =>
                  have l1 := haft _ rfl { on := 1, ground := .guard } (by simp) rfl
                  have hv1 : vs 1 = .bool false := hpv 1 l1
                  have s1 : ao.tmps[41]?.getD undef = vs 1 := hU.slot 1 (by decide) l1
                  rw [hv1] at s1
                  have l6 := haft _ rfl { on := 6, ground := .data } (by simp) rfl
                  have hv6 : vs 6 = .pointer (some ⟨bg, og + i, none⟩) := hpv 6 l6
                  have s6 : ao.tmps[46]?.getD undef = vs 6 := hU.slot 6 (by decide) l6
                  rw [hv6] at s6
                  have y0 := (hk.cell (b := bg) (o := og + i) (hbgz) (fun h => h)).trans (hgc)
                  refine wpOp_wanted (v := .slice Ag g.length cg) (W' := W) rfl ?_ ?_ (hK _ _ (LKeep.refl _ _ _) rfl)
                  · refine wanted_yes (j := 1) (d := 41) ?_ ?_ s1 <;> rfl
                  go_simp
                | 8, hoi, hom =>
                  have l1 := haft _ rfl { on := 1, ground := .guard } (by simp) rfl
                  have hv1 : vs 1 = .bool false := hpv 1 l1
                  have s1 : ao.tmps[41]?.getD undef = vs 1 := hU.slot 1 (by decide) l1
                  rw [hv1] at s1
                  have l2 := haft _ rfl { on := 2, ground := .data } (by simp) rfl
                  have hv2 : vs 2 = fileVal f fa := hpv 2 l2
                  have s2 : ao.tmps[42]?.getD undef = vs 2 := hU.slot 2 (by decide) l2
                  rw [hv2] at s2
                  have l3 := haft _ rfl { on := 3, ground := .data } (by simp) rfl
                  have hv3 : vs 3 = .int .i64 (l : Nat) := hpv 3 l3
                  have s3 : ao.tmps[43]?.getD undef = vs 3 := hU.slot 3 (by decide) l3
                  rw [hv3] at s3
                  have l7 := haft _ rfl { on := 7, ground := .data } (by simp) rfl
                  have hv7 : vs 7 = .slice Ag g.length cg := hpv 7 l7
                  have s7 : ao.tmps[47]?.getD undef = vs 7 := hU.slot 7 (by decide) l7
                  rw [hv7] at s7
                  refine wpOp_enterW (f := 30) (args := #[fileVal f fa, .int .i64 (l : Nat), .slice Ag g.length cg]) (W' := W) rfl ?_ ?_ (((settles7_any (HBXr.out.v.next (hk.below (B := wr.heap.size) (fun k h => h.elim) (Nat.le_refl _))) HV.out.fair (HGr.out.next (hk.below (B := wr.heap.size) (fun k h => h.elim) (Nat.le_refl _))) HPG.out (l : Int)).mono (fun e w h => by rw [HST.out] at h; exact h)).mono (fun e w'' h => ?_))
                  · refine wanted_yes (j := 1) (d := 41) ?_ ?_ s1 <;> rfl
                  · go_simp
                  · obtain ⟨he, hbw⟩ := h
                    exact ⟨_, he, hK _ _ (LKeep.below hbw (fun h => h)) rfl⟩
                | 9, hoi, hom =>
                  have l1 := haft _ rfl { on := 1, ground := .guard } (by simp) rfl
                  have hv1 : vs 1 = .bool false := hpv 1 l1
                  have s1 : ao.tmps[41]?.getD undef = vs 1 := hU.slot 1 (by decide) l1
                  rw [hv1] at s1
                  have l8 := haft _ rfl { on := 8, ground := .data } (by simp) rfl
                  have hv8 : vs 8 = .bool st := hpv 8 l8
                  have s8 : ao.tmps[48]?.getD undef = vs 8 := hU.slot 8 (by decide) l8
                  rw [hv8] at s8
                  refine wpOp_wanted (v := .bool (!st)) (W' := W) rfl ?_ ?_ (hK _ _ (LKeep.refl _ _ _) rfl)
                  · refine wanted_yes (j := 1) (d := 41) ?_ ?_ s1 <;> rfl
                  go_simp
                | 10, hoi, hom =>
                  have l1 := haft _ rfl { on := 1, ground := .data } (by simp) rfl
                  have hv1 : vs 1 = .bool false := hpv 1 l1
                  have s1 : ao.tmps[41]?.getD undef = vs 1 := hU.slot 1 (by decide) l1
                  rw [hv1] at s1
                  have l9 := haft _ rfl { on := 9, ground := .data } (by simp) rfl
                  have hv9 : vs 9 = .bool (!st) := hpv 9 l9
                  have s9 : ao.tmps[49]?.getD undef = vs 9 := hU.slot 9 (by decide) l9
                  rw [hv9] at s9
                  refine wpOp_value (v := .bool (!st)) (W' := W) rfl rfl ?_ (hK _ _ (LKeep.refl _ _ _) rfl)
                  go_simp
                | oi + 11, hoi, hom => exact absurd (of_decide_eq_true hom) (by omega)
              case hendB =>
                intro listed vs ao W hG hk0 hpv hpre
                have hkk := (LKeep.drew (fun _ => False) (M := fun _ => True) wr (fun h => h)).trans hk0
                have hk := hkk.1
                have hkm := hkk.2
                clear hkk
                have hact := hG.act
                have hT := hG.lst hpre 0 #[true, true, true, true, true, true, true, true, true, true, true, false] rfl (by kernel_rfl) (hpre 0 (by decide) (by decide))
                rw [hG.ix hT (l := [0, 1, 2, 3, 4, 5, 6, 7, 8, 9, 10]) (by kernel_rfl)] at hact
                rw [hG.lo hT (k := 1) (by kernel_rfl)]
                have hv0 : vs 0 = .bool false := hpv 0 (hpre 0 (by decide) (by decide))
                have hv1 : vs 1 = .bool false := hpv 1 (hpre 1 (by decide) (by decide))
                have hv2 : vs 2 = fileVal f fa := hpv 2 (hpre 2 (by decide) (by decide))
                have hv3 : vs 3 = .int .i64 (l : Nat) := hpv 3 (hpre 3 (by decide) (by decide))
                have hv4 : vs 4 = .slice (some ⟨bg, og, none⟩) T.length cT := hpv 4 (hpre 4 (by decide) (by decide))
                have hv5 : vs 5 = .int .i64 (i : Nat) := hpv 5 (hpre 5 (by decide) (by decide))
                have hv6 : vs 6 = .pointer (some ⟨bg, og + i, none⟩) := hpv 6 (hpre 6 (by decide) (by decide))
                have hv7 : vs 7 = .slice Ag g.length cg := hpv 7 (hpre 7 (by decide) (by decide))
                have hv8 : vs 8 = .bool st := hpv 8 (hpre 8 (by decide) (by decide))
                have hv9 : vs 9 = .bool (!st) := hpv 9 (hpre 9 (by decide) (by decide))
                have hv10 : vs 10 = .bool (!st) := hpv 10 (hpre 10 (by decide) (by decide))
                clear hpv hpre hG hk0
                obtain rfl : ao = _ := hact
                subst hT
                simp only [setAll, List.setIfInBounds_toArray, List.set_cons_succ, List.set_cons_zero, List.getD_cons_succ, List.getD_cons_zero]
                simp only [hv0, hv1, hv2, hv3, hv4, hv5, hv6, hv7, hv8, hv9, hv10]
                clear hv0 hv1 hv2 hv3 hv4 hv5 hv6 hv7 hv8 hv9 hv10
                refine wpAny_all (rs := [11]) (by kernel_rfl) (by simp) ?_
                intro i2 hi2
                obtain rfl : i2 = 11 := by simpa using hi2
                refine wpOp_valueD (v := .bool (!st)) (W' := W) (d := 10) rfl rfl rfl ?_ ?_
                · go_simp
                try simp only [Act.put, List.setIfInBounds_toArray, List.set_cons_zero, List.set_cons_succ]
                refine wpAny_done (by kernel_rfl) ?_ _
                have HBZ2 := hide (HB2r.out.trans ((hk.below (B := wr.heap.size) (fun k h => h.elim) (Nat.le_refl _)).mono hz2))
                clear hk hkm
                go_wp2_with fail
                go_roundw
                case rel => exact ⟨i + 1, by omega, by go_num, by rw [HZ.out], HBZ2.out⟩
                case measure => simp [intOf]; omega
          · have hii : i = T.length := by omega
            have HAL := hide (show (T.take i).any (fun g => !settlesB f g l) = T.any (fun g => !settlesB f g l) by rw [hii, List.take_length])
            have hown := own_below HOa.out hB2
            clear hii hB2
            have HBw := hide (HBa.out.trans (HB2r.out.mono hza))
            have hzr := HBw.out.size
            rw [HAL.out]
            cases han : T.any (fun g => !settlesB f g l) with
            | true =>
              have HS2 := hide (show openTo7 f T (l + 1) = openTo7 f T l ++ [l] by rw [HS.out, han]; rfl)
              clear han
              go_wp2_with (first
                | (at_builtin
                   refine wpList_append_own _ rfl _ _ 23 rfl y2.heap.size 3 i0 (.int .i64 0) 1 8 Tryz.underlying23 hi hz0 hz1 hz2' rfl (by decide) _ _ _ rfl (hown.alloc _) ⟨wr.heap.size, 0, none⟩ 1 1 [.int .i64 l] rfl rfl ?c1 ?c2 ?c3 ?c4 ?c5 ?_
                   case c1 => exact cell_one_new _ _ _
                   case c2 => simp [Value.oneCell']
                   case c3 => simp [maxLen]; omega
                   case c4 => omega
                   case c5 => simp; omega
                   intro v' w4 hown' hg _
                   have hb4 := app_below (show y2.heap.size ≤ wr.heap.size by omega) hown hg
                   clear hg))
              go_roundw
              case rel => exact ⟨l + 1, by omega, by go_num, HBw.out.trans hb4, by rw [HS2.out]; simpa using hown'⟩
              case measure => simp [intOf]; omega
            | false =>
              have HS2 := hide (show openTo7 f T (l + 1) = openTo7 f T l by rw [HS.out, han]; simp)
              clear han
              go_wp2_with fail
              go_roundw
              case rel => exact ⟨l + 1, by omega, by go_num, HBw.out, by rw [HS2.out]; exact hown⟩
              case measure => simp [intOf]; omega
      · have hpp : l = f.lots.length := by omega
        have hown := HOa.out
        rw [hpp] at hown
        clear hpp
        obtain ⟨A', c', rfl, hs⟩ := IntsS.of_own (xs := natInts (openTo7 f T f.lots.length)) (by rw [natInts_vals]; exact hown)
        go_wp2
        go_ret2
        rw [HY.out]
        exact ret_lst rfl hs (HB2.out.trans (HBa.out.mono HB2.out.size))
end Go.Proofs.YtllmahcanipcpaaGreat
