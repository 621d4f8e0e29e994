/- The contract of the reference's Who. -/
import Derived.Test.YtllmahcanipcpaaSF
import Derived.OwnWalkIn
import Derived.TacticsInMore
import Derived.Deep.DeepCutAuto
set_option linter.unusedVariables false
set_option linter.unusedSimpArgs false
namespace Go.Proofs.Ytllmahcanipcpaa
open Go.RowKit
attribute [local go_sem ↓] Go.wp_at_zero Go.wp_at_succ
attribute [local go_sem] Oper.semAt_some

/-- The parties with which a lot turned in some truth. -/
def whoTo (f : File) (l : Nat) (j : Nat) : List Nat := (List.range j).filter fun p => (truthsM f []).any fun g => withM f g l == (p : Int)
def whoR (f : File) (l : Int) : List Nat × Int := if errK f (indexM f l f.lots.length) = 0 then (whoTo f l.toNat f.parties.length, 0) else ([], errK f (indexM f l f.lots.length))
theorem whoTo_succ (f : File) (l j : Nat) : whoTo f l (j + 1) = whoTo f l j ++ if (truthsM f []).any (fun g => withM f g l == (j : Int)) then [j] else [] := by
  simp only [whoTo, List.range_succ, List.filter_append, List.filter_cons, List.filter_nil]
theorem whoTo_le (f : File) (l j : Nat) : (whoTo f l j).length ≤ j := by
  have := List.length_filter_le (fun p : Nat => (truthsM f []).any fun g => withM f g l == (p : Int)) (List.range j)
  simpa [whoTo] using this
theorem any_take {α : Type} [Inhabited α] (G : List α) (q : α → Bool) {i : Nat} (hi : i < G.length) : (G.take (i + 1)).any q = ((G.take i).any q || q (nth G i)) := by
  rw [take_nth hi]; simp
theorem truthsM_pl {f : File} (hv : Valid f) {but g : List Int} (hg : g ∈ truthsM f but) : Pl f g := allP_pl hv (List.mem_filter.1 hg).1
theorem truthsM_256 {f : File} (hv : Valid f) (but : List Int) : (truthsM f but).length ≤ 256 := Nat.le_trans (List.length_filter_le _ _) (allP_256 hv)
theorem ret_lst {w1 : World} {A : Option Addr} {n c : Nat} {e : Int} {l : List Nat} {P : Prop} (hl : n = l.length) (hs : IntsS w1 w1.heap.size A n c (natInts l)) (hp : P) :
    ∃ A' c', Ending.returned (.tuple #[.slice A n c, .int .i64 e]) = .returned (.tuple #[.slice A' l.length c', .int .i64 e]) ∧ IntsS w1 w1.heap.size A' l.length c' (natInts l) ∧ P := by
  subst hl; exact ⟨A, c, rfl, hs, hp⟩
set_option maxHeartbeats 4000000 in
set_option maxRecDepth 100000 in
theorem who7_any {f : File} {fa : FA} {w : World} (h : FileV w w.heap.size f fa) (l : Int) :
    Calls Try.prog 11 #[fileVal f fa, .int .i64 l] w fun e w' => ∃ A c, e = .returned (.tuple #[.slice A (whoR f l).1.length c, .int .i64 (whoR f l).2]) ∧ IntsS w' w'.heap.size A (whoR f l).1.length c (natInts (whoR f l).1) ∧ Below w.heap.size w w' := by
  obtain ⟨i0, hi, hz0, hz1, hz2'⟩ := info_parts Try.infoInt
  have HBX0 := hide (BoxF.made h)
  have HB0 : Hid (Below w.heap.size w (w.alloc (.cells (fileCells f fa) 28))) := hide ((Below.refl _ _).alloc (Nat.le_refl _) _)
  have hm3 := h.m3
  have hm1 := h.m1
  unfold maxLen at hm3 hm1
  have HLB := hide (show (0 : Int) ≤ (f.lots.length : Nat) ∧ ((f.lots.length : Nat) : Int) ≤ 9223372036854775807 by omega)
  clear h
  go_enter Try.func11, Try.ntmps11
  go_upto_region 1 with (fail)
  generalize (w.alloc (.cells (fileCells f fa) 28)) = w0 at *
  obtain ⟨hz, e1, e2, e3, e4, e5⟩ := HBX0.out.cells
  refine wp_region_rel (dst := fun oi => [13, 14, 15, 16, 17, 18, 19, 20, 12, 21, 22, 6, 7].getD oi 0) (mono := fun oi => decide (oi < 13)) (pre := fun oi => decide (oi < 13)) (R := LKeep (fun _ => False) (fun _ => True))
    (Pv := fun oi v W => match oi with
      | 0 => v = fileVal f fa
      | 1 => v = fileVal f fa
      | 2 => v = .int .i64 l
      | 3 => v = .pointer (some ⟨w.heap.size, 2, none⟩)
      | 4 => v = .slice fa.A3 f.lots.length fa.c3
      | 5 => v = .int .i64 (f.lots.length : Nat)
      | 6 => v = .int .i64 (indexM f l (f.lots.length : Nat))
      | 7 => ∃ gl cp, v = .tuple #[.slice gl (lstK f (indexM f l f.lots.length)).length cp, .int .i64 (errK f (indexM f l f.lots.length))] ∧ ListsS W W.heap.size gl (lstK f (indexM f l f.lots.length)).length cp (lstK f (indexM f l f.lots.length))
      | 8 => ∃ gl cp, v = .tuple #[.slice gl (lstK f (indexM f l f.lots.length)).length cp, .int .i64 (errK f (indexM f l f.lots.length))] ∧ ListsS W W.heap.size gl (lstK f (indexM f l f.lots.length)).length cp (lstK f (indexM f l f.lots.length))
      | 9 => ∃ gl cp, v = .slice gl (lstK f (indexM f l f.lots.length)).length cp ∧ ListsS W W.heap.size gl (lstK f (indexM f l f.lots.length)).length cp (lstK f (indexM f l f.lots.length))
      | 10 => v = .int .i64 (errK f (indexM f l f.lots.length))
      | 11 => ∃ gl cp, v = .slice gl (lstK f (indexM f l f.lots.length)).length cp ∧ ListsS W W.heap.size gl (lstK f (indexM f l f.lots.length)).length cp (lstK f (indexM f l f.lots.length))
      | 12 => v = .int .i64 (errK f (indexM f l f.lots.length))
      | _ => True) (by kernel_rfl) (by kernel_rfl) (LKeep.refl _ _) (fun _ _ _ h h' => h.trans h') ?hst ?hstep ?hend
  case hst =>
    intro oi v W W' h hk
    match oi, h with
    | 0, h => exact h
    | 1, h => exact h
    | 2, h => exact h
    | 3, h => exact h
    | 4, h => exact h
    | 5, h => exact h
    | 6, h => exact h
    | 7, h => obtain ⟨gl, cp, h1, h2⟩ := h; exact ⟨gl, cp, h1, h2.next (hk.1.below (B := W.heap.size) (fun k h => h.elim) (Nat.le_refl _))⟩
    | 8, h => obtain ⟨gl, cp, h1, h2⟩ := h; exact ⟨gl, cp, h1, h2.next (hk.1.below (B := W.heap.size) (fun k h => h.elim) (Nat.le_refl _))⟩
    | 9, h => obtain ⟨gl, cp, h1, h2⟩ := h; exact ⟨gl, cp, h1, h2.next (hk.1.below (B := W.heap.size) (fun k h => h.elim) (Nat.le_refl _))⟩
    | 10, h => exact h
    | 11, h => obtain ⟨gl, cp, h1, h2⟩ := h; exact ⟨gl, cp, h1, h2.next (hk.1.below (B := W.heap.size) (fun k h => h.elim) (Nat.le_refl _))⟩
    | 12, h => exact h
    | oi + 13, h => exact trivial
  case hstep =>
    intro oi hoi hom listed vs ao W hU hk0 hpv haft Ko hK
    have hkk := (LKeep.drew (fun _ => False) (M := fun _ => True) w0 (fun h => h)).trans hk0
    have hk := hkk.1
    have hkm := hkk.2
    clear hkk
    match oi, hoi, hom with
    | 0, hoi, hom =>
      have z2 : ao.tmps[2]?.getD undef = .pointer (some ⟨w.heap.size, 0, none⟩) := hU.same 2 (by decide)
      have y0 := (hk.cell (b := w.heap.size) (o := 0) (hz) (fun h => h)).trans (e1)
      have y1 := (hk.cell (b := w.heap.size) (o := 1) (hz) (fun h => h)).trans (e2)
      have y2 := (hk.cell (b := w.heap.size) (o := 2) (hz) (fun h => h)).trans (e3)
      have y3 := (hk.cell (b := w.heap.size) (o := 3) (hz) (fun h => h)).trans (e4)
      have y4 := (hk.cell (b := w.heap.size) (o := 4) (hz) (fun h => h)).trans (e5)
      refine wpOp_value (v := fileVal f fa) (W' := W) rfl rfl ?_ (hK _ _ (LKeep.refl _ _ _) rfl)
      go_simp
    | 1, hoi, hom =>
      have z2 : ao.tmps[2]?.getD undef = .pointer (some ⟨w.heap.size, 0, none⟩) := hU.same 2 (by decide)
      have y0 := (hk.cell (b := w.heap.size) (o := 0) (hz) (fun h => h)).trans (e1)
      have y1 := (hk.cell (b := w.heap.size) (o := 1) (hz) (fun h => h)).trans (e2)
      have y2 := (hk.cell (b := w.heap.size) (o := 2) (hz) (fun h => h)).trans (e3)
      have y3 := (hk.cell (b := w.heap.size) (o := 3) (hz) (fun h => h)).trans (e4)
      have y4 := (hk.cell (b := w.heap.size) (o := 4) (hz) (fun h => h)).trans (e5)
      refine wpOp_value (v := fileVal f fa) (W' := W) rfl rfl ?_ (hK _ _ (LKeep.refl _ _ _) rfl)
      go_simp
    | 2, hoi, hom =>
      have z1 : ao.tmps[1]?.getD undef = .int .i64 l := hU.same 1 (by decide)
      refine wpOp_value (v := .int .i64 l) (W' := W) rfl rfl ?_ (hK _ _ (LKeep.refl _ _ _) rfl)
      go_simp
    | 3, hoi, hom =>
      have z2 : ao.tmps[2]?.getD undef = .pointer (some ⟨w.heap.size, 0, none⟩) := hU.same 2 (by decide)
      refine wpOp_value (v := .pointer (some ⟨w.heap.size, 2, none⟩)) (W' := W) rfl rfl ?_ (hK _ _ (LKeep.refl _ _ _) rfl)
      go_simp
    | 4, hoi, hom =>
      have l3 := haft _ rfl { on := 3, ground := .data } (by simp) rfl
      have hv3 : vs 3 = .pointer (some ⟨w.heap.size, 2, none⟩) := hpv 3 l3
      have s3 : ao.tmps[16]?.getD undef = vs 3 := hU.slot 3 (by decide) l3
      rw [hv3] at s3
      have y0 := (hk.cell (b := w.heap.size) (o := 2) (hz) (fun h => h)).trans (e3)
      refine wpOp_value (v := .slice fa.A3 f.lots.length fa.c3) (W' := W) rfl rfl ?_ (hK _ _ (LKeep.refl _ _ _) rfl)
      go_simp
    | 5, hoi, hom =>
      have l4 := haft _ rfl { on := 4, ground := .data } (by simp) rfl
      have hv4 : vs 4 = .slice fa.A3 f.lots.length fa.c3 := hpv 4 l4
      have s4 : ao.tmps[17]?.getD undef = vs 4 := hU.slot 4 (by decide) l4
      rw [hv4] at s4
      refine wpOp_value (v := .int .i64 (f.lots.length : Nat)) (W' := W) rfl rfl ?_ (hK _ _ (LKeep.refl _ _ _) rfl)
      go_simp
    | 6, hoi, hom =>
      have l1 := haft _ rfl { on := 1, ground := .data } (by simp) rfl
      have hv1 : vs 1 = fileVal f fa := hpv 1 l1
      have s1 : ao.tmps[14]?.getD undef = vs 1 := hU.slot 1 (by decide) l1
      rw [hv1] at s1
      have l2 := haft _ rfl { on := 2, ground := .data } (by simp) rfl
      have hv2 : vs 2 = .int .i64 l := hpv 2 l2
      have s2 : ao.tmps[15]?.getD undef = vs 2 := hU.slot 2 (by decide) l2
      rw [hv2] at s2
      have l5 := haft _ rfl { on := 5, ground := .data } (by simp) rfl
      have hv5 : vs 5 = .int .i64 (f.lots.length : Nat) := hpv 5 l5
      have s5 : ao.tmps[18]?.getD undef = vs 5 := hU.slot 5 (by decide) l5
      rw [hv5] at s5
      refine wpOp_enter (f := 53) (args := #[fileVal f fa, .int .i64 l, .int .i64 ((f.lots.length : Nat))]) (W' := W) rfl rfl ?_ ((index7_any (HBX0.out.v.next (hk.below (B := w0.heap.size) (fun k h => h.elim) (Nat.le_refl _))) l (f.lots.length : Nat) HLB.out).mono (fun e w'' h => ?_))
      · go_simp
      · obtain ⟨he, hbw⟩ := h
        exact ⟨_, he, hK _ _ (LKeep.below hbw (fun h => h)) rfl⟩
    | 7, hoi, hom =>
      have l0 := haft _ rfl { on := 0, ground := .data } (by simp) rfl
      have hv0 : vs 0 = fileVal f fa := hpv 0 l0
      have s0 : ao.tmps[13]?.getD undef = vs 0 := hU.slot 0 (by decide) l0
      rw [hv0] at s0
      have l6 := haft _ rfl { on := 6, ground := .data } (by simp) rfl
      have hv6 : vs 6 = .int .i64 (indexM f l (f.lots.length : Nat)) := hpv 6 l6
      have s6 : ao.tmps[19]?.getD undef = vs 6 := hU.slot 6 (by decide) l6
      rw [hv6] at s6
      refine wpOp_enter (f := 52) (args := #[fileVal f fa, .int .i64 (indexM f l f.lots.length)]) (W' := W) rfl rfl ?_ ((known7_any (HBX0.out.v.next (hk.below (B := w0.heap.size) (fun k h => h.elim) (Nat.le_refl _))) _ index_valid).mono (fun e w'' h => ?_))
      · go_simp
      · obtain ⟨gl7, cp7, he, hi7, hbw⟩ := h
        exact ⟨_, he, hK _ _ (LKeep.below hbw (fun h => h)) ⟨_, _, rfl, hi7⟩⟩
    | 8, hoi, hom =>
      have l7 := haft _ rfl { on := 7, ground := .data } (by simp) rfl
      obtain ⟨gl7, cp7, hv7, hi7⟩ := hpv 7 l7
      have s7 : ao.tmps[20]?.getD undef = vs 7 := hU.slot 7 (by decide) l7
      rw [hv7] at s7
      refine wpOp_value (v := .tuple #[.slice gl7 (lstK f (indexM f l f.lots.length)).length cp7, .int .i64 (errK f (indexM f l f.lots.length))]) (W' := W) rfl rfl ?_ (hK _ _ (LKeep.refl _ _ _) ⟨_, _, rfl, hi7⟩)
      go_simp
    | 9, hoi, hom =>
      have l8 := haft _ rfl { on := 8, ground := .data } (by simp) rfl
      obtain ⟨gl8, cp8, hv8, hi8⟩ := hpv 8 l8
      have s8 : ao.tmps[12]?.getD undef = vs 8 := hU.slot 8 (by decide) l8
      rw [hv8] at s8
      refine wpOp_value (v := .slice gl8 (lstK f (indexM f l f.lots.length)).length cp8) (W' := W) rfl rfl ?_ (hK _ _ (LKeep.refl _ _ _) ⟨_, _, rfl, hi8⟩)
      go_simp
    | 10, hoi, hom =>
      have l8 := haft _ rfl { on := 8, ground := .data } (by simp) rfl
      obtain ⟨gl8, cp8, hv8, hi8⟩ := hpv 8 l8
      have s8 : ao.tmps[12]?.getD undef = vs 8 := hU.slot 8 (by decide) l8
      rw [hv8] at s8
      refine wpOp_value (v := .int .i64 (errK f (indexM f l f.lots.length))) (W' := W) rfl rfl ?_ (hK _ _ (LKeep.refl _ _ _) rfl)
      go_simp
    | 11, hoi, hom =>
      have l9 := haft _ rfl { on := 9, ground := .data } (by simp) rfl
      obtain ⟨gl9, cp9, hv9, hi9⟩ := hpv 9 l9
      have s9 : ao.tmps[21]?.getD undef = vs 9 := hU.slot 9 (by decide) l9
      rw [hv9] at s9
      refine wpOp_value (v := .slice gl9 (lstK f (indexM f l f.lots.length)).length cp9) (W' := W) rfl rfl ?_ (hK _ _ (LKeep.refl _ _ _) ⟨_, _, rfl, hi9⟩)
      go_simp
    | 12, hoi, hom =>
      have l10 := haft _ rfl { on := 10, ground := .data } (by simp) rfl
      have hv10 : vs 10 = .int .i64 (errK f (indexM f l f.lots.length)) := hpv 10 l10
      have s10 : ao.tmps[22]?.getD undef = vs 10 := hU.slot 10 (by decide) l10
      rw [hv10] at s10
      refine wpOp_value (v := .int .i64 (errK f (indexM f l f.lots.length))) (W' := W) rfl rfl ?_ (hK _ _ (LKeep.refl _ _ _) rfl)
      go_simp
    | oi + 13, hoi, hom => exact absurd (of_decide_eq_true hom) (by omega)
  case hend =>
    intro listed vs ao W hG hk0 hpv hpre
    have hkk := (LKeep.drew (fun _ => False) (M := fun _ => True) w0 (fun h => h)).trans hk0
    have hk := hkk.1
    have hkm := hkk.2
    clear hkk
    have hact := hG.act
    have hT := hG.lst hpre 0 #[true, true, true, true, true, true, true, true, true, true, true, true, true] rfl (by kernel_rfl) (hpre 0 (by decide) (by decide))
    rw [hG.ix hT (l := [0, 1, 2, 3, 4, 5, 6, 7, 8, 9, 10, 11, 12]) (by kernel_rfl)] at hact
    rw [hG.lo hT (k := 0) (by kernel_rfl)]
    have hv0 : vs 0 = fileVal f fa := hpv 0 (hpre 0 (by decide) (by decide))
    have hv1 : vs 1 = fileVal f fa := hpv 1 (hpre 1 (by decide) (by decide))
    have hv2 : vs 2 = .int .i64 l := hpv 2 (hpre 2 (by decide) (by decide))
    have hv3 : vs 3 = .pointer (some ⟨w.heap.size, 2, none⟩) := hpv 3 (hpre 3 (by decide) (by decide))
    have hv4 : vs 4 = .slice fa.A3 f.lots.length fa.c3 := hpv 4 (hpre 4 (by decide) (by decide))
    have hv5 : vs 5 = .int .i64 (f.lots.length : Nat) := hpv 5 (hpre 5 (by decide) (by decide))
    have hv6 : vs 6 = .int .i64 (indexM f l (f.lots.length : Nat)) := hpv 6 (hpre 6 (by decide) (by decide))
    obtain ⟨gl7, cp7, hv7, hi7⟩ := hpv 7 (hpre 7 (by decide) (by decide))
    obtain ⟨gl8, cp8, hv8, hi8⟩ := hpv 8 (hpre 8 (by decide) (by decide))
    obtain ⟨gl9, cp9, hv9, hi9⟩ := hpv 9 (hpre 9 (by decide) (by decide))
    have hv10 : vs 10 = .int .i64 (errK f (indexM f l f.lots.length)) := hpv 10 (hpre 10 (by decide) (by decide))
    obtain ⟨gl11, cp11, hv11, hi11⟩ := hpv 11 (hpre 11 (by decide) (by decide))
    have hv12 : vs 12 = .int .i64 (errK f (indexM f l f.lots.length)) := hpv 12 (hpre 12 (by decide) (by decide))
    clear hpv hpre hG hk0
    obtain rfl : ao = _ := hact
    subst hT
    simp only [setAll, List.setIfInBounds_toArray, List.set_cons_succ, List.set_cons_zero, List.getD_cons_succ, List.getD_cons_zero]
    simp only [hv0, hv1, hv2, hv3, hv4, hv5, hv6, hv7, hv8, hv9, hv10, hv11, hv12]
    clear hv0 hv1 hv2 hv3 hv4 hv5 hv6 hv7 hv8 hv9 hv10 hv11 hv12
    refine wpAny_done (by kernel_rfl) ?_ _
    have hbW := hk.below (B := w0.heap.size) (fun k h => h.elim) (Nat.le_refl _)
    have HBXW := hide (HBX0.out.next hbW)
    have HBZ := hide (HB0.out.trans (hbW.mono HB0.out.size))
    have HLW := hide hi11
    clear hk hkm hbW hi7 hi8 hi9 hi11 HBX0 e1 e2 e3 e4 e5 hz
    have HX := hide (show whoR f l = if errK f (indexM f l f.lots.length) = 0 then (whoTo f l.toNat f.parties.length, 0) else ([], errK f (indexM f l f.lots.length)) from rfl)
    have HEI := hide (fun (hh : indexM f l f.lots.length = 0) => (⟨index_valid hh, index_in hh⟩ : Valid f ∧ 0 ≤ l ∧ l < f.lots.length))
    have HEK := hide (fun (hh : errK f (indexM f l f.lots.length) = 0) => errK_zero hh)
    have HEN := hide (fun (hh : errK f (indexM f l f.lots.length) ≠ 0) => lstK_none hh)
    generalize hID : errK f (indexM f l f.lots.length) = er at *
    generalize lstK f (indexM f l f.lots.length) = T at *
    clear hID
    cases he : (er != 0) with
    | true =>
      have hne : ¬ er = 0 := by simpa using he
      have HY := hide (show whoR f l = ([], er) by rw [HX.out, if_neg hne])
      clear hne
      go_wp2_with fail
      go_ret2
      rw [HY.out]
      exact ⟨_, _, rfl, IntsS.nil_, HBZ.out⟩
    | false =>
      have hz' : er = 0 := by simpa using he
      have HY := hide (show whoR f l = (whoTo f l.toNat f.parties.length, 0) by rw [HX.out, if_pos hz'])
      obtain ⟨hE0, hTM, hT0⟩ := HEK.out hz'
      obtain ⟨hv, hl0, hl1⟩ := HEI.out hE0
      subst hTM
      obtain ⟨l, rfl⟩ : ∃ k : Nat, l = k := ⟨l.toNat, by omega⟩
      rw [Int.toNat_natCast] at HY
      have hl : l < f.lots.length := by omega
      have HV := hide hv
      have HT := hide hT0
      have HSU := hide (whoTo_succ f l)
      have HLE := hide (whoTo_le f l)
      have hT256 := truthsM_256 hv []
      have HPL := hide (fun g (hg : g ∈ truthsM f []) => truthsM_pl hv hg)
      have hpar := hv.parties
      subst hz'
      clear hE0 hl0 hl1 hv hT0 HX HEI HEK HEN
      have HW0 := hide (show whoTo f l 0 = [] from rfl)
      generalize truthsM f [] = T at *
      go_wp2_with fail
      go_loopw [8, 9, 10, 11] (fun v8 v9 _ _ wr => ∃ p : Nat, p ≤ f.parties.length ∧ v9 = .int .i64 p ∧ Below W.heap.size W wr ∧ wr.ownsRow W.heap.size 3 1 v8 (whoTo f l p).length ((whoTo f l p).map fun n : Nat => .int .i64 n)) (fun _ v9 _ _ _ => f.parties.length - (intOf v9).toNat)
      case atStart => exact ⟨0, Nat.zero_le _, rfl, Below.refl _ _, by rw [HW0.out]; exact World.ownsRow_nil _ _ _ _⟩
      case round =>
        obtain ⟨p, hp', rfl, hB, hown⟩ := hrel
        obtain ⟨wa, rfl⟩ : ∃ wa : World, wa = wr := ⟨_, rfl⟩
        have hp0 : (0 : Int) ≤ (p : Int) := Int.natCast_nonneg _
        have HBXa := hide (HBXW.out.next hB)
        obtain ⟨hz, e1, e2, e3, e4, e5⟩ := HBXa.out.cells
        have hza := hB.size
        have HBa := hide hB
        have HOa := hide hown
        clear hB hown
        by_cases hlt : p < f.parties.length
        · have hp1 : (p : Int) < (f.parties.length : Int) := by omega
          have HS := hide (HSU.out p)
          have hle := HLE.out p
          go_wp2_with fail
          go_loopw [10, 11] (fun v10 v11 w2 => ∃ i : Nat, i ≤ T.length ∧ v11 = .int .i64 i ∧ v10 = .bool ((T.take i).any fun g => withM f g l == (p : Int)) ∧ Below wa.heap.size wa w2) (fun _ v11 _ => T.length - (intOf v11).toNat)
          case atStart => exact ⟨0, Nat.zero_le _, rfl, by simp, Below.refl _ _⟩
          case round =>
            obtain ⟨i, hi2, rfl, rfl, hB2⟩ := hrel
            have hi0 : (0 : Int) ≤ (i : Int) := Int.natCast_nonneg _
            have hz2 := hB2.size
            have HB2 := hide hB2
            have HBXr := hide (HBXa.out.next hB2)
            obtain ⟨hz, e1, e2, e3, e4, e5⟩ := HBXr.out.cells
            by_cases hlt2 : i < T.length
            · have hi1 : (i : Int) < (T.length : Int) := by omega
              obtain ⟨bg, og, Ag, cg, hAg, hbg, hgc, hgi⟩ := HLW.out.at_ hlt2
              have HBw := hide (HBa.out.trans (hB2.mono hza))
              have hgc := (HBw.out.cell (p := ⟨bg, og + i, none⟩) hbg).trans hgc
              have HGr := hide ((hgi.below HBw.out).more HBw.out.size)
              have hbgz : bg < wr.heap.size := by have := HBw.out.size; omega
              have HPG := hide (HPL.out (nth T i) (by rw [nth_eq hlt2]; exact List.getElem_mem hlt2))
              have HAN := hide (any_take T (fun g => withM f g l == (p : Int)) hlt2)
              have HAg := hide hAg
              subst hAg
              clear hB2 hgi
              cases hso : (T.take i).any (fun g => withM f g l == (p : Int)) with
              | true =>
                have HZ := hide (show (T.take (i + 1)).any (fun g => withM f g l == (p : Int)) = true by rw [HAN.out, hso]; rfl)
                clear hso
                go_wp2_with fail
                go_quiet (fail)
                go_wp2_with fail
                go_roundw
                case rel => exact ⟨i + 1, by omega, by go_num, by rw [HZ.out], below_drewN HB2.out _⟩
                case measure => simp [intOf]; omega
              | false =>
                have HZ := hide (show (T.take (i + 1)).any (fun g => withM f g l == (p : Int)) = (withM f (nth T i) l == (p : Int)) by rw [HAN.out, hso]; rfl)
                clear hso
                generalize nth T i = g at *
                go_wp2_with fail
                refine wp_region_rel (dst := fun oi => [39, 40, 41, 42, 43, 44, 45, 46, 47, 48, 49, 50, 0].getD oi 0) (mono := fun oi => decide (oi < 12)) (pre := fun oi => decide (oi < 12)) (R := LKeep (fun _ => False) (fun _ => True))
                  (Pv := fun oi v W => match oi with
                    | 0 => v = .bool false
                    | 1 => v = .bool false
                    | 2 => v = fileVal f fa
                    | 3 => v = .slice (some ⟨bg, og, none⟩) T.length cp11
                    | 4 => v = .int .i64 (i : Nat)
                    | 5 => v = .pointer (some ⟨bg, og + i, none⟩)
                    | 6 => v = .slice Ag g.length cg
                    | 7 => v = .int .i64 (l : Nat)
                    | 8 => v = .int .i64 (withM f g l)
                    | 9 => v = .int .i64 (p : Nat)
                    | 10 => v = .bool (withM f g l == (p : Int))
                    | 11 => v = .bool (withM f g l == (p : Int))
                    | _ => True) (by kernel_rfl) (by kernel_rfl) (LKeep.refl _ _) (fun _ _ _ h h' => h.trans h') ?hstB ?hstepB ?hendB
                case hstB =>
                  intro oi v W W' h hk
                  match oi, h with
                  | 0, h => exact h
                  | 1, h => exact h
                  | 2, h => exact h
                  | 3, h => exact h
                  | 4, h => exact h
                  | 5, h => exact h
                  | 6, h => exact h
                  | 7, h => exact h
                  | 8, h => exact h
                  | 9, h => exact h
                  | 10, h => exact h
                  | 11, h => exact h
                  | oi + 12, h => exact trivial
                case hstepB =>
                  intro oi hoi hom listed vs ao W hU hk0 hpv haft Ko hK
                  have hkk := (LKeep.drew (fun _ => False) (M := fun _ => True) wr (fun h => h)).trans hk0
                  have hk := hkk.1
                  have hkm := hkk.2
                  clear hkk
                  match oi, hoi, hom with
                  | 0, hoi, hom =>
                    have z10 : ao.tmps[10]?.getD undef = .bool false := hU.same 10 (by decide)
                    refine wpOp_value (v := .bool false) (W' := W) rfl rfl ?_ (hK _ _ (LKeep.refl _ _ _) rfl)
                    go_simp
                  | 1, hoi, hom =>
                    have l0 := haft _ rfl { on := 0, ground := .data } (by simp) rfl
                    have hv0 : vs 0 = .bool false := hpv 0 l0
                    have s0 : ao.tmps[39]?.getD undef = vs 0 := hU.slot 0 (by decide) l0
                    rw [hv0] at s0
                    refine wpOp_value (v := .bool false) (W' := W) rfl rfl ?_ (hK _ _ (LKeep.refl _ _ _) rfl)
                    go_simp
                  | 2, hoi, hom =>
                    have l1 := haft _ rfl { on := 1, ground := .guard } (by simp) rfl
                    have hv1 : vs 1 = .bool false := hpv 1 l1
                    have s1 : ao.tmps[40]?.getD undef = vs 1 := hU.slot 1 (by decide) l1
                    rw [hv1] at s1
                    have z2 : ao.tmps[2]?.getD undef = .pointer (some ⟨w.heap.size, 0, none⟩) := hU.same 2 (by decide)
                    have y0 := (hk.cell (b := w.heap.size) (o := 0) (hz) (fun h => h)).trans (e1)
                    have y1 := (hk.cell (b := w.heap.size) (o := 1) (hz) (fun h => h)).trans (e2)
                    have y2 := (hk.cell (b := w.heap.size) (o := 2) (hz) (fun h => h)).trans (e3)
                    have y3 := (hk.cell (b := w.heap.size) (o := 3) (hz) (fun h => h)).trans (e4)
                    have y4 := (hk.cell (b := w.heap.size) (o := 4) (hz) (fun h => h)).trans (e5)
                    refine wpOp_wanted (v := fileVal f fa) (W' := W) rfl ?_ ?_ (hK _ _ (LKeep.refl _ _ _) rfl)
                    · refine wanted_yes (j := 1) (d := 40) ?_ ?_ s1 <;> rfl
                    go_simp
                  | 3, hoi, hom =>
                    have l1 := haft _ rfl { on := 1, ground := .guard } (by simp) rfl
                    have hv1 : vs 1 = .bool false := hpv 1 l1
                    have s1 : ao.tmps[40]?.getD undef = vs 1 := hU.slot 1 (by decide) l1
                    rw [hv1] at s1
                    have z6 : ao.tmps[6]?.getD undef = .slice (some ⟨bg, og, none⟩) T.length cp11 := hU.same 6 (by decide)
                    refine wpOp_wanted (v := .slice (some ⟨bg, og, none⟩) T.length cp11) (W' := W) rfl ?_ ?_ (hK _ _ (LKeep.refl _ _ _) rfl)
                    · refine wanted_yes (j := 1) (d := 40) ?_ ?_ s1 <;> rfl
                    go_simp
                  | 4, hoi, hom =>
                    have l1 := haft _ rfl { on := 1, ground := .guard } (by simp) rfl
                    have hv1 : vs 1 = .bool false := hpv 1 l1
                    have s1 : ao.tmps[40]?.getD undef = vs 1 := hU.slot 1 (by decide) l1
                    rw [hv1] at s1
                    have z11 : ao.tmps[11]?.getD undef = .int .i64 (i : Nat) := hU.same 11 (by decide)
                    refine wpOp_wanted (v := .int .i64 (i : Nat)) (W' := W) rfl ?_ ?_ (hK _ _ (LKeep.refl _ _ _) rfl)
                    · refine wanted_yes (j := 1) (d := 40) ?_ ?_ s1 <;> rfl
                    go_simp
                  | 5, hoi, hom =>
                    have l1 := haft _ rfl { on := 1, ground := .guard } (by simp) rfl
                    have hv1 : vs 1 = .bool false := hpv 1 l1
                    have s1 : ao.tmps[40]?.getD undef = vs 1 := hU.slot 1 (by decide) l1
                    rw [hv1] at s1
                    have l3 := haft _ rfl { on := 3, ground := .data } (by simp) rfl
                    have hv3 : vs 3 = .slice (some ⟨bg, og, none⟩) T.length cp11 := hpv 3 l3
                    have s3 : ao.tmps[42]?.getD undef = vs 3 := hU.slot 3 (by decide) l3
                    rw [hv3] at s3
                    have l4 := haft _ rfl { on := 4, ground := .data } (by simp) rfl
                    have hv4 : vs 4 = .int .i64 (i : Nat) := hpv 4 l4
                    have s4 : ao.tmps[43]?.getD undef = vs 4 := hU.slot 4 (by decide) l4
                    rw [hv4] at s4
                    refine wpOp_wanted (v := .pointer (some ⟨bg, og + i, none⟩)) (W' := W) rfl ?_ ?_ (hK _ _ (LKeep.refl _ _ _) rfl)
                    · refine wanted_yes (j := 1) (d := 40) ?_ ?_ s1 <;> rfl
                    go_simp
                  | 6, hoi, hom =>
                    have l1 := haft _ rfl { on := 1, ground := .guard } (by simp) rfl
                    have hv1 : vs 1 = .bool false := hpv 1 l1
                    have s1 : ao.tmps[40]?.getD undef = vs 1 := hU.slot 1 (by decide) l1
                    rw [hv1] at s1
                    have l5 := haft _ rfl { on := 5, ground := .data } (by simp) rfl
                    have hv5 : vs 5 = .pointer (some ⟨bg, og + i, none⟩) := hpv 5 l5
                    have s5 : ao.tmps[44]?.getD undef = vs 5 := hU.slot 5 (by decide) l5
                    rw [hv5] at s5
                    have y0 := (hk.cell (b := bg) (o := og + i) (hbgz) (fun h => h)).trans (hgc)
                    refine wpOp_wanted (v := .slice Ag g.length cg) (W' := W) rfl ?_ ?_ (hK _ _ (LKeep.refl _ _ _) rfl)
                    · refine wanted_yes (j := 1) (d := 40) ?_ ?_ s1 <;> rfl
                    go_simp
                  | 7, hoi, hom =>
                    have l1 := haft _ rfl { on := 1, ground := .guard } (by simp) rfl
                    have hv1 : vs 1 = .bool false := hpv 1 l1
                    have s1 : ao.tmps[40]?.getD undef = vs 1 := hU.slot 1 (by decide) l1
                    rw [hv1] at s1
                    have z1 : ao.tmps[1]?.getD undef = .int .i64 (l : Nat) := hU.same 1 (by decide)
                    refine wpOp_wanted (v := .int .i64 (l : Nat)) (W' := W) rfl ?_ ?_ (hK _ _ (LKeep.refl _ _ _) rfl)
                    · refine wanted_yes (j := 1) (d := 40) ?_ ?_ s1 <;> rfl
                    go_simp
                  | 8, hoi, hom =>
                    have l1 := haft _ rfl { on := 1, ground := .guard } (by simp) rfl
                    have hv1 : vs 1 = .bool false := hpv 1 l1
                    have s1 : ao.tmps[40]?.getD undef = vs 1 := hU.slot 1 (by decide) l1
                    rw [hv1] at s1
                    have l2 := haft _ rfl { on := 2, ground := .data } (by simp) rfl
                    have hv2 : vs 2 = fileVal f fa := hpv 2 l2
                    have s2 : ao.tmps[41]?.getD undef = vs 2 := hU.slot 2 (by decide) l2
                    rw [hv2] at s2
                    have l6 := haft _ rfl { on := 6, ground := .data } (by simp) rfl
                    have hv6 : vs 6 = .slice Ag g.length cg := hpv 6 l6
                    have s6 : ao.tmps[45]?.getD undef = vs 6 := hU.slot 6 (by decide) l6
                    rw [hv6] at s6
                    have l7 := haft _ rfl { on := 7, ground := .data } (by simp) rfl
                    have hv7 : vs 7 = .int .i64 (l : Nat) := hpv 7 l7
                    have s7 : ao.tmps[46]?.getD undef = vs 7 := hU.slot 7 (by decide) l7
                    rw [hv7] at s7
                    refine wpOp_enterW (f := 54) (args := #[fileVal f fa, .slice Ag g.length cg, .int .i64 (l : Nat)]) (W' := W) rfl ?_ ?_ ((with7_any (HBXr.out.v.next (hk.below (B := wr.heap.size) (fun k h => h.elim) (Nat.le_refl _))) (HGr.out.next (hk.below (B := wr.heap.size) (fun k h => h.elim) (Nat.le_refl _))) HPG.out hl).mono (fun e w'' h => ?_))
                    · refine wanted_yes (j := 1) (d := 40) ?_ ?_ s1 <;> rfl
                    · go_simp
                    · obtain ⟨he, hbw⟩ := h
                      exact ⟨_, he, hK _ _ (LKeep.below hbw (fun h => h)) rfl⟩
                  | 9, hoi, hom =>
                    have l1 := haft _ rfl { on := 1, ground := .guard } (by simp) rfl
                    have hv1 : vs 1 = .bool false := hpv 1 l1
                    have s1 : ao.tmps[40]?.getD undef = vs 1 := hU.slot 1 (by decide) l1
                    rw [hv1] at s1
                    have z9 : ao.tmps[9]?.getD undef = .int .i64 (p : Nat) := hU.same 9 (by decide)
                    refine wpOp_wanted (v := .int .i64 (p : Nat)) (W' := W) rfl ?_ ?_ (hK _ _ (LKeep.refl _ _ _) rfl)
                    · refine wanted_yes (j := 1) (d := 40) ?_ ?_ s1 <;> rfl
                    go_simp
                  | 10, hoi, hom =>
                    have l1 := haft _ rfl { on := 1, ground := .guard } (by simp) rfl
                    have hv1 : vs 1 = .bool false := hpv 1 l1
                    have s1 : ao.tmps[40]?.getD undef = vs 1 := hU.slot 1 (by decide) l1
                    rw [hv1] at s1
                    have l8 := haft _ rfl { on := 8, ground := .data } (by simp) rfl
                    have hv8 : vs 8 = .int .i64 (withM f g l) := hpv 8 l8
                    have s8 : ao.tmps[47]?.getD undef = vs 8 := hU.slot 8 (by decide) l8
                    rw [hv8] at s8
                    have l9 := haft _ rfl { on := 9, ground := .data } (by simp) rfl
                    have hv9 : vs 9 = .int .i64 (p : Nat) := hpv 9 l9
                    have s9 : ao.tmps[48]?.getD undef = vs 9 := hU.slot 9 (by decide) l9
                    rw [hv9] at s9
                    refine wpOp_wanted (v := .bool (withM f g l == (p : Int))) (W' := W) rfl ?_ ?_ (hK _ _ (LKeep.refl _ _ _) rfl)
                    · refine wanted_yes (j := 1) (d := 40) ?_ ?_ s1 <;> rfl
                    go_simp
                  | 11, hoi, hom =>
                    have l1 := haft _ rfl { on := 1, ground := .data } (by simp) rfl
                    have hv1 : vs 1 = .bool false := hpv 1 l1
                    have s1 : ao.tmps[40]?.getD undef = vs 1 := hU.slot 1 (by decide) l1
                    rw [hv1] at s1
                    have l10 := haft _ rfl { on := 10, ground := .data } (by simp) rfl
                    have hv10 : vs 10 = .bool (withM f g l == (p : Int)) := hpv 10 l10
                    have s10 : ao.tmps[49]?.getD undef = vs 10 := hU.slot 10 (by decide) l10
                    rw [hv10] at s10
                    refine wpOp_value (v := .bool (withM f g l == (p : Int))) (W' := W) rfl rfl ?_ (hK _ _ (LKeep.refl _ _ _) rfl)
                    go_simp
                  | oi + 12, hoi, hom => exact absurd (of_decide_eq_true hom) (by omega)
                case hendB =>
                  intro listed vs ao W hG hk0 hpv hpre
                  have hkk := (LKeep.drew (fun _ => False) (M := fun _ => True) wr (fun h => h)).trans hk0
                  have hk := hkk.1
                  have hkm := hkk.2
                  clear hkk
                  have hact := hG.act
                  have hT := hG.lst hpre 0 #[true, true, true, true, true, true, true, true, true, true, true, true, false] rfl (by kernel_rfl) (hpre 0 (by decide) (by decide))
                  rw [hG.ix hT (l := [0, 1, 2, 3, 4, 5, 6, 7, 8, 9, 10, 11]) (by kernel_rfl)] at hact
                  rw [hG.lo hT (k := 1) (by kernel_rfl)]
                  have hv0 : vs 0 = .bool false := hpv 0 (hpre 0 (by decide) (by decide))
                  have hv1 : vs 1 = .bool false := hpv 1 (hpre 1 (by decide) (by decide))
                  have hv2 : vs 2 = fileVal f fa := hpv 2 (hpre 2 (by decide) (by decide))
                  have hv3 : vs 3 = .slice (some ⟨bg, og, none⟩) T.length cp11 := hpv 3 (hpre 3 (by decide) (by decide))
                  have hv4 : vs 4 = .int .i64 (i : Nat) := hpv 4 (hpre 4 (by decide) (by decide))
                  have hv5 : vs 5 = .pointer (some ⟨bg, og + i, none⟩) := hpv 5 (hpre 5 (by decide) (by decide))
                  have hv6 : vs 6 = .slice Ag g.length cg := hpv 6 (hpre 6 (by decide) (by decide))
                  have hv7 : vs 7 = .int .i64 (l : Nat) := hpv 7 (hpre 7 (by decide) (by decide))
                  have hv8 : vs 8 = .int .i64 (withM f g l) := hpv 8 (hpre 8 (by decide) (by decide))
                  have hv9 : vs 9 = .int .i64 (p : Nat) := hpv 9 (hpre 9 (by decide) (by decide))
                  have hv10 : vs 10 = .bool (withM f g l == (p : Int)) := hpv 10 (hpre 10 (by decide) (by decide))
                  have hv11 : vs 11 = .bool (withM f g l == (p : Int)) := hpv 11 (hpre 11 (by decide) (by decide))
                  clear hpv hpre hG hk0
                  obtain rfl : ao = _ := hact
                  subst hT
                  simp only [setAll, List.setIfInBounds_toArray, List.set_cons_succ, List.set_cons_zero, List.getD_cons_succ, List.getD_cons_zero]
                  simp only [hv0, hv1, hv2, hv3, hv4, hv5, hv6, hv7, hv8, hv9, hv10, hv11]
                  clear hv0 hv1 hv2 hv3 hv4 hv5 hv6 hv7 hv8 hv9 hv10 hv11
                  refine wpAny_all (rs := [12]) (by kernel_rfl) (by simp) ?_
                  intro i2 hi2
                  obtain rfl : i2 = 12 := by simpa using hi2
                  refine wpOp_value (v := .bool (withM f g l == (p : Int))) (W' := W) rfl rfl ?_ ?_
                  · go_simp
                  try simp only [Act.put, List.setIfInBounds_toArray, List.set_cons_zero, List.set_cons_succ]
                  refine wpAny_done (by kernel_rfl) ?_ _
                  have HBZ2 := hide (HB2.out.trans ((hk.below (B := wr.heap.size) (fun k h => h.elim) (Nat.le_refl _)).mono hz2))
                  clear hk hkm
                  go_wp2_with fail
                  go_roundw
                  case rel => exact ⟨i + 1, by omega, by go_num, by rw [HZ.out], HBZ2.out⟩
                  case measure => simp [intOf]; omega
            · have hii : i = T.length := by omega
              have HAL := hide (show (T.take i).any (fun g => withM f g l == (p : Int)) = T.any (fun g => withM f g l == (p : Int)) by rw [hii, List.take_length])
              have hown := own_below HOa.out hB2
              clear hii hB2
              have HBw := hide (HBa.out.trans (HB2.out.mono hza))
              have hzr := HBw.out.size
              rw [HAL.out]
              cases han : T.any (fun g => withM f g l == (p : Int)) with
              | true =>
                have HS2 := hide (show whoTo f l (p + 1) = whoTo f l p ++ [p] by rw [HS.out, han]; rfl)
                clear han
                go_wp2_with (first
                  | (at_builtin
                     refine wpList_append_own _ rfl _ _ 23 rfl W.heap.size 3 i0 (.int .i64 0) 1 8 Try.underlying23 hi hz0 hz1 hz2' rfl (by decide) _ _ _ rfl (hown.alloc _) ⟨wr.heap.size, 0, none⟩ 1 1 [.int .i64 p] rfl rfl ?c1 ?c2 ?c3 ?c4 ?c5 ?_
                     case c1 => exact cell_one_new _ _ _
                     case c2 => simp [Value.oneCell']
                     case c3 => simp [maxLen]; omega
                     case c4 => omega
                     case c5 => simp; omega
                     intro v' w4 hown' hg _
                     have hb4 := app_below (show W.heap.size ≤ wr.heap.size by omega) hown hg
                     clear hg))
                go_roundw
                case rel => exact ⟨p + 1, by omega, by go_num, HBw.out.trans hb4, by rw [HS2.out]; simpa using hown'⟩
                case measure => simp [intOf]; omega
              | false =>
                have HS2 := hide (show whoTo f l (p + 1) = whoTo f l p by rw [HS.out, han]; simp)
                clear han
                go_wp2_with fail
                go_roundw
                case rel => exact ⟨p + 1, by omega, by go_num, HBw.out, by rw [HS2.out]; exact hown⟩
                case measure => simp [intOf]; omega
        · have hpp : p = f.parties.length := by omega
          have hown := HOa.out
          rw [hpp] at hown
          clear hpp
          obtain ⟨A', c', rfl, hs⟩ := IntsS.of_own (xs := natInts (whoTo f l f.parties.length)) (by rw [natInts_vals]; exact hown)
          go_wp2
          go_ret2
          rw [HY.out]
          exact ret_lst rfl hs (HBZ.out.trans (HBa.out.mono HBZ.out.size))
end Go.Proofs.Ytllmahcanipcpaa
