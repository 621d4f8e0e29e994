/- Contracts of the reference's With and So. -/
import Derived.Test.YtllmahcanipcpaaSC
import Derived.OwnWalkIn
import Derived.TacticsInMore
import Derived.Deep.DeepCutAuto
set_option linter.unusedVariables false
set_option linter.unusedSimpArgs false
namespace Go.Proofs.Ytllmahcanipcpaa
open Go.RowKit
attribute [local go_sem ↓] Go.wp_at_zero Go.wp_at_succ
attribute [local go_sem] Oper.semAt_some

/-- Places: one in each lot's route. -/
def Pl (f : File) (p : List Int) : Prop := p.length = f.lots.length ∧ ∀ l, l < f.lots.length → 0 ≤ nth p l ∧ nth p l < (nth f.lots l).route.length
theorem allTo_pl {f : File} (hv : Valid f) : ∀ i, i ≤ f.lots.length → ∀ g ∈ allTo f i, g.length = i ∧ ∀ l, l < i → 0 ≤ nth g l ∧ nth g l < (nth f.lots l).route.length
  | 0, _, g, hg => by
    simp only [allTo, List.mem_singleton] at hg
    subst hg
    exact ⟨rfl, fun l hl => by omega⟩
  | i + 1, h, g, hg => by
    rw [allTo_succ, List.mem_flatMap] at hg
    obtain ⟨g', hg', hx⟩ := hg
    simp only [nextP, List.mem_map, spanVals, List.mem_range] at hx
    obtain ⟨x, ⟨k, hk, rfl⟩, rfl⟩ := hx
    obtain ⟨h1, h2⟩ := allTo_pl hv i (by omega) g' hg'
    refine ⟨by simp [h1], fun l hl => ?_⟩
    rcases Nat.lt_or_ge l i with h3 | h3
    · rw [nth_snoc_lt _ _ (by omega)]; exact h2 l h3
    · obtain rfl : l = i := by omega
      have e : nth (g' ++ [(nth f.lots l).turned.lo + (k : Int)]) l = (nth f.lots l).turned.lo + k := by have := nth_snoc_eq g' ((nth f.lots l).turned.lo + (k : Int)); rwa [h1] at this
      rw [e]
      have h4 := hv.lot l (by omega)
      omega
theorem allP_pl {f : File} (hv : Valid f) {g : List Int} (hg : g ∈ allP f) : Pl f g := allTo_pl hv _ (Nat.le_refl _) g hg
set_option maxHeartbeats 1000000 in
set_option maxRecDepth 100000 in
theorem with7_any {f : File} {fa : FA} {w : World} {A : Option Addr} {n c : Nat} {p : List Int} (h : FileV w w.heap.size f fa) (hp : IntsS w w.heap.size A n c p) (hP : Pl f p) {l : Nat} (hl : l < f.lots.length) :
    Calls Try.prog 54 #[fileVal f fa, .slice A n c, .int .i64 (l : Nat)] w fun e w' => e = .returned (.int .i64 (withM f p l)) ∧ Below w.heap.size w w' := by
  have HBX := hide (BoxF.made h)
  have HB0 : Hid (Below w.heap.size w (w.alloc (.cells (fileCells f fa) 28))) := hide ((Below.refl _ _).alloc (Nat.le_refl _) _)
  have HP0 := hide (hp.next HB0.out)
  have hm3 := h.m3
  unfold maxLen at hm3
  have hpn := hp.bd
  have hln : l < n := by rw [← hp.len, hP.1]; exact hl
  have hpl := hP.2 l hl
  have HW := hide (show withM f p l = nth (nth f.lots l).route (nth p l).toNat from rfl)
  clear h hp hP
  go_enter Try.func54, Try.ntmps54
  go_upto_region 1 with (fail)
  generalize (w.alloc (.cells (fileCells f fa) 28)) = w0 at *
  obtain ⟨hz, p0, p1, p2, p3, p4⟩ := HBX.out.cells
  obtain ⟨bl, ol, hA3, hbl, y0, y1, y2, y3⟩ := HBX.out.v.lots.lots hl
  obtain ⟨bp, op, rfl, hbp, hpc⟩ := HP0.out.at_ hln
  have hri := HBX.out.v.routes l hl
  have hrm := hri.bd
  generalize hX : nth p l = x at *
  obtain ⟨k, rfl⟩ : ∃ k : Nat, x = k := ⟨x.toNat, by omega⟩
  have hkl : k < (nth f.lots l).route.length := by omega
  rw [Int.toNat_natCast] at HW
  obtain ⟨br, or', hRA, hbr, hrc⟩ := hri.at_ hkl
  rw [hA3] at p2
  rw [hRA] at y0
  have hl0 : (0 : Int) ≤ (l : Int) := Int.natCast_nonneg _
  have hl1 : (l : Int) < (f.lots.length : Int) := by omega
  have hl2 : (l : Int) < (n : Int) := by omega
  have hk0 : (0 : Int) ≤ (k : Int) := Int.natCast_nonneg _
  have hk1 : (k : Int) < ((nth f.lots l).route.length : Int) := by omega
  clear hX hA3 hRA hri p0 p1 p3 p4 y1 y2 y3 hpl
  go_quiet (fail)
  go_wp2_with fail
  go_ret
  exact ⟨by rw [HW.out]; rfl, below_drewN HB0.out _⟩
set_option maxHeartbeats 4000000 in
set_option maxRecDepth 100000 in
theorem so7_any {f : File} {fa : FA} {w : World} {A : Option Addr} {n c : Nat} {p : List Int} (h : FileV w w.heap.size f fa) (hp : IntsS w w.heap.size A n c p) (hP : Pl f p) (x : Paper) (hx : 0 ≤ x.says ∧ x.says ≤ 3 ∧ 0 ≤ x.lot ∧ x.lot < f.lots.length ∧ (2 ≤ x.says → 0 ≤ x.of_ ∧ x.of_ < f.lots.length)) :
    Calls Try.prog 83 #[fileVal f fa, .agg #[.int .i64 x.says, .int .i64 x.lot, .int .i64 x.of_], .slice A n c] w fun e w' => e = .returned (.bool (soP f x p)) ∧ Below w.heap.size w w' := by
  obtain ⟨s, l, o⟩ := x
  obtain ⟨hs0, hs3, hl0, hl1, ho⟩ := hx
  dsimp only at *
  obtain ⟨l, rfl⟩ : ∃ k : Nat, l = k := ⟨l.toNat, by omega⟩
  have hl : l < f.lots.length := by omega
  have HB0 : Hid (Below w.heap.size w ((w.alloc (.cells (fileCells f fa) 28)).alloc (.cells #[.int .i64 s, .int .i64 (l : Nat), .int .i64 o] 48))) := hide (((Below.refl _ _).alloc (Nat.le_refl _) _).alloc (by simp) _)
  have q1 : Blk ((w.alloc (.cells (fileCells f fa) 28)).alloc (.cells #[.int .i64 s, .int .i64 (l : Nat), .int .i64 o] 48)) w.heap.size 28 (fileCells f fa) := Blk.made.alloc _
  have q2 : Blk ((w.alloc (.cells (fileCells f fa) 28)).alloc (.cells #[.int .i64 s, .int .i64 (l : Nat), .int .i64 o] 48)) (w.heap.size + 1) 48 #[.int .i64 s, .int .i64 (l : Nat), .int .i64 o] := Blk.made' (by simp)
  have HF0 := hide (h.next HB0.out)
  have HP0 := hide (hp.next HB0.out)
  have hm3 := h.m3
  unfold maxLen at hm3
  have hpn := hp.bd
  have hln : l < n := by rw [← hp.len, hP.1]; exact hl
  have HS := hide (show soP f ⟨s, l, o⟩ p = if s = 0 then decide (placeM (nth f.lots l).route o ≤ nth p l) else if s = 1 then decide (nth p l < placeM (nth f.lots l).route o) else if s = 2 then withM f p l == withM f p o.toNat else withM f p l != withM f p o.toNat by simp [soP])
  have HPL := hide hP
  clear h hp hP
  go_enter Try.func83, Try.ntmps83
  go_upto_region 1 with (fail)
  generalize ((w.alloc (.cells (fileCells f fa) 28)).alloc (.cells #[.int .i64 s, .int .i64 (l : Nat), .int .i64 o] 48)) = w0 at *
  have p2 := q1.at_ 2
  have r0 := q2.at_ 0
  have r1 := q2.at_ 1
  have r2 := q2.at_ 2
  simp only [fileCells, List.getElem?_toArray, List.getElem?_cons_zero, List.getElem?_cons_succ] at p2 r0 r1 r2
  have hz1 := q1.lt
  have hz2 := q2.lt
  have hl2 : (l : Int) < (n : Int) := by omega
  have HQ1 := hide q1
  clear q1 q2
  have hs : s = 0 ∨ s = 1 ∨ s = 2 ∨ s = 3 := by omega
  rcases hs with rfl | rfl | rfl | rfl
  · obtain ⟨bl, ol, hA3, hbl, y0, y1, y2, y3⟩ := HF0.out.lots.lots hl
    obtain ⟨bp, op, rfl, hbp, hpc⟩ := HP0.out.at_ hln
    have HRT := hide (HF0.out.routes l hl)
    rw [hA3] at p2
    clear hA3 y1 y2 y3
    go_wp2_with fail
    go_quiet (first | (go_at_call 75; exact Calls.quiet_of_same ((place_any (HRT.out.drewN _) _).mono (fun _ _ h => ⟨h.1, h.2.symm⟩))))
    go_wp2_with fail
    go_ret
    exact ⟨by rw [HS.out]; simp, below_drewN HB0.out _⟩
  · obtain ⟨bl, ol, hA3, hbl, y0, y1, y2, y3⟩ := HF0.out.lots.lots hl
    obtain ⟨bp, op, rfl, hbp, hpc⟩ := HP0.out.at_ hln
    have HRT := hide (HF0.out.routes l hl)
    rw [hA3] at p2
    clear hA3 y1 y2 y3
    go_wp2_with fail
    go_quiet (first | (go_at_call 75; exact Calls.quiet_of_same ((place_any (HRT.out.drewN _) _).mono (fun _ _ h => ⟨h.1, h.2.symm⟩))))
    go_wp2_with fail
    go_ret
    exact ⟨by rw [HS.out]; simp, below_drewN HB0.out _⟩
  · obtain ⟨ho0, ho1⟩ := ho (by omega)
    obtain ⟨o, rfl⟩ : ∃ k : Nat, o = k := ⟨o.toNat, by omega⟩
    have hol : o < f.lots.length := by omega
    have e1 := HQ1.out.at_ 0
    have e2 := HQ1.out.at_ 1
    have e3 := HQ1.out.at_ 2
    have e4 := HQ1.out.at_ 3
    have e5 := HQ1.out.at_ 4
    simp only [fileCells, List.getElem?_toArray, List.getElem?_cons_zero, List.getElem?_cons_succ] at e1 e2 e3 e4 e5
    clear p2
    rw [Int.toNat_natCast] at HS
    go_wp2_with fail
    refine wp_region_rel (dst := fun oi => [47, 48, 49, 50, 51, 52, 53, 54, 55, 56, 57, 0].getD oi 0) (mono := fun oi => decide (oi < 11)) (pre := fun oi => decide (oi < 11)) (R := LKeep (fun _ => False) (fun _ => True))
      (Pv := fun oi v W => match oi with
        | 0 => v = fileVal f fa
        | 1 => v = .slice A n c
        | 2 => v = .pointer (some ⟨w.heap.size + 1, 1, none⟩)
        | 3 => v = .int .i64 (l : Nat)
        | 4 => v = .int .i64 (withM f p l)
        | 5 => v = fileVal f fa
        | 6 => v = .slice A n c
        | 7 => v = .pointer (some ⟨w.heap.size + 1, 2, none⟩)
        | 8 => v = .int .i64 (o : Nat)
        | 9 => v = .int .i64 (withM f p o)
        | 10 => v = .bool (withM f p l == withM f p o)
        | _ => True) (by kernel_rfl) (by kernel_rfl) (LKeep.refl _ _) (fun _ _ _ h h' => h.trans h') ?hstA ?hstepA ?hendA
    case hstA =>
      intro oi v W W' h hk
      match oi, h with
      | 0, h => exact h
      | 1, h => exact h
      | 2, h => exact h
      | 3, h => exact h
      | 4, h => exact h
      | 5, h => exact h
      | 6, h => exact h
      | 7, h => exact h
      | 8, h => exact h
      | 9, h => exact h
      | 10, h => exact h
      | oi + 11, h => exact trivial
    case hstepA =>
      intro oi hoi hom listed vs ao W hU hk0 hpv haft Ko hK
      have hkk := (LKeep.drew (fun _ => False) (M := fun _ => True) w0 (fun h => h)).trans hk0
      have hk := hkk.1
      have hkm := hkk.2
      clear hkk
      match oi, hoi, hom with
      | 0, hoi, hom =>
        have z3 : ao.tmps[3]?.getD undef = .pointer (some ⟨w.heap.size, 0, none⟩) := hU.same 3 (by decide)
        have y0 := (hk.cell (b := w.heap.size) (o := 0) (hz1) (fun h => h)).trans (e1)
        have y1 := (hk.cell (b := w.heap.size) (o := 1) (hz1) (fun h => h)).trans (e2)
        have y2 := (hk.cell (b := w.heap.size) (o := 2) (hz1) (fun h => h)).trans (e3)
        have y3 := (hk.cell (b := w.heap.size) (o := 3) (hz1) (fun h => h)).trans (e4)
        have y4 := (hk.cell (b := w.heap.size) (o := 4) (hz1) (fun h => h)).trans (e5)
        refine wpOp_value (v := fileVal f fa) (W' := W) rfl rfl ?_ (hK _ _ (LKeep.refl _ _ _) rfl)
        go_simp
      | 1, hoi, hom =>
        have z2 : ao.tmps[2]?.getD undef = .slice A n c := hU.same 2 (by decide)
        refine wpOp_value (v := .slice A n c) (W' := W) rfl rfl ?_ (hK _ _ (LKeep.refl _ _ _) rfl)
        go_simp
      | 2, hoi, hom =>
        have z4 : ao.tmps[4]?.getD undef = .pointer (some ⟨w.heap.size + 1, 0, none⟩) := hU.same 4 (by decide)
        refine wpOp_value (v := .pointer (some ⟨w.heap.size + 1, 1, none⟩)) (W' := W) rfl rfl ?_ (hK _ _ (LKeep.refl _ _ _) rfl)
        go_simp
      | 3, hoi, hom =>
        have l2 := haft _ rfl { on := 2, ground := .data } (by simp) rfl
        have hv2 : vs 2 = .pointer (some ⟨w.heap.size + 1, 1, none⟩) := hpv 2 l2
        have s2 : ao.tmps[49]?.getD undef = vs 2 := hU.slot 2 (by decide) l2
        rw [hv2] at s2
        have y0 := (hk.cell (b := w.heap.size + 1) (o := 1) (hz2) (fun h => h)).trans (r1)
        refine wpOp_value (v := .int .i64 (l : Nat)) (W' := W) rfl rfl ?_ (hK _ _ (LKeep.refl _ _ _) rfl)
        go_simp
      | 4, hoi, hom =>
        have l0 := haft _ rfl { on := 0, ground := .data } (by simp) rfl
        have hv0 : vs 0 = fileVal f fa := hpv 0 l0
        have s0 : ao.tmps[47]?.getD undef = vs 0 := hU.slot 0 (by decide) l0
        rw [hv0] at s0
        have l1 := haft _ rfl { on := 1, ground := .data } (by simp) rfl
        have hv1 : vs 1 = .slice A n c := hpv 1 l1
        have s1 : ao.tmps[48]?.getD undef = vs 1 := hU.slot 1 (by decide) l1
        rw [hv1] at s1
        have l3 := haft _ rfl { on := 3, ground := .data } (by simp) rfl
        have hv3 : vs 3 = .int .i64 (l : Nat) := hpv 3 l3
        have s3 : ao.tmps[50]?.getD undef = vs 3 := hU.slot 3 (by decide) l3
        rw [hv3] at s3
        refine wpOp_enter (f := 54) (args := #[fileVal f fa, .slice A n c, .int .i64 (l : Nat)]) (W' := W) rfl rfl ?_ ((with7_any (HF0.out.next (hk.below (B := w0.heap.size) (fun k h => h.elim) (Nat.le_refl _))) (HP0.out.next (hk.below (B := w0.heap.size) (fun k h => h.elim) (Nat.le_refl _))) HPL.out hl).mono (fun e w'' h => ?_))
        · go_simp
        · obtain ⟨he, hbw⟩ := h
          exact ⟨_, he, hK _ _ (LKeep.below hbw (fun h => h)) rfl⟩
      | 5, hoi, hom =>
        have z3 : ao.tmps[3]?.getD undef = .pointer (some ⟨w.heap.size, 0, none⟩) := hU.same 3 (by decide)
        have y0 := (hk.cell (b := w.heap.size) (o := 0) (hz1) (fun h => h)).trans (e1)
        have y1 := (hk.cell (b := w.heap.size) (o := 1) (hz1) (fun h => h)).trans (e2)
        have y2 := (hk.cell (b := w.heap.size) (o := 2) (hz1) (fun h => h)).trans (e3)
        have y3 := (hk.cell (b := w.heap.size) (o := 3) (hz1) (fun h => h)).trans (e4)
        have y4 := (hk.cell (b := w.heap.size) (o := 4) (hz1) (fun h => h)).trans (e5)
        refine wpOp_value (v := fileVal f fa) (W' := W) rfl rfl ?_ (hK _ _ (LKeep.refl _ _ _) rfl)
        go_simp
      | 6, hoi, hom =>
        have z2 : ao.tmps[2]?.getD undef = .slice A n c := hU.same 2 (by decide)
        refine wpOp_value (v := .slice A n c) (W' := W) rfl rfl ?_ (hK _ _ (LKeep.refl _ _ _) rfl)
        go_simp
      | 7, hoi, hom =>
        have z4 : ao.tmps[4]?.getD undef = .pointer (some ⟨w.heap.size + 1, 0, none⟩) := hU.same 4 (by decide)
        refine wpOp_value (v := .pointer (some ⟨w.heap.size + 1, 2, none⟩)) (W' := W) rfl rfl ?_ (hK _ _ (LKeep.refl _ _ _) rfl)
        go_simp
      | 8, hoi, hom =>
        have l7 := haft _ rfl { on := 7, ground := .data } (by simp) rfl
        have hv7 : vs 7 = .pointer (some ⟨w.heap.size + 1, 2, none⟩) := hpv 7 l7
        have s7 : ao.tmps[54]?.getD undef = vs 7 := hU.slot 7 (by decide) l7
        rw [hv7] at s7
        have y0 := (hk.cell (b := w.heap.size + 1) (o := 2) (hz2) (fun h => h)).trans (r2)
        refine wpOp_value (v := .int .i64 (o : Nat)) (W' := W) rfl rfl ?_ (hK _ _ (LKeep.refl _ _ _) rfl)
        go_simp
      | 9, hoi, hom =>
        have l5 := haft _ rfl { on := 5, ground := .data } (by simp) rfl
        have hv5 : vs 5 = fileVal f fa := hpv 5 l5
        have s5 : ao.tmps[52]?.getD undef = vs 5 := hU.slot 5 (by decide) l5
        rw [hv5] at s5
        have l6 := haft _ rfl { on := 6, ground := .data } (by simp) rfl
        have hv6 : vs 6 = .slice A n c := hpv 6 l6
        have s6 : ao.tmps[53]?.getD undef = vs 6 := hU.slot 6 (by decide) l6
        rw [hv6] at s6
        have l8 := haft _ rfl { on := 8, ground := .data } (by simp) rfl
        have hv8 : vs 8 = .int .i64 (o : Nat) := hpv 8 l8
        have s8 : ao.tmps[55]?.getD undef = vs 8 := hU.slot 8 (by decide) l8
        rw [hv8] at s8
        refine wpOp_enter (f := 54) (args := #[fileVal f fa, .slice A n c, .int .i64 (o : Nat)]) (W' := W) rfl rfl ?_ ((with7_any (HF0.out.next (hk.below (B := w0.heap.size) (fun k h => h.elim) (Nat.le_refl _))) (HP0.out.next (hk.below (B := w0.heap.size) (fun k h => h.elim) (Nat.le_refl _))) HPL.out hol).mono (fun e w'' h => ?_))
        · go_simp
        · obtain ⟨he, hbw⟩ := h
          exact ⟨_, he, hK _ _ (LKeep.below hbw (fun h => h)) rfl⟩
      | 10, hoi, hom =>
        have l4 := haft _ rfl { on := 4, ground := .data } (by simp) rfl
        have hv4 : vs 4 = .int .i64 (withM f p l) := hpv 4 l4
        have s4 : ao.tmps[51]?.getD undef = vs 4 := hU.slot 4 (by decide) l4
        rw [hv4] at s4
        have l9 := haft _ rfl { on := 9, ground := .data } (by simp) rfl
        have hv9 : vs 9 = .int .i64 (withM f p o) := hpv 9 l9
        have s9 : ao.tmps[56]?.getD undef = vs 9 := hU.slot 9 (by decide) l9
        rw [hv9] at s9
        refine wpOp_value (v := .bool (withM f p l == withM f p o)) (W' := W) rfl rfl ?_ (hK _ _ (LKeep.refl _ _ _) rfl)
        go_simp
      | oi + 11, hoi, hom => exact absurd (of_decide_eq_true hom) (by omega)
    case hendA =>
      intro listed vs ao W hG hk0 hpv hpre
      have hkk := (LKeep.drew (fun _ => False) (M := fun _ => True) w0 (fun h => h)).trans hk0
      have hk := hkk.1
      have hkm := hkk.2
      clear hkk
      have hact := hG.act
      have hT := hG.lst hpre 0 #[true, true, true, true, true, true, true, true, true, true, true, false] rfl (by kernel_rfl) (hpre 0 (by decide) (by decide))
      rw [hG.ix hT (l := [0, 1, 2, 3, 4, 5, 6, 7, 8, 9, 10]) (by kernel_rfl)] at hact
      rw [hG.lo hT (k := 1) (by kernel_rfl)]
      have hv0 : vs 0 = fileVal f fa := hpv 0 (hpre 0 (by decide) (by decide))
      have hv1 : vs 1 = .slice A n c := hpv 1 (hpre 1 (by decide) (by decide))
      have hv2 : vs 2 = .pointer (some ⟨w.heap.size + 1, 1, none⟩) := hpv 2 (hpre 2 (by decide) (by decide))
      have hv3 : vs 3 = .int .i64 (l : Nat) := hpv 3 (hpre 3 (by decide) (by decide))
      have hv4 : vs 4 = .int .i64 (withM f p l) := hpv 4 (hpre 4 (by decide) (by decide))
      have hv5 : vs 5 = fileVal f fa := hpv 5 (hpre 5 (by decide) (by decide))
      have hv6 : vs 6 = .slice A n c := hpv 6 (hpre 6 (by decide) (by decide))
      have hv7 : vs 7 = .pointer (some ⟨w.heap.size + 1, 2, none⟩) := hpv 7 (hpre 7 (by decide) (by decide))
      have hv8 : vs 8 = .int .i64 (o : Nat) := hpv 8 (hpre 8 (by decide) (by decide))
      have hv9 : vs 9 = .int .i64 (withM f p o) := hpv 9 (hpre 9 (by decide) (by decide))
      have hv10 : vs 10 = .bool (withM f p l == withM f p o) := hpv 10 (hpre 10 (by decide) (by decide))
      clear hpv hpre hG hk0
      obtain rfl : ao = _ := hact
      subst hT
      simp only [setAll, List.setIfInBounds_toArray, List.set_cons_succ, List.set_cons_zero, List.getD_cons_succ, List.getD_cons_zero]
      simp only [hv0, hv1, hv2, hv3, hv4, hv5, hv6, hv7, hv8, hv9, hv10]
      clear hv0 hv1 hv2 hv3 hv4 hv5 hv6 hv7 hv8 hv9 hv10
      refine wpAny_all (rs := [11]) (by kernel_rfl) (by simp) ?_
      intro i2 hi2
      obtain rfl : i2 = 11 := by simpa using hi2
      refine wpOp_value (v := .bool (withM f p l == withM f p o)) (W' := W) rfl rfl ?_ ?_
      · go_simp
      try simp only [Act.put, List.setIfInBounds_toArray, List.set_cons_zero, List.set_cons_succ]
      refine wpAny_done (by kernel_rfl) ?_ _
      have HBZ := hide (HB0.out.trans ((hk.below (B := w0.heap.size) (fun k h => h.elim) (Nat.le_refl _)).mono HB0.out.size))
      go_wp2_with fail
      go_ret
      exact ⟨by rw [HS.out]; simp [bne], HBZ.out⟩
  · obtain ⟨ho0, ho1⟩ := ho (by omega)
    obtain ⟨o, rfl⟩ : ∃ k : Nat, o = k := ⟨o.toNat, by omega⟩
    have hol : o < f.lots.length := by omega
    have e1 := HQ1.out.at_ 0
    have e2 := HQ1.out.at_ 1
    have e3 := HQ1.out.at_ 2
    have e4 := HQ1.out.at_ 3
    have e5 := HQ1.out.at_ 4
    simp only [fileCells, List.getElem?_toArray, List.getElem?_cons_zero, List.getElem?_cons_succ] at e1 e2 e3 e4 e5
    clear p2
    rw [Int.toNat_natCast] at HS
    go_wp2_with fail
    refine wp_region_rel (dst := fun oi => [58, 59, 60, 61, 62, 63, 64, 65, 66, 67, 68, 0].getD oi 0) (mono := fun oi => decide (oi < 11)) (pre := fun oi => decide (oi < 11)) (R := LKeep (fun _ => False) (fun _ => True))
      (Pv := fun oi v W => match oi with
        | 0 => v = fileVal f fa
        | 1 => v = .slice A n c
        | 2 => v = .pointer (some ⟨w.heap.size + 1, 1, none⟩)
        | 3 => v = .int .i64 (l : Nat)
        | 4 => v = .int .i64 (withM f p l)
        | 5 => v = fileVal f fa
        | 6 => v = .slice A n c
        | 7 => v = .pointer (some ⟨w.heap.size + 1, 2, none⟩)
        | 8 => v = .int .i64 (o : Nat)
        | 9 => v = .int .i64 (withM f p o)
        | 10 => v = .bool (withM f p l != withM f p o)
        | _ => True) (by kernel_rfl) (by kernel_rfl) (LKeep.refl _ _) (fun _ _ _ h h' => h.trans h') ?hstB ?hstepB ?hendB
    case hstB =>
      intro oi v W W' h hk
      match oi, h with
      | 0, h => exact h
      | 1, h => exact h
      | 2, h => exact h
      | 3, h => exact h
      | 4, h => exact h
      | 5, h => exact h
      | 6, h => exact h
      | 7, h => exact h
      | 8, h => exact h
      | 9, h => exact h
      | 10, h => exact h
      | oi + 11, h => exact trivial
    case hstepB =>
      intro oi hoi hom listed vs ao W hU hk0 hpv haft Ko hK
      have hkk := (LKeep.drew (fun _ => False) (M := fun _ => True) w0 (fun h => h)).trans hk0
      have hk := hkk.1
      have hkm := hkk.2
      clear hkk
      match oi, hoi, hom with
      | 0, hoi, hom =>
        have z3 : ao.tmps[3]?.getD undef = .pointer (some ⟨w.heap.size, 0, none⟩) := hU.same 3 (by decide)
        have y0 := (hk.cell (b := w.heap.size) (o := 0) (hz1) (fun h => h)).trans (e1)
        have y1 := (hk.cell (b := w.heap.size) (o := 1) (hz1) (fun h => h)).trans (e2)
        have y2 := (hk.cell (b := w.heap.size) (o := 2) (hz1) (fun h => h)).trans (e3)
        have y3 := (hk.cell (b := w.heap.size) (o := 3) (hz1) (fun h => h)).trans (e4)
        have y4 := (hk.cell (b := w.heap.size) (o := 4) (hz1) (fun h => h)).trans (e5)
        refine wpOp_value (v := fileVal f fa) (W' := W) rfl rfl ?_ (hK _ _ (LKeep.refl _ _ _) rfl)
        go_simp
      | 1, hoi, hom =>
        have z2 : ao.tmps[2]?.getD undef = .slice A n c := hU.same 2 (by decide)
        refine wpOp_value (v := .slice A n c) (W' := W) rfl rfl ?_ (hK _ _ (LKeep.refl _ _ _) rfl)
        go_simp
      | 2, hoi, hom =>
        have z4 : ao.tmps[4]?.getD undef = .pointer (some ⟨w.heap.size + 1, 0, none⟩) := hU.same 4 (by decide)
        refine wpOp_value (v := .pointer (some ⟨w.heap.size + 1, 1, none⟩)) (W' := W) rfl rfl ?_ (hK _ _ (LKeep.refl _ _ _) rfl)
        go_simp
      | 3, hoi, hom =>
        have l2 := haft _ rfl { on := 2, ground := .data } (by simp) rfl
        have hv2 : vs 2 = .pointer (some ⟨w.heap.size + 1, 1, none⟩) := hpv 2 l2
        have s2 : ao.tmps[60]?.getD undef = vs 2 := hU.slot 2 (by decide) l2
        rw [hv2] at s2
        have y0 := (hk.cell (b := w.heap.size + 1) (o := 1) (hz2) (fun h => h)).trans (r1)
        refine wpOp_value (v := .int .i64 (l : Nat)) (W' := W) rfl rfl ?_ (hK _ _ (LKeep.refl _ _ _) rfl)
        go_simp
      | 4, hoi, hom =>
        have l0 := haft _ rfl { on := 0, ground := .data } (by simp) rfl
        have hv0 : vs 0 = fileVal f fa := hpv 0 l0
        have s0 : ao.tmps[58]?.getD undef = vs 0 := hU.slot 0 (by decide) l0
        rw [hv0] at s0
        have l1 := haft _ rfl { on := 1, ground := .data } (by simp) rfl
        have hv1 : vs 1 = .slice A n c := hpv 1 l1
        have s1 : ao.tmps[59]?.getD undef = vs 1 := hU.slot 1 (by decide) l1
        rw [hv1] at s1
        have l3 := haft _ rfl { on := 3, ground := .data } (by simp) rfl
        have hv3 : vs 3 = .int .i64 (l : Nat) := hpv 3 l3
        have s3 : ao.tmps[61]?.getD undef = vs 3 := hU.slot 3 (by decide) l3
        rw [hv3] at s3
        refine wpOp_enter (f := 54) (args := #[fileVal f fa, .slice A n c, .int .i64 (l : Nat)]) (W' := W) rfl rfl ?_ ((with7_any (HF0.out.next (hk.below (B := w0.heap.size) (fun k h => h.elim) (Nat.le_refl _))) (HP0.out.next (hk.below (B := w0.heap.size) (fun k h => h.elim) (Nat.le_refl _))) HPL.out hl).mono (fun e w'' h => ?_))
        · go_simp
        · obtain ⟨he, hbw⟩ := h
          exact ⟨_, he, hK _ _ (LKeep.below hbw (fun h => h)) rfl⟩
      | 5, hoi, hom =>
        have z3 : ao.tmps[3]?.getD undef = .pointer (some ⟨w.heap.size, 0, none⟩) := hU.same 3 (by decide)
        have y0 := (hk.cell (b := w.heap.size) (o := 0) (hz1) (fun h => h)).trans (e1)
        have y1 := (hk.cell (b := w.heap.size) (o := 1) (hz1) (fun h => h)).trans (e2)
        have y2 := (hk.cell (b := w.heap.size) (o := 2) (hz1) (fun h => h)).trans (e3)
        have y3 := (hk.cell (b := w.heap.size) (o := 3) (hz1) (fun h => h)).trans (e4)
        have y4 := (hk.cell (b := w.heap.size) (o := 4) (hz1) (fun h => h)).trans (e5)
        refine wpOp_value (v := fileVal f fa) (W' := W) rfl rfl ?_ (hK _ _ (LKeep.refl _ _ _) rfl)
        go_simp
      | 6, hoi, hom =>
        have z2 : ao.tmps[2]?.getD undef = .slice A n c := hU.same 2 (by decide)
        refine wpOp_value (v := .slice A n c) (W' := W) rfl rfl ?_ (hK _ _ (LKeep.refl _ _ _) rfl)
        go_simp
      | 7, hoi, hom =>
        have z4 : ao.tmps[4]?.getD undef = .pointer (some ⟨w.heap.size + 1, 0, none⟩) := hU.same 4 (by decide)
        refine wpOp_value (v := .pointer (some ⟨w.heap.size + 1, 2, none⟩)) (W' := W) rfl rfl ?_ (hK _ _ (LKeep.refl _ _ _) rfl)
        go_simp
      | 8, hoi, hom =>
        have l7 := haft _ rfl { on := 7, ground := .data } (by simp) rfl
        have hv7 : vs 7 = .pointer (some ⟨w.heap.size + 1, 2, none⟩) := hpv 7 l7
        have s7 : ao.tmps[65]?.getD undef = vs 7 := hU.slot 7 (by decide) l7
        rw [hv7] at s7
        have y0 := (hk.cell (b := w.heap.size + 1) (o := 2) (hz2) (fun h => h)).trans (r2)
        refine wpOp_value (v := .int .i64 (o : Nat)) (W' := W) rfl rfl ?_ (hK _ _ (LKeep.refl _ _ _) rfl)
        go_simp
      | 9, hoi, hom =>
        have l5 := haft _ rfl { on := 5, ground := .data } (by simp) rfl
        have hv5 : vs 5 = fileVal f fa := hpv 5 l5
        have s5 : ao.tmps[63]?.getD undef = vs 5 := hU.slot 5 (by decide) l5
        rw [hv5] at s5
        have l6 := haft _ rfl { on := 6, ground := .data } (by simp) rfl
        have hv6 : vs 6 = .slice A n c := hpv 6 l6
        have s6 : ao.tmps[64]?.getD undef = vs 6 := hU.slot 6 (by decide) l6
        rw [hv6] at s6
        have l8 := haft _ rfl { on := 8, ground := .data } (by simp) rfl
        have hv8 : vs 8 = .int .i64 (o : Nat) := hpv 8 l8
        have s8 : ao.tmps[66]?.getD undef = vs 8 := hU.slot 8 (by decide) l8
        rw [hv8] at s8
        refine wpOp_enter (f := 54) (args := #[fileVal f fa, .slice A n c, .int .i64 (o : Nat)]) (W' := W) rfl rfl ?_ ((with7_any (HF0.out.next (hk.below (B := w0.heap.size) (fun k h => h.elim) (Nat.le_refl _))) (HP0.out.next (hk.below (B := w0.heap.size) (fun k h => h.elim) (Nat.le_refl _))) HPL.out hol).mono (fun e w'' h => ?_))
        · go_simp
        · obtain ⟨he, hbw⟩ := h
          exact ⟨_, he, hK _ _ (LKeep.below hbw (fun h => h)) rfl⟩
      | 10, hoi, hom =>
        have l4 := haft _ rfl { on := 4, ground := .data } (by simp) rfl
        have hv4 : vs 4 = .int .i64 (withM f p l) := hpv 4 l4
        have s4 : ao.tmps[62]?.getD undef = vs 4 := hU.slot 4 (by decide) l4
        rw [hv4] at s4
        have l9 := haft _ rfl { on := 9, ground := .data } (by simp) rfl
        have hv9 : vs 9 = .int .i64 (withM f p o) := hpv 9 l9
        have s9 : ao.tmps[67]?.getD undef = vs 9 := hU.slot 9 (by decide) l9
        rw [hv9] at s9
        refine wpOp_value (v := .bool (withM f p l != withM f p o)) (W' := W) rfl rfl ?_ (hK _ _ (LKeep.refl _ _ _) rfl)
        go_simp
      | oi + 11, hoi, hom => exact absurd (of_decide_eq_true hom) (by omega)
    case hendB =>
      intro listed vs ao W hG hk0 hpv hpre
      have hkk := (LKeep.drew (fun _ => False) (M := fun _ => True) w0 (fun h => h)).trans hk0
      have hk := hkk.1
      have hkm := hkk.2
      clear hkk
      have hact := hG.act
      have hT := hG.lst hpre 0 #[true, true, true, true, true, true, true, true, true, true, true, false] rfl (by kernel_rfl) (hpre 0 (by decide) (by decide))
      rw [hG.ix hT (l := [0, 1, 2, 3, 4, 5, 6, 7, 8, 9, 10]) (by kernel_rfl)] at hact
      rw [hG.lo hT (k := 1) (by kernel_rfl)]
      have hv0 : vs 0 = fileVal f fa := hpv 0 (hpre 0 (by decide) (by decide))
      have hv1 : vs 1 = .slice A n c := hpv 1 (hpre 1 (by decide) (by decide))
      have hv2 : vs 2 = .pointer (some ⟨w.heap.size + 1, 1, none⟩) := hpv 2 (hpre 2 (by decide) (by decide))
      have hv3 : vs 3 = .int .i64 (l : Nat) := hpv 3 (hpre 3 (by decide) (by decide))
      have hv4 : vs 4 = .int .i64 (withM f p l) := hpv 4 (hpre 4 (by decide) (by decide))
      have hv5 : vs 5 = fileVal f fa := hpv 5 (hpre 5 (by decide) (by decide))
      have hv6 : vs 6 = .slice A n c := hpv 6 (hpre 6 (by decide) (by decide))
      have hv7 : vs 7 = .pointer (some ⟨w.heap.size + 1, 2, none⟩) := hpv 7 (hpre 7 (by decide) (by decide))
      have hv8 : vs 8 = .int .i64 (o : Nat) := hpv 8 (hpre 8 (by decide) (by decide))
      have hv9 : vs 9 = .int .i64 (withM f p o) := hpv 9 (hpre 9 (by decide) (by decide))
      have hv10 : vs 10 = .bool (withM f p l != withM f p o) := hpv 10 (hpre 10 (by decide) (by decide))
      clear hpv hpre hG hk0
      obtain rfl : ao = _ := hact
      subst hT
      simp only [setAll, List.setIfInBounds_toArray, List.set_cons_succ, List.set_cons_zero, List.getD_cons_succ, List.getD_cons_zero]
      simp only [hv0, hv1, hv2, hv3, hv4, hv5, hv6, hv7, hv8, hv9, hv10]
      clear hv0 hv1 hv2 hv3 hv4 hv5 hv6 hv7 hv8 hv9 hv10
      refine wpAny_all (rs := [11]) (by kernel_rfl) (by simp) ?_
      intro i2 hi2
      obtain rfl : i2 = 11 := by simpa using hi2
      refine wpOp_value (v := .bool (withM f p l != withM f p o)) (W' := W) rfl rfl ?_ ?_
      · go_simp
      try simp only [Act.put, List.setIfInBounds_toArray, List.set_cons_zero, List.set_cons_succ]
      refine wpAny_done (by kernel_rfl) ?_ _
      have HBZ := hide (HB0.out.trans ((hk.below (B := w0.heap.size) (fun k h => h.elim) (Nat.le_refl _)).mono HB0.out.size))
      go_wp2_with fail
      go_ret
      exact ⟨by rw [HS.out]; simp [bne], HBZ.out⟩
end Go.Proofs.Ytllmahcanipcpaa
