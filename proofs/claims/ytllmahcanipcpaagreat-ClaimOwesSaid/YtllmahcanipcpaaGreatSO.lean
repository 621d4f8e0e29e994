/- The contract of the reference's Owes. -/
import Derived.Test.YtllmahcanipcpaaGreatSN
import Derived.OwnWalkIn
import Derived.TacticsInMore
import Derived.Deep.DeepCutAuto
set_option linter.unusedVariables false
set_option linter.unusedSimpArgs false
namespace Go.Proofs.YtllmahcanipcpaaGreat
open Go.RowKit
attribute [local go_sem ↓] Go.wp_at_zero Go.wp_at_succ
attribute [local go_sem] Oper.semAt_some

def joinS (s : Span) (n : Int) : Span := ⟨min s.lo n, max s.hi n⟩
def oweTo (f : File) (party : Int) (T : List (List Int)) (i : Nat) : Span := (T.take i).foldl (fun s g => joinS s (sumM f g party)) ⟨sumM f (nth T 0) party, sumM f (nth T 0) party⟩
def owesR (f : File) (n : Int) : Span × Int := if errK f (indexM f n f.parties.length) = 0 then (oweTo f n (truthsM f []) (truthsM f []).length, 0) else (⟨0, 0⟩, errK f (indexM f n f.parties.length))
theorem oweTo_succ (f : File) (party : Int) (T : List (List Int)) {i : Nat} (hi : i < T.length) : oweTo f party T (i + 1) = joinS (oweTo f party T i) (sumM f (nth T i) party) := by
  rw [oweTo, take_nth hi, List.foldl_append]; rfl
theorem oweTo_one (f : File) (party : Int) (T : List (List Int)) (h : 0 < T.length) : oweTo f party T 1 = ⟨sumM f (nth T 0) party, sumM f (nth T 0) party⟩ := by
  rw [oweTo_succ f party T h]
  simp [oweTo, joinS]
set_option maxHeartbeats 4000000 in
set_option maxRecDepth 100000 in
theorem owes7_any {f : File} {fa : FA} {w : World} (h : FileV w w.heap.size f fa) (l : Int) :
    Calls Tryz.prog 18 #[fileVal f fa, .int .i64 l] w fun e w' => e = .returned (.tuple #[.agg #[.int .i64 (owesR f l).1.lo, .int .i64 (owesR f l).1.hi], .int .i64 (owesR f l).2]) ∧ Below w.heap.size w w' := by
  have hB0 : Below w.heap.size w ((w.alloc (.cells (fileCells f fa) 28)).alloc (.cells #[.int .i64 0, .int .i64 0] 38)) := ((Below.refl _ _).alloc (Nat.le_refl _) _).alloc (by simp) _
  have HBX0 : Hid (BoxF ((w.alloc (.cells (fileCells f fa) 28)).alloc (.cells #[.int .i64 0, .int .i64 0] 38)) w.heap.size f fa) := hide ⟨h.next hB0, Blk.made.alloc _⟩
  have HR0 : Hid (Blk ((w.alloc (.cells (fileCells f fa) 28)).alloc (.cells #[.int .i64 0, .int .i64 0] 38)) (w.heap.size + 1) 38 #[.int .i64 0, .int .i64 0]) := hide (Blk.made' (by simp))
  have HB0 := hide hB0
  have hm1 := h.m1
  unfold maxLen at hm1
  have HLB := hide (show (0 : Int) ≤ (f.parties.length : Nat) ∧ ((f.parties.length : Nat) : Int) ≤ 9223372036854775807 by omega)
  clear h hB0
  go_enter Tryz.func18, Tryz.ntmps18
  go_upto_region 1 with (fail)
  generalize ((w.alloc (.cells (fileCells f fa) 28)).alloc (.cells #[.int .i64 0, .int .i64 0] 38)) = w0 at *
  obtain ⟨hz, e1, e2, e3, e4, e5⟩ := HBX0.out.cells
  refine wp_region_rel (dst := fun oi => [12, 13, 14, 15, 16, 17, 18, 19, 11, 20, 21, 6, 7].getD oi 0) (mono := fun oi => decide (oi < 13)) (pre := fun oi => decide (oi < 13)) (R := LKeep (fun _ => False) (fun _ => True))
    (Pv := fun oi v W => match oi with
      | 0 => v = fileVal f fa
      | 1 => v = fileVal f fa
      | 2 => v = .int .i64 l
      | 3 => v = .pointer (some ⟨w.heap.size, 0, none⟩)
      | 4 => v = .slice fa.A1 f.parties.length fa.c1
      | 5 => v = .int .i64 (f.parties.length : Nat)
      | 6 => v = .int .i64 (indexM f l (f.parties.length : Nat))
      | 7 => ∃ gl cp, v = .tuple #[.slice gl (lstK f (indexM f l f.parties.length)).length cp, .int .i64 (errK f (indexM f l f.parties.length))] ∧ ListsS W W.heap.size gl (lstK f (indexM f l f.parties.length)).length cp (lstK f (indexM f l f.parties.length))
      | 8 => ∃ gl cp, v = .tuple #[.slice gl (lstK f (indexM f l f.parties.length)).length cp, .int .i64 (errK f (indexM f l f.parties.length))] ∧ ListsS W W.heap.size gl (lstK f (indexM f l f.parties.length)).length cp (lstK f (indexM f l f.parties.length))
      | 9 => ∃ gl cp, v = .slice gl (lstK f (indexM f l f.parties.length)).length cp ∧ ListsS W W.heap.size gl (lstK f (indexM f l f.parties.length)).length cp (lstK f (indexM f l f.parties.length))
      | 10 => v = .int .i64 (errK f (indexM f l f.parties.length))
      | 11 => ∃ gl cp, v = .slice gl (lstK f (indexM f l f.parties.length)).length cp ∧ ListsS W W.heap.size gl (lstK f (indexM f l f.parties.length)).length cp (lstK f (indexM f l f.parties.length))
      | 12 => v = .int .i64 (errK f (indexM f l f.parties.length))
      | _ => True) (by kernel_rfl) (by kernel_rfl) (LKeep.refl _ _) (fun _ _ _ h h' => h.trans h') ?hst ?hstep ?hend
  case hst =>
    intro oi v W W' h hk
    match oi, h with
    | 0, h => exact h
    | 1, h => exact h
    | 2, h => exact h
    | 3, h => exact h
    | 4, h => exact h
    | 5, h => exact h
    | 6, h => exact h
    | 7, h => obtain ⟨gl, cp, h1, h2⟩ := h; exact ⟨gl, cp, h1, h2.next (hk.1.below (B := W.heap.size) (fun k h => h.elim) (Nat.le_refl _))⟩
    | 8, h => obtain ⟨gl, cp, h1, h2⟩ := h; exact ⟨gl, cp, h1, h2.next (hk.1.below (B := W.heap.size) (fun k h => h.elim) (Nat.le_refl _))⟩
    | 9, h => obtain ⟨gl, cp, h1, h2⟩ := h; exact ⟨gl, cp, h1, h2.next (hk.1.below (B := W.heap.size) (fun k h => h.elim) (Nat.le_refl _))⟩
    | 10, h => exact h
    | 11, h => obtain ⟨gl, cp, h1, h2⟩ := h; exact ⟨gl, cp, h1, h2.next (hk.1.below (B := W.heap.size) (fun k h => h.elim) (Nat.le_refl _))⟩
    | 12, h => exact h
    | oi + 13, h => exact trivial
  case hstep =>
    intro oi hoi hom listed vs ao W hU hk0 hpv haft Ko hK
    have hkk := (LKeep.drew (fun _ => False) (M := fun _ => True) w0 (fun h => h)).trans hk0
    have hk := hkk.1
    have hkm := hkk.2
    clear hkk
    match oi, hoi, hom with
    | 0, hoi, hom =>
      have z2 : ao.tmps[2]?.getD undef = .pointer (some ⟨w.heap.size, 0, none⟩) := hU.same 2 (by decide)
      have y0 := (hk.cell (b := w.heap.size) (o := 0) (hz) (fun h => h)).trans (e1)
      have y1 := (hk.cell (b := w.heap.size) (o := 1) (hz) (fun h => h)).trans (e2)
      have y2 := (hk.cell (b := w.heap.size) (o := 2) (hz) (fun h => h)).trans (e3)
      have y3 := (hk.cell (b := w.heap.size) (o := 3) (hz) (fun h => h)).trans (e4)
      have y4 := (hk.cell (b := w.heap.size) (o := 4) (hz) (fun h => h)).trans (e5)
      refine wpOp_value (v := fileVal f fa) (W' := W) rfl rfl ?_ (hK _ _ (LKeep.refl _ _ _) rfl)
      go_simp
    | 1, hoi, hom =>
      have z2 : ao.tmps[2]?.getD undef = .pointer (some ⟨w.heap.size, 0, none⟩) := hU.same 2 (by decide)
      have y0 := (hk.cell (b := w.heap.size) (o := 0) (hz) (fun h => h)).trans (e1)
      have y1 := (hk.cell (b := w.heap.size) (o := 1) (hz) (fun h => h)).trans (e2)
      have y2 := (hk.cell (b := w.heap.size) (o := 2) (hz) (fun h => h)).trans (e3)
      have y3 := (hk.cell (b := w.heap.size) (o := 3) (hz) (fun h => h)).trans (e4)
      have y4 := (hk.cell (b := w.heap.size) (o := 4) (hz) (fun h => h)).trans (e5)
      refine wpOp_value (v := fileVal f fa) (W' := W) rfl rfl ?_ (hK _ _ (LKeep.refl _ _ _) rfl)
      go_simp
    | 2, hoi, hom =>
      have z1 : ao.tmps[1]?.getD undef = .int .i64 l := hU.same 1 (by decide)
      refine wpOp_value (v := .int .i64 l) (W' := W) rfl rfl ?_ (hK _ _ (LKeep.refl _ _ _) rfl)
      go_simp
    | 3, hoi, hom =>
      have z2 : ao.tmps[2]?.getD undef = .pointer (some ⟨w.heap.size, 0, none⟩) := hU.same 2 (by decide)
      refine wpOp_value (v := .pointer (some ⟨w.heap.size, 0, none⟩)) (W' := W) rfl rfl ?_ (hK _ _ (LKeep.refl _ _ _) rfl)
      go_simp
    | 4, hoi, hom =>
      have l3 := haft _ rfl { on := 3, ground := .data } (by simp) rfl
      have hv3 : vs 3 = .pointer (some ⟨w.heap.size, 0, none⟩) := hpv 3 l3
      have s3 : ao.tmps[15]?.getD undef = vs 3 := hU.slot 3 (by decide) l3
      rw [hv3] at s3
      have y0 := (hk.cell (b := w.heap.size) (o := 0) (hz) (fun h => h)).trans (e1)
      refine wpOp_value (v := .slice fa.A1 f.parties.length fa.c1) (W' := W) rfl rfl ?_ (hK _ _ (LKeep.refl _ _ _) rfl)
      go_simp
    | 5, hoi, hom =>
      have l4 := haft _ rfl { on := 4, ground := .data } (by simp) rfl
      have hv4 : vs 4 = .slice fa.A1 f.parties.length fa.c1 := hpv 4 l4
      have s4 : ao.tmps[16]?.getD undef = vs 4 := hU.slot 4 (by decide) l4
      rw [hv4] at s4
      refine wpOp_value (v := .int .i64 (f.parties.length : Nat)) (W' := W) rfl rfl ?_ (hK _ _ (LKeep.refl _ _ _) rfl)
      go_simp
    | 6, hoi, hom =>
      have l1 := haft _ rfl { on := 1, ground := .data } (by simp) rfl
      have hv1 : vs 1 = fileVal f fa := hpv 1 l1
      have s1 : ao.tmps[13]?.getD undef = vs 1 := hU.slot 1 (by decide) l1
      rw [hv1] at s1
      have l2 := haft _ rfl { on := 2, ground := .data } (by simp) rfl
      have hv2 : vs 2 = .int .i64 l := hpv 2 l2
      have s2 : ao.tmps[14]?.getD undef = vs 2 := hU.slot 2 (by decide) l2
      rw [hv2] at s2
      have l5 := haft _ rfl { on := 5, ground := .data } (by simp) rfl
      have hv5 : vs 5 = .int .i64 (f.parties.length : Nat) := hpv 5 l5
      have s5 : ao.tmps[17]?.getD undef = vs 5 := hU.slot 5 (by decide) l5
      rw [hv5] at s5
      refine wpOp_enter (f := 48) (args := #[fileVal f fa, .int .i64 l, .int .i64 ((f.parties.length : Nat))]) (W' := W) rfl rfl ?_ ((index7_any (HBX0.out.v.next (hk.below (B := w0.heap.size) (fun k h => h.elim) (Nat.le_refl _))) l (f.parties.length : Nat) HLB.out).mono (fun e w'' h => ?_))
      · go_simp
      · obtain ⟨he, hbw⟩ := h
        exact ⟨_, he, hK _ _ (LKeep.below hbw (fun h => h)) rfl⟩
    | 7, hoi, hom =>
      have l0 := haft _ rfl { on := 0, ground := .data } (by simp) rfl
      have hv0 : vs 0 = fileVal f fa := hpv 0 l0
      have s0 : ao.tmps[12]?.getD undef = vs 0 := hU.slot 0 (by decide) l0
      rw [hv0] at s0
      have l6 := haft _ rfl { on := 6, ground := .data } (by simp) rfl
      have hv6 : vs 6 = .int .i64 (indexM f l (f.parties.length : Nat)) := hpv 6 l6
      have s6 : ao.tmps[18]?.getD undef = vs 6 := hU.slot 6 (by decide) l6
      rw [hv6] at s6
      refine wpOp_enter (f := 47) (args := #[fileVal f fa, .int .i64 (indexM f l f.parties.length)]) (W' := W) rfl rfl ?_ ((known7_any (HBX0.out.v.next (hk.below (B := w0.heap.size) (fun k h => h.elim) (Nat.le_refl _))) _ index_valid).mono (fun e w'' h => ?_))
      · go_simp
      · obtain ⟨gl7, cp7, he, hi7, hbw⟩ := h
        exact ⟨_, he, hK _ _ (LKeep.below hbw (fun h => h)) ⟨_, _, rfl, hi7⟩⟩
    | 8, hoi, hom =>
      have l7 := haft _ rfl { on := 7, ground := .data } (by simp) rfl
      obtain ⟨gl7, cp7, hv7, hi7⟩ := hpv 7 l7
      have s7 : ao.tmps[19]?.getD undef = vs 7 := hU.slot 7 (by decide) l7
      rw [hv7] at s7
      refine wpOp_value (v := .tuple #[.slice gl7 (lstK f (indexM f l f.parties.length)).length cp7, .int .i64 (errK f (indexM f l f.parties.length))]) (W' := W) rfl rfl ?_ (hK _ _ (LKeep.refl _ _ _) ⟨_, _, rfl, hi7⟩)
      go_simp
    | 9, hoi, hom =>
      have l8 := haft _ rfl { on := 8, ground := .data } (by simp) rfl
      obtain ⟨gl8, cp8, hv8, hi8⟩ := hpv 8 l8
      have s8 : ao.tmps[11]?.getD undef = vs 8 := hU.slot 8 (by decide) l8
      rw [hv8] at s8
      refine wpOp_value (v := .slice gl8 (lstK f (indexM f l f.parties.length)).length cp8) (W' := W) rfl rfl ?_ (hK _ _ (LKeep.refl _ _ _) ⟨_, _, rfl, hi8⟩)
      go_simp
    | 10, hoi, hom =>
      have l8 := haft _ rfl { on := 8, ground := .data } (by simp) rfl
      obtain ⟨gl8, cp8, hv8, hi8⟩ := hpv 8 l8
      have s8 : ao.tmps[11]?.getD undef = vs 8 := hU.slot 8 (by decide) l8
      rw [hv8] at s8
      refine wpOp_value (v := .int .i64 (errK f (indexM f l f.parties.length))) (W' := W) rfl rfl ?_ (hK _ _ (LKeep.refl _ _ _) rfl)
      go_simp
    | 11, hoi, hom =>
      have l9 := haft _ rfl { on := 9, ground := .data } (by simp) rfl
      obtain ⟨gl9, cp9, hv9, hi9⟩ := hpv 9 l9
      have s9 : ao.tmps[20]?.getD undef = vs 9 := hU.slot 9 (by decide) l9
      rw [hv9] at s9
      refine wpOp_value (v := .slice gl9 (lstK f (indexM f l f.parties.length)).length cp9) (W' := W) rfl rfl ?_ (hK _ _ (LKeep.refl _ _ _) ⟨_, _, rfl, hi9⟩)
      go_simp
    | 12, hoi, hom =>
      have l10 := haft _ rfl { on := 10, ground := .data } (by simp) rfl
      have hv10 : vs 10 = .int .i64 (errK f (indexM f l f.parties.length)) := hpv 10 l10
      have s10 : ao.tmps[21]?.getD undef = vs 10 := hU.slot 10 (by decide) l10
      rw [hv10] at s10
      refine wpOp_value (v := .int .i64 (errK f (indexM f l f.parties.length))) (W' := W) rfl rfl ?_ (hK _ _ (LKeep.refl _ _ _) rfl)
      go_simp
    | oi + 13, hoi, hom => exact absurd (of_decide_eq_true hom) (by omega)
  case hend =>
    intro listed vs ao W hG hk0 hpv hpre
    have hkk := (LKeep.drew (fun _ => False) (M := fun _ => True) w0 (fun h => h)).trans hk0
    have hk := hkk.1
    have hkm := hkk.2
    clear hkk
    have hact := hG.act
    have hT := hG.lst hpre 0 #[true, true, true, true, true, true, true, true, true, true, true, true, true] rfl (by kernel_rfl) (hpre 0 (by decide) (by decide))
    rw [hG.ix hT (l := [0, 1, 2, 3, 4, 5, 6, 7, 8, 9, 10, 11, 12]) (by kernel_rfl)] at hact
    rw [hG.lo hT (k := 0) (by kernel_rfl)]
    have hv0 : vs 0 = fileVal f fa := hpv 0 (hpre 0 (by decide) (by decide))
    have hv1 : vs 1 = fileVal f fa := hpv 1 (hpre 1 (by decide) (by decide))
    have hv2 : vs 2 = .int .i64 l := hpv 2 (hpre 2 (by decide) (by decide))
    have hv3 : vs 3 = .pointer (some ⟨w.heap.size, 0, none⟩) := hpv 3 (hpre 3 (by decide) (by decide))
    have hv4 : vs 4 = .slice fa.A1 f.parties.length fa.c1 := hpv 4 (hpre 4 (by decide) (by decide))
    have hv5 : vs 5 = .int .i64 (f.parties.length : Nat) := hpv 5 (hpre 5 (by decide) (by decide))
    have hv6 : vs 6 = .int .i64 (indexM f l (f.parties.length : Nat)) := hpv 6 (hpre 6 (by decide) (by decide))
    obtain ⟨gl7, cp7, hv7, hi7⟩ := hpv 7 (hpre 7 (by decide) (by decide))
    obtain ⟨gl8, cp8, hv8, hi8⟩ := hpv 8 (hpre 8 (by decide) (by decide))
    obtain ⟨gl9, cp9, hv9, hi9⟩ := hpv 9 (hpre 9 (by decide) (by decide))
    have hv10 : vs 10 = .int .i64 (errK f (indexM f l f.parties.length)) := hpv 10 (hpre 10 (by decide) (by decide))
    obtain ⟨gl11, cp11, hv11, hi11⟩ := hpv 11 (hpre 11 (by decide) (by decide))
    have hv12 : vs 12 = .int .i64 (errK f (indexM f l f.parties.length)) := hpv 12 (hpre 12 (by decide) (by decide))
    clear hpv hpre hG hk0
    obtain rfl : ao = _ := hact
    subst hT
    simp only [setAll, List.setIfInBounds_toArray, List.set_cons_succ, List.set_cons_zero, List.getD_cons_succ, List.getD_cons_zero]
    simp only [hv0, hv1, hv2, hv3, hv4, hv5, hv6, hv7, hv8, hv9, hv10, hv11, hv12]
    clear hv0 hv1 hv2 hv3 hv4 hv5 hv6 hv7 hv8 hv9 hv10 hv11 hv12
    refine wpAny_done (by kernel_rfl) ?_ _
    have hbW := hk.below (B := w0.heap.size) (fun k h => h.elim) (Nat.le_refl _)
    have HBXW := hide (HBX0.out.next hbW)
    have HRW := hide (HR0.out.next hbW)
    have HBZ := hide (HB0.out.trans (hbW.mono HB0.out.size))
    have HLW := hide hi11
    clear hk hkm hbW hi7 hi8 hi9 hi11 HBX0 e1 e2 e3 e4 e5 hz HR0
    have HX := hide (show owesR f l = if errK f (indexM f l f.parties.length) = 0 then (oweTo f l (truthsM f []) (truthsM f []).length, 0) else (⟨0, 0⟩, errK f (indexM f l f.parties.length)) from rfl)
    have HEI := hide (fun (hh : indexM f l f.parties.length = 0) => (⟨index_valid hh, index_in hh⟩ : Valid f ∧ 0 ≤ l ∧ l < f.parties.length))
    have HEK := hide (fun (hh : errK f (indexM f l f.parties.length) = 0) => errK_zero hh)
    generalize hID : errK f (indexM f l f.parties.length) = er at *
    generalize lstK f (indexM f l f.parties.length) = T at *
    clear hID
    have r0 := HRW.out.at_ 0
    have r1 := HRW.out.at_ 1
    have r2 := HRW.out.free 0
    have r3 := HRW.out.free 1
    simp only [List.getElem?_toArray, List.getElem?_cons_zero, List.getElem?_cons_succ] at r0 r1
    have hzr := HRW.out.lt
    cases he : (er != 0) with
    | true =>
      have hne : ¬ er = 0 := by simpa using he
      have HY := hide (show owesR f l = (⟨0, 0⟩, er) by rw [HX.out, if_neg hne])
      clear hne
      go_wp2_with fail
      have b := (HRW.out.store 0 (.int .i64 0)).store 1 (.int .i64 0)
      have hkS : Keep (fun q => q = w.heap.size + 1) W ((W.setCell ⟨w.heap.size + 1, 0, none⟩ (.int .i64 0)).setCell ⟨w.heap.size + 1, 1, none⟩ (.int .i64 0)) := (Keep.setCell _ _ _ (fun q => q = w.heap.size + 1) rfl).trans (Keep.setCell _ _ _ (fun q => q = w.heap.size + 1) rfl)
      have hBF := HBZ.out.trans (hkS.below (B := w.heap.size) (fun k h => by omega) HBZ.out.size)
      have g0 := b.at_ 0
      have g1 := b.at_ 1
      simp at g0 g1
      refine bodyPost_ret (v := .tuple #[.agg #[.int .i64 0, .int .i64 0], .int .i64 er]) (by simp [results, Tryz.results18, go_sem, g0, g1]) rfl ⟨by rw [HY.out], hBF⟩
    | false =>
      have hz' : er = 0 := by simpa using he
      obtain ⟨hE0, hTM, hT0⟩ := HEK.out hz'
      obtain ⟨hv, hl0, hl1⟩ := HEI.out hE0
      subst hTM
      have HY := hide (show owesR f l = (oweTo f l (truthsM f []) (truthsM f []).length, 0) by rw [HX.out, if_pos hz'])
      subst hz'
      have HV := hide hv
      have HPL := hide (fun g (hg : g ∈ truthsM f []) => truthsM_pl hv hg)
      have hT256 := truthsM_256 hv []
      have HOS := hide (fun i (hi : i < (truthsM f []).length) => oweTo_succ f l (truthsM f []) hi)
      have HO1 := hide (oweTo_one f l (truthsM f []) hT0)
      clear hE0 hl0 hl1 hv HX HEI HEK
      generalize truthsM f [] = T at *
      obtain ⟨W2, rfl⟩ : ∃ W2 : World, W2 = W := ⟨_, rfl⟩
      obtain ⟨hz, e1, e2, e3, e4, e5⟩ := HBXW.out.cells
      obtain ⟨b0, o0, A0, c0, hA0, hb0, hc0, hi0⟩ := HLW.out.at_ hT0
      have HA0 := hide hA0
      have HGI := hide (hi0.more (Nat.le_refl _))
      have HPG := hide (HPL.out (nth T 0) (by rw [nth_eq hT0]; exact List.getElem_mem hT0))
      subst hA0
      have hT1 : (0 : Int) < (T.length : Int) := by omega
      generalize nth T 0 = g0 at *
      generalize hn0 : sumM f g0 l = n0 at *
      have HN0 := hide hn0
      clear hn0 hi0
      go_wp2_with fail
      refine wp_region_rel (dst := fun oi => [26, 27, 28, 29, 30, 31, 8].getD oi 0) (mono := fun oi => decide (oi < 7)) (pre := fun oi => decide (oi < 7)) (R := LKeep (fun _ => False) (fun _ => True))
        (Pv := fun oi v W => match oi with
          | 0 => v = fileVal f fa
          | 1 => v = .int .i64 l
          | 2 => v = .slice (some ⟨b0, o0, none⟩) T.length cp11
          | 3 => v = .pointer (some ⟨b0, o0, none⟩)
          | 4 => v = .slice A0 g0.length c0
          | 5 => v = .int .i64 n0
          | 6 => v = .int .i64 n0
          | _ => True) (by kernel_rfl) (by kernel_rfl) (LKeep.refl _ _) (fun _ _ _ h h' => h.trans h') ?hstC ?hstepC ?hendC
      case hstC =>
        intro oi v W W' h hk
        match oi, h with
        | 0, h => exact h
        | 1, h => exact h
        | 2, h => exact h
        | 3, h => exact h
        | 4, h => exact h
        | 5, h => exact h
        | 6, h => exact h
        | oi + 7, h => exact trivial
      case hstepC =>
        intro oi hoi hom listed vs ao W hU hk0 hpv haft Ko hK
        have hkk := (LKeep.drew (fun _ => False) (M := fun _ => True) W2 (fun h => h)).trans hk0
        have hk := hkk.1
        have hkm := hkk.2
        clear hkk
        match oi, hoi, hom with
        | 0, hoi, hom =>
          have z2 : ao.tmps[2]?.getD undef = .pointer (some ⟨w.heap.size, 0, none⟩) := hU.same 2 (by decide)
          have y0 := (hk.cell (b := w.heap.size) (o := 0) (hz) (fun h => h)).trans (e1)
          have y1 := (hk.cell (b := w.heap.size) (o := 1) (hz) (fun h => h)).trans (e2)
          have y2 := (hk.cell (b := w.heap.size) (o := 2) (hz) (fun h => h)).trans (e3)
          have y3 := (hk.cell (b := w.heap.size) (o := 3) (hz) (fun h => h)).trans (e4)
          have y4 := (hk.cell (b := w.heap.size) (o := 4) (hz) (fun h => h)).trans (e5)
          refine wpOp_value (v := fileVal f fa) (W' := W) rfl rfl ?_ (hK _ _ (LKeep.refl _ _ _) rfl)
          go_simp
        | 1, hoi, hom =>
          have z1 : ao.tmps[1]?.getD undef = .int .i64 l := hU.same 1 (by decide)
          refine wpOp_value (v := .int .i64 l) (W' := W) rfl rfl ?_ (hK _ _ (LKeep.refl _ _ _) rfl)
          go_simp
        | 2, hoi, hom =>
          have z6 : ao.tmps[6]?.getD undef = .slice (some ⟨b0, o0, none⟩) T.length cp11 := hU.same 6 (by decide)
          refine wpOp_value (v := .slice (some ⟨b0, o0, none⟩) T.length cp11) (W' := W) rfl rfl ?_ (hK _ _ (LKeep.refl _ _ _) rfl)
          go_simp
        | 3, hoi, hom =>
          have l2 := haft _ rfl { on := 2, ground := .data } (by simp) rfl
          have hv2 : vs 2 = .slice (some ⟨b0, o0, none⟩) T.length cp11 := hpv 2 l2
          have s2 : ao.tmps[28]?.getD undef = vs 2 := hU.slot 2 (by decide) l2
          rw [hv2] at s2
          refine wpOp_value (v := .pointer (some ⟨b0, o0, none⟩)) (W' := W) rfl rfl ?_ (hK _ _ (LKeep.refl _ _ _) rfl)
          go_simp
        | 4, hoi, hom =>
          have l3 := haft _ rfl { on := 3, ground := .data } (by simp) rfl
          have hv3 : vs 3 = .pointer (some ⟨b0, o0, none⟩) := hpv 3 l3
          have s3 : ao.tmps[29]?.getD undef = vs 3 := hU.slot 3 (by decide) l3
          rw [hv3] at s3
          have y0 := (hk.cell (b := b0) (o := o0) (hb0) (fun h => h)).trans ((by simpa using hc0))
          refine wpOp_value (v := .slice A0 g0.length c0) (W' := W) rfl rfl ?_ (hK _ _ (LKeep.refl _ _ _) rfl)
          go_simp
        | 5, hoi, hom =>
          have l0 := haft _ rfl { on := 0, ground := .data } (by simp) rfl
          have hv0 : vs 0 = fileVal f fa := hpv 0 l0
          have s0 : ao.tmps[26]?.getD undef = vs 0 := hU.slot 0 (by decide) l0
          rw [hv0] at s0
          have l1 := haft _ rfl { on := 1, ground := .data } (by simp) rfl
          have hv1 : vs 1 = .int .i64 l := hpv 1 l1
          have s1 : ao.tmps[27]?.getD undef = vs 1 := hU.slot 1 (by decide) l1
          rw [hv1] at s1
          have l4 := haft _ rfl { on := 4, ground := .data } (by simp) rfl
          have hv4 : vs 4 = .slice A0 g0.length c0 := hpv 4 l4
          have s4 : ao.tmps[30]?.getD undef = vs 4 := hU.slot 4 (by decide) l4
          rw [hv4] at s4
          refine wpOp_enter (f := 32) (args := #[fileVal f fa, .int .i64 l, .slice A0 g0.length c0]) (W' := W) rfl rfl ?_ (((sum7_any (HBXW.out.v.next (hk.below (B := W2.heap.size) (fun k h => h.elim) (Nat.le_refl _))) HV.out (HGI.out.next (hk.below (B := W2.heap.size) (fun k h => h.elim) (Nat.le_refl _))) HPG.out l).mono (fun e w h => by rw [HN0.out] at h; exact h)).mono (fun e w'' h => ?_))
          · go_simp
          · obtain ⟨he, hbw⟩ := h
            exact ⟨_, he, hK _ _ (LKeep.below hbw (fun h => h)) rfl⟩
        | 6, hoi, hom =>
          have l5 := haft _ rfl { on := 5, ground := .data } (by simp) rfl
          have hv5 : vs 5 = .int .i64 n0 := hpv 5 l5
          have s5 : ao.tmps[31]?.getD undef = vs 5 := hU.slot 5 (by decide) l5
          rw [hv5] at s5
          refine wpOp_value (v := .int .i64 n0) (W' := W) rfl rfl ?_ (hK _ _ (LKeep.refl _ _ _) rfl)
          go_simp
        | oi + 7, hoi, hom => exact absurd (of_decide_eq_true hom) (by omega)
      case hendC =>
        intro listed vs ao W hG hk0 hpv hpre
        have hkk := (LKeep.drew (fun _ => False) (M := fun _ => True) W2 (fun h => h)).trans hk0
        have hk := hkk.1
        have hkm := hkk.2
        clear hkk
        have hact := hG.act
        have hT := hG.lst hpre 0 #[true, true, true, true, true, true, true] rfl (by kernel_rfl) (hpre 0 (by decide) (by decide))
        rw [hG.ix hT (l := [0, 1, 2, 3, 4, 5, 6]) (by kernel_rfl)] at hact
        rw [hG.lo hT (k := 0) (by kernel_rfl)]
        have hv0 : vs 0 = fileVal f fa := hpv 0 (hpre 0 (by decide) (by decide))
        have hv1 : vs 1 = .int .i64 l := hpv 1 (hpre 1 (by decide) (by decide))
        have hv2 : vs 2 = .slice (some ⟨b0, o0, none⟩) T.length cp11 := hpv 2 (hpre 2 (by decide) (by decide))
        have hv3 : vs 3 = .pointer (some ⟨b0, o0, none⟩) := hpv 3 (hpre 3 (by decide) (by decide))
        have hv4 : vs 4 = .slice A0 g0.length c0 := hpv 4 (hpre 4 (by decide) (by decide))
        have hv5 : vs 5 = .int .i64 n0 := hpv 5 (hpre 5 (by decide) (by decide))
        have hv6 : vs 6 = .int .i64 n0 := hpv 6 (hpre 6 (by decide) (by decide))
        clear hpv hpre hG hk0
        obtain rfl : ao = _ := hact
        subst hT
        simp only [setAll, List.setIfInBounds_toArray, List.set_cons_succ, List.set_cons_zero, List.getD_cons_succ, List.getD_cons_zero]
        simp only [hv0, hv1, hv2, hv3, hv4, hv5, hv6]
        clear hv0 hv1 hv2 hv3 hv4 hv5 hv6
        refine wpAny_done (by kernel_rfl) ?_ _
        have hb4 := (hk.below (B := W2.heap.size) (fun k h => h.elim) (Nat.le_refl _))
        have HBX4 := hide (HBXW.out.next hb4)
        have HL4 := hide (HLW.out.next hb4)
        have HR4 := hide (HRW.out.next hb4)
        have HB4 := hide (HBZ.out.trans (hb4.mono HBZ.out.size))
        clear hk hkm hb4
        obtain ⟨W4, rfl⟩ : ∃ W4 : World, W4 = W := ⟨_, rfl⟩
        go_upto_region 6 with (fail)
        have hb5 : Below W4.heap.size W4 (W4.alloc (.cells #[.int .i64 n0, .int .i64 n0] 38)) := (Below.refl _ _).alloc (Nat.le_refl _) _
        have b9 : Blk (W4.alloc (.cells #[.int .i64 n0, .int .i64 n0] 38)) W4.heap.size 38 #[.int .i64 n0, .int .i64 n0] := Blk.made
        have HB5 := hide hb5
        have HQ9 := hide b9
        clear hb5 b9
        generalize (W4.alloc (.cells #[.int .i64 n0, .int .i64 n0] 38)) = w5 at *
        go_wp2_with fail
        go_loopw [10] (fun v10 wr => ∃ i : Nat, 1 ≤ i ∧ i ≤ T.length ∧ v10 = .int .i64 i ∧ Below W4.heap.size W4 wr ∧ Blk wr W4.heap.size 38 #[.int .i64 (oweTo f l T i).lo, .int .i64 (oweTo f l T i).hi]) (fun v10 _ => T.length - (intOf v10).toNat)
        case atStart => exact ⟨1, Nat.le_refl _, hT0, rfl, HB5.out, by rw [HO1.out]; exact HQ9.out⟩
        case round =>
          obtain ⟨i, hi1, hi2, rfl, hB, hQ⟩ := hrel
          have hi0 : (0 : Int) ≤ (i : Int) := Int.natCast_nonneg _
          have hzr := hB.size
          have HV5 := hide ((HBX4.out.v.below hB).more hzr)
          have HK5 := hide (HBX4.out.k.below hB HBX4.out.k.lt)
          have HBXr : Hid (BoxF wr w.heap.size f fa) := hide ⟨HV5.out, HK5.out⟩
          have HRr := hide (HR4.out.below hB HR4.out.lt)
          have hz9 := hQ.lt
          obtain ⟨hz, e1, e2, e3, e4, e5⟩ := HBXr.out.cells
          by_cases hlt : i < T.length
          · have hi3 : (i : Int) < (T.length : Int) := by omega
            obtain ⟨bg, og, Ag, cg, hAg, hbg, hgc, hgi⟩ := (HL4.out.below hB).at_ hlt
            simp only [Option.some.injEq, Addr.mk.injEq] at hAg
            obtain ⟨rfl, rfl, -⟩ := hAg
            have HGr := hide (hgi.more hzr)
            have hbgz : b0 < wr.heap.size := by omega
            have HPG2 := hide (HPL.out (nth T i) (by rw [nth_eq hlt]; exact List.getElem_mem hlt))
            have HSU := hide (HOS.out i hlt)
            have HB := hide hB
            have HQ := hide hQ
            have s0 := hQ.at_ 0
            have s1 := hQ.at_ 1
            simp only [List.getElem?_toArray, List.getElem?_cons_zero, List.getElem?_cons_succ] at s0 s1
            clear hB hQ hgi
            generalize nth T i = g at *
            generalize hsm : sumM f g l = sm at *
            have HSM := hide hsm
            clear hsm
            generalize oweTo f l T i = sp at *
            obtain ⟨lo, hi⟩ := sp
            dsimp only at *
            go_wp2_with fail
            refine wp_region_rel (dst := fun oi => [41, 42, 43, 44, 45, 46, 47, 48, 49, 0].getD oi 0) (mono := fun oi => decide (oi < 9)) (pre := fun oi => decide (oi < 9)) (R := LKeep (fun _ => False) (fun _ => True))
              (Pv := fun oi v W => match oi with
                | 0 => v = .agg #[.int .i64 lo, .int .i64 hi]
                | 1 => v = fileVal f fa
                | 2 => v = .int .i64 l
                | 3 => v = .slice (some ⟨b0, o0, none⟩) T.length cp11
                | 4 => v = .int .i64 (i : Nat)
                | 5 => v = .pointer (some ⟨b0, o0 + i, none⟩)
                | 6 => v = .slice Ag g.length cg
                | 7 => v = .int .i64 sm
                | 8 => v = .agg #[.int .i64 (min lo sm), .int .i64 (max hi sm)]
                | _ => True) (by kernel_rfl) (by kernel_rfl) (LKeep.refl _ _) (fun _ _ _ h h' => h.trans h') ?hstD ?hstepD ?hendD
            case hstD =>
              intro oi v W W' h hk
              match oi, h with
              | 0, h => exact h
              | 1, h => exact h
              | 2, h => exact h
              | 3, h => exact h
              | 4, h => exact h
              | 5, h => exact h
              | 6, h => exact h
              | 7, h => exact h
              | 8, h => exact h
              | oi + 9, h => exact trivial
            case hstepD =>
              intro oi hoi hom listed vs ao W hU hk0 hpv haft Ko hK
              have hkk := (LKeep.drew (fun _ => False) (M := fun _ => True) wr (fun h => h)).trans hk0
              have hk := hkk.1
              have hkm := hkk.2
              clear hkk
              match oi, hoi, hom with
              | 0, hoi, hom =>
                have z9 : ao.tmps[9]?.getD undef = .pointer (some ⟨W4.heap.size, 0, none⟩) := hU.same 9 (by decide)
                have y0 := (hk.cell (b := W4.heap.size) (o := 0) (hz9) (fun h => h)).trans (s0)
                have y1 := (hk.cell (b := W4.heap.size) (o := 1) (hz9) (fun h => h)).trans (s1)
                refine wpOp_value (v := .agg #[.int .i64 lo, .int .i64 hi]) (W' := W) rfl rfl ?_ (hK _ _ (LKeep.refl _ _ _) rfl)
                go_simp
              | 1, hoi, hom =>
                have z2 : ao.tmps[2]?.getD undef = .pointer (some ⟨w.heap.size, 0, none⟩) := hU.same 2 (by decide)
                have y0 := (hk.cell (b := w.heap.size) (o := 0) (hz) (fun h => h)).trans (e1)
                have y1 := (hk.cell (b := w.heap.size) (o := 1) (hz) (fun h => h)).trans (e2)
                have y2 := (hk.cell (b := w.heap.size) (o := 2) (hz) (fun h => h)).trans (e3)
                have y3 := (hk.cell (b := w.heap.size) (o := 3) (hz) (fun h => h)).trans (e4)
                have y4 := (hk.cell (b := w.heap.size) (o := 4) (hz) (fun h => h)).trans (e5)
                refine wpOp_value (v := fileVal f fa) (W' := W) rfl rfl ?_ (hK _ _ (LKeep.refl _ _ _) rfl)
                go_simp
              | 2, hoi, hom =>
                have z1 : ao.tmps[1]?.getD undef = .int .i64 l := hU.same 1 (by decide)
                refine wpOp_value (v := .int .i64 l) (W' := W) rfl rfl ?_ (hK _ _ (LKeep.refl _ _ _) rfl)
                go_simp
              | 3, hoi, hom =>
                have z6 : ao.tmps[6]?.getD undef = .slice (some ⟨b0, o0, none⟩) T.length cp11 := hU.same 6 (by decide)
                refine wpOp_value (v := .slice (some ⟨b0, o0, none⟩) T.length cp11) (W' := W) rfl rfl ?_ (hK _ _ (LKeep.refl _ _ _) rfl)
                go_simp
              | 4, hoi, hom =>
                have z10 : ao.tmps[10]?.getD undef = .int .i64 (i : Nat) := hU.same 10 (by decide)
                refine wpOp_value (v := .int .i64 (i : Nat)) (W' := W) rfl rfl ?_ (hK _ _ (LKeep.refl _ _ _) rfl)
                go_simp
              | 5, hoi, hom =>
                have l3 := haft _ rfl { on := 3, ground := .data } (by simp) rfl
                have hv3 : vs 3 = .slice (some ⟨b0, o0, none⟩) T.length cp11 := hpv 3 l3
                have s3 : ao.tmps[44]?.getD undef = vs 3 := hU.slot 3 (by decide) l3
                rw [hv3] at s3
                have l4 := haft _ rfl { on := 4, ground := .data } (by simp) rfl
                have hv4 : vs 4 = .int .i64 (i : Nat) := hpv 4 l4
                have s4 : ao.tmps[45]?.getD undef = vs 4 := hU.slot 4 (by decide) l4
                rw [hv4] at s4
                refine wpOp_value (v := .pointer (some ⟨b0, o0 + i, none⟩)) (W' := W) rfl rfl ?_ (hK _ _ (LKeep.refl _ _ _) rfl)
                go_simp
              | 6, hoi, hom =>
                have l5 := haft _ rfl { on := 5, ground := .data } (by simp) rfl
                have hv5 : vs 5 = .pointer (some ⟨b0, o0 + i, none⟩) := hpv 5 l5
                have s5 : ao.tmps[46]?.getD undef = vs 5 := hU.slot 5 (by decide) l5
                rw [hv5] at s5
                have y0 := (hk.cell (b := b0) (o := o0 + i) (hbgz) (fun h => h)).trans (hgc)
                refine wpOp_value (v := .slice Ag g.length cg) (W' := W) rfl rfl ?_ (hK _ _ (LKeep.refl _ _ _) rfl)
                go_simp
              | 7, hoi, hom =>
                have l1 := haft _ rfl { on := 1, ground := .data } (by simp) rfl
                have hv1 : vs 1 = fileVal f fa := hpv 1 l1
                have s1 : ao.tmps[42]?.getD undef = vs 1 := hU.slot 1 (by decide) l1
                rw [hv1] at s1
                have l2 := haft _ rfl { on := 2, ground := .data } (by simp) rfl
                have hv2 : vs 2 = .int .i64 l := hpv 2 l2
                have s2 : ao.tmps[43]?.getD undef = vs 2 := hU.slot 2 (by decide) l2
                rw [hv2] at s2
                have l6 := haft _ rfl { on := 6, ground := .data } (by simp) rfl
                have hv6 : vs 6 = .slice Ag g.length cg := hpv 6 l6
                have s6 : ao.tmps[47]?.getD undef = vs 6 := hU.slot 6 (by decide) l6
                rw [hv6] at s6
                refine wpOp_enter (f := 32) (args := #[fileVal f fa, .int .i64 l, .slice Ag g.length cg]) (W' := W) rfl rfl ?_ (((sum7_any (HBXr.out.v.next (hk.below (B := wr.heap.size) (fun k h => h.elim) (Nat.le_refl _))) HV.out (HGr.out.next (hk.below (B := wr.heap.size) (fun k h => h.elim) (Nat.le_refl _))) HPG2.out l).mono (fun e w h => by rw [HSM.out] at h; exact h)).mono (fun e w'' h => ?_))
                · go_simp
                · obtain ⟨he, hbw⟩ := h
                  exact ⟨_, he, hK _ _ (LKeep.below hbw (fun h => h)) rfl⟩
              | 8, hoi, hom =>
                have l0 := haft _ rfl { on := 0, ground := .data } (by simp) rfl
                have hv0 : vs 0 = .agg #[.int .i64 lo, .int .i64 hi] := hpv 0 l0
                have s0 : ao.tmps[41]?.getD undef = vs 0 := hU.slot 0 (by decide) l0
                rw [hv0] at s0
                have l7 := haft _ rfl { on := 7, ground := .data } (by simp) rfl
                have hv7 : vs 7 = .int .i64 sm := hpv 7 l7
                have s7 : ao.tmps[48]?.getD undef = vs 7 := hU.slot 7 (by decide) l7
                rw [hv7] at s7
                refine wpOp_enter (f := 58) (args := #[.agg #[.int .i64 lo, .int .i64 hi], .int .i64 sm]) (W' := W) rfl rfl ?_ ((join_any ⟨lo, hi⟩ sm W).mono (fun e w'' h => ?_))
                · go_simp
                · obtain ⟨he, hbw⟩ := h
                  exact ⟨_, he, hK _ _ (LKeep.below hbw (fun h => h)) rfl⟩
              | oi + 9, hoi, hom => exact absurd (of_decide_eq_true hom) (by omega)
            case hendD =>
              intro listed vs ao W hG hk0 hpv hpre
              have hkk := (LKeep.drew (fun _ => False) (M := fun _ => True) wr (fun h => h)).trans hk0
              have hk := hkk.1
              have hkm := hkk.2
              clear hkk
              have hact := hG.act
              have hT := hG.lst hpre 0 #[true, true, true, true, true, true, true, true, true, false] rfl (by kernel_rfl) (hpre 0 (by decide) (by decide))
              rw [hG.ix hT (l := [0, 1, 2, 3, 4, 5, 6, 7, 8]) (by kernel_rfl)] at hact
              rw [hG.lo hT (k := 1) (by kernel_rfl)]
              have hv0 : vs 0 = .agg #[.int .i64 lo, .int .i64 hi] := hpv 0 (hpre 0 (by decide) (by decide))
              have hv1 : vs 1 = fileVal f fa := hpv 1 (hpre 1 (by decide) (by decide))
              have hv2 : vs 2 = .int .i64 l := hpv 2 (hpre 2 (by decide) (by decide))
              have hv3 : vs 3 = .slice (some ⟨b0, o0, none⟩) T.length cp11 := hpv 3 (hpre 3 (by decide) (by decide))
              have hv4 : vs 4 = .int .i64 (i : Nat) := hpv 4 (hpre 4 (by decide) (by decide))
              have hv5 : vs 5 = .pointer (some ⟨b0, o0 + i, none⟩) := hpv 5 (hpre 5 (by decide) (by decide))
              have hv6 : vs 6 = .slice Ag g.length cg := hpv 6 (hpre 6 (by decide) (by decide))
              have hv7 : vs 7 = .int .i64 sm := hpv 7 (hpre 7 (by decide) (by decide))
              have hv8 : vs 8 = .agg #[.int .i64 (min lo sm), .int .i64 (max hi sm)] := hpv 8 (hpre 8 (by decide) (by decide))
              clear hpv hpre hG hk0
              obtain rfl : ao = _ := hact
              subst hT
              simp only [setAll, List.setIfInBounds_toArray, List.set_cons_succ, List.set_cons_zero, List.getD_cons_succ, List.getD_cons_zero]
              simp only [hv0, hv1, hv2, hv3, hv4, hv5, hv6, hv7, hv8]
              clear hv0 hv1 hv2 hv3 hv4 hv5 hv6 hv7 hv8
              have n2 := HQ.out.keep hk (by simp)
              have t0 := n2.at_ 0
              have t1 := n2.at_ 1
              have u0 := n2.free 0
              have u1 := n2.free 1
              simp only [List.getElem?_toArray, List.getElem?_cons_zero, List.getElem?_cons_succ] at t0 t1
              refine wpAny_all (rs := [9]) (by kernel_rfl) (by simp) ?_
              intro i2 hi2
              obtain rfl : i2 = 9 := by simpa using hi2
              refine wpOp_skip (W' := (W.setCell ⟨W4.heap.size, 0, none⟩ (.int .i64 (min lo sm))).setCell ⟨W4.heap.size, 1, none⟩ (.int .i64 (max hi sm))) rfl rfl ?_ ?_
              · go_simp
              refine wpAny_done (by kernel_rfl) ?_ _
              have hs : Keep (fun k => k = W4.heap.size) W ((W.setCell ⟨W4.heap.size, 0, none⟩ (.int .i64 (min lo sm))).setCell ⟨W4.heap.size, 1, none⟩ (.int .i64 (max hi sm))) := (Keep.setCell _ _ _ (fun k => k = W4.heap.size) rfl).trans (Keep.setCell _ _ _ (fun k => k = W4.heap.size) rfl)
              have b2 : Blk ((W.setCell ⟨W4.heap.size, 0, none⟩ (.int .i64 (min lo sm))).setCell ⟨W4.heap.size, 1, none⟩ (.int .i64 (max hi sm))) W4.heap.size 38 #[.int .i64 (min lo sm), .int .i64 (max hi sm)] := (n2.store 0 _).store 1 _
              have hBB := HB.out.trans (((hk.below (B := wr.heap.size) (fun k h => h.elim) (Nat.le_refl _)).mono hzr).trans (hs.below (B := W4.heap.size) (fun k h => Nat.le_of_eq h.symm) (Nat.le_trans hzr (hk.below (B := wr.heap.size) (fun k h => h.elim) (Nat.le_refl _)).size)))
              generalize (W.setCell ⟨W4.heap.size, 0, none⟩ (.int .i64 (min lo sm))).setCell ⟨W4.heap.size, 1, none⟩ (.int .i64 (max hi sm)) = X at *
              clear t0 t1 u0 u1 n2 hk hkm hs
              go_wp2_with fail
              go_roundw
              case rel => exact ⟨i + 1, by omega, by omega, by go_num, hBB, by rw [HSU.out]; exact b2⟩
              case measure => simp [intOf]; omega
          · have hii : i = T.length := by omega
            rw [hii] at hQ
            clear hii
            have HBF := hide (HB4.out.trans (hB.mono HB4.out.size))
            have s0 := hQ.at_ 0
            have s1 := hQ.at_ 1
            simp only [List.getElem?_toArray, List.getElem?_cons_zero, List.getElem?_cons_succ] at s0 s1
            have q0 := HRr.out.at_ 0
            have q1 := HRr.out.at_ 1
            have q2 := HRr.out.free 0
            have q3 := HRr.out.free 1
            simp only [List.getElem?_toArray, List.getElem?_cons_zero, List.getElem?_cons_succ] at q0 q1
            have hzq := HRr.out.lt
            clear hQ hB
            generalize oweTo f l T T.length = sp at *
            obtain ⟨lo, hi⟩ := sp
            dsimp only at *
            go_wp2_with fail
            have b := (HRr.out.store 0 (.int .i64 lo)).store 1 (.int .i64 hi)
            have hkS : Keep (fun q => q = w.heap.size + 1) wr ((wr.setCell ⟨w.heap.size + 1, 0, none⟩ (.int .i64 lo)).setCell ⟨w.heap.size + 1, 1, none⟩ (.int .i64 hi)) := (Keep.setCell _ _ _ (fun q => q = w.heap.size + 1) rfl).trans (Keep.setCell _ _ _ (fun q => q = w.heap.size + 1) rfl)
            have hBF := HBF.out.trans (hkS.below (B := w.heap.size) (fun k h => by omega) HBF.out.size)
            have p0 := b.at_ 0
            have p1 := b.at_ 1
            simp at p0 p1
            exact bodyPost_ret (v := .tuple #[.agg #[.int .i64 lo, .int .i64 hi], .int .i64 0]) (by simp [results, Tryz.results18, go_sem, p0, p1]) rfl ⟨by rw [HY.out], hBF⟩
end Go.Proofs.YtllmahcanipcpaaGreat
