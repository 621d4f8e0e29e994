/- Equal of the reference. -/
import Derived.Test.YtocdmkilnbpkdaaGreatDoorZD
import Derived.Test.YtocdmkilnbpkdaaGreatDoorZV
import Derived.OwnWalkIn
import Derived.Laws.StructEq
import Derived.TacticsInMore
import Derived.Deep.DeepCutAuto
set_option linter.unusedVariables false
set_option linter.unusedSimpArgs false
namespace Go.Proofs.YtocdmkilnbpkdaaGreatDoor
open Go.RowKit
attribute [local go_sem] Oper.semAt_some

set_option maxRecDepth 100000 in
theorem step_equal (w : World) (s t : ByteArray) (a b c e : Int) : (Op.equalIn 10000 68 (.agg #[.string s, .int .i64 a, .int .i64 b]) (.agg #[.string t, .int .i64 c, .int .i64 e])).run Tryz.prog w = .ok (eqS s t && (a == c && b == e)) w := by
 go_simp
 unfold eqS
 cases h0 : (s.toList == t.toList) <;> by_cases h1 : a = c <;> by_cases h2 : b = e <;> simp_all
set_option maxRecDepth 100000 in
theorem tally_equal (w : World) (a b c a' b' c' : Int) : (Op.equalIn 10000 50 (.agg #[.int .i64 a, .int .i64 b, .int .i64 c]) (.agg #[.int .i64 a', .int .i64 b', .int .i64 c'])).run Tryz.prog w = .ok (a == a' && (b == b' && c == c')) w := by
 go_simp
 by_cases h0 : a = a' <;> by_cases h1 : b = b' <;> by_cases h2 : c = c' <;> simp [h0, h1, h2]
theorem step_ne (W : World) (m1 n1 : ByteArray) (m2 n2 m3 n3 : Int) : (if m1.toList = n1.toList then if m2 = n2 then if m3 = n3 then Result.ok (Next.value (.bool false)) W else Result.ok (Next.value (.bool true)) W else Result.ok (Next.value (.bool true)) W else Result.ok (Next.value (.bool true)) W) =
 Result.ok (Next.value (.bool (!eqS m1 n1 || (!m2 == n2 || !m3 == n3)))) W := by
 unfold eqS
 by_cases h0 : m1.toList = n1.toList <;> by_cases h1 : m2 = n2 <;> by_cases h2 : m3 = n3 <;> simp [h0, h1, h2]
theorem tally_ne (W : World) (m1 n1 : Int) (m2 n2 m3 n3 : Int) : (if m1 = n1 then if m2 = n2 then if m3 = n3 then Result.ok (Next.value (.bool false)) W else Result.ok (Next.value (.bool true)) W else Result.ok (Next.value (.bool true)) W else Result.ok (Next.value (.bool true)) W) =
 Result.ok (Next.value (.bool (!m1 == n1 || (!m2 == n2 || !m3 == n3)))) W := by
 by_cases h0 : m1 = n1 <;> by_cases h1 : m2 = n2 <;> by_cases h2 : m3 = n3 <;> simp [h0, h1, h2]
def stepB (s t : Step) : Bool := eqS s.name t.name && (s.from_ == t.from_ && s.loss == t.loss)
def tallyB (s t : Tally) : Bool := s.step == t.step && (s.hands == t.hands && s.off == t.off)
def stepsTo (b c : Book) (j : Nat) : Bool := (List.range j).all fun i => stepB (nth b.steps i) (nth c.steps i)
def talliesTo (b c : Book) (j : Nat) : Bool := (List.range j).all fun i => tallyB (nth b.tallies i) (nth c.tallies i)
def equalB (b c : Book) : Bool := (b.steps.length == c.steps.length) && (b.tallies.length == c.tallies.length) && stepsTo b c b.steps.length && talliesTo b c b.tallies.length
theorem stepsTo_succ (b c : Book) (j : Nat) : stepsTo b c (j + 1) = (stepsTo b c j && stepB (nth b.steps j) (nth c.steps j)) := by simp [stepsTo, List.range_succ]
theorem talliesTo_succ (b c : Book) (j : Nat) : talliesTo b c (j + 1) = (talliesTo b c j && tallyB (nth b.tallies j) (nth c.tallies j)) := by simp [talliesTo, List.range_succ]
theorem stepsTo_false {b c : Book} {j n : Nat} (h : stepsTo b c j = false) (hn : j ≤ n) : stepsTo b c n = false := by
 rw [stepsTo, List.all_eq_false] at h ⊢
 obtain ⟨x, hx, h2⟩ := h
 exact ⟨x, by simp at hx ⊢; omega, h2⟩
theorem talliesTo_false {b c : Book} {j n : Nat} (h : talliesTo b c j = false) (hn : j ≤ n) : talliesTo b c n = false := by
 rw [talliesTo, List.all_eq_false] at h ⊢
 obtain ⟨x, hx, h2⟩ := h
 exact ⟨x, by simp at hx ⊢; omega, h2⟩
theorem addr3 {g o g' o' : Nat} {p : Option Nat} (e : (some ⟨g, o, p⟩ : Option Addr) = some ⟨g', o', none⟩) : g = g' ∧ o = o' ∧ p = none := by injection e with e; injection e with e1 e2 e3; exact ⟨e1, e2, e3⟩
attribute [local go_sem] step_equal tally_equal
set_option maxHeartbeats 4000000 in
set_option maxRecDepth 100000 in
theorem equal_any {b c : Book} {a d : BA} {w : World} (h : BookV w w.heap.size b a) (h' : BookV w w.heap.size c d) :
 Calls Tryz.prog 37 #[bookVal b a, bookVal c d] w fun e w' => e = .returned (.bool (equalB b c)) ∧ Below w.heap.size w w' := by
 have hgs : Tryz.prog.eqGuardType Tryz.prog.depth 68 = false := by kernel_rfl
 have hgt : Tryz.prog.eqGuardType Tryz.prog.depth 50 = false := by kernel_rfl
 have hX1 : BoxB (w.alloc (.cells (bookCells b a) 25)) w.heap.size b a := BoxB.made h
 have hb1 : Below w.heap.size w (w.alloc (.cells (bookCells b a) 25)) := (Below.refl _ _).alloc (Nat.le_refl _) _
 have hX2 : BoxB ((w.alloc (.cells (bookCells b a) 25)).alloc (.cells (bookCells c d) 25)) (w.alloc (.cells (bookCells b a) 25)).heap.size c d := BoxB.made (h'.next hb1)
 have hb2 : Below (w.alloc (.cells (bookCells b a) 25)).heap.size (w.alloc (.cells (bookCells b a) 25)) ((w.alloc (.cells (bookCells b a) 25)).alloc (.cells (bookCells c d) 25)) := (Below.refl _ _).alloc (Nat.le_refl _) _
 have HX1 := hide (hX1.next hb2)
 have HX2 := hide hX2
 have HB := hide (hb1.trans (hb2.mono hb1.size))
 have hma := h.m1
 have hmb := h.m2
 have hmc := h'.m1
 have hmd := h'.m2
 unfold maxLen at hma hmb hmc hmd
 have hv : BookV w w.heap.size b a := h
 clear h h' hX1 hX2 hb1 hb2 hv
 obtain ⟨A1, A2, c1, c2⟩ := a
 obtain ⟨D1, D2, d1, d2⟩ := d
 go_enter Tryz.func37, Tryz.ntmps37
 go_upto_region 1 with (fail)
 generalize ((w.alloc (.cells (bookCells b ⟨A1, A2, c1, c2⟩) 25)).alloc (.cells (bookCells c ⟨D1, D2, d1, d2⟩) 25)) = v0 at *
 rw [show (w.alloc (.cells (bookCells b ⟨A1, A2, c1, c2⟩) 25)).heap.size = w.heap.size + 1 by simp] at HX2
 obtain ⟨zx1, x0, x1⟩ := HX1.out.cells
 obtain ⟨zx2, x2, x3⟩ := HX2.out.cells
 by_cases e1 : b.steps.length = c.steps.length
 · by_cases e2 : b.tallies.length = c.tallies.length
   · have q1 : ((b.steps.length : Int) == (c.steps.length : Int)) = true := by rw [e1]; simp
     have q2 : ((b.tallies.length : Int) == (c.tallies.length : Int)) = true := by rw [e2]; simp
     have q1' : ((b.steps.length : Int) != (c.steps.length : Int)) = false := by rw [e1]; simp
     have q2' : ((b.tallies.length : Int) != (c.tallies.length : Int)) = false := by rw [e2]; simp
     have HEQ := hide (show equalB b c = (stepsTo b c b.steps.length && talliesTo b c b.tallies.length) by rw [equalB, e1, e2]; simp)
     have HE1 := hide e1
     have HE2 := hide e2
     clear e1 e2
     go_wp2_with fail
     clear q1 q2 q1' q2'
     go_loopw [5, 23, 24, 25, 26, 27, 28, 29, 30, 31, 32, 33, 34, 35, 36, 37, 38, 39, 40] (fun i _ _ _ _ _ _ _ _ _ _ _ _ _ _ _ _ _ _ wr => ∃ j : Nat, j ≤ b.steps.length ∧ i = .int .i64 (j : Nat) ∧ Hid (stepsTo b c j = true) ∧ Hid (Below v0.heap.size v0 wr)) (fun i _ _ _ _ _ _ _ _ _ _ _ _ _ _ _ _ _ _ _ => b.steps.length - (intOf i).toNat)
     case atStart => exact ⟨0, Nat.zero_le _, rfl, hide rfl, hide (Below.refl _ _)⟩
     case round =>
      obtain ⟨j, hj, rfl, HST, HBW⟩ := hrel
      have HY1 := hide (HX1.out.next HBW.out)
      have HY2 := hide (HX2.out.next HBW.out)
      obtain ⟨zb, xb, xb1⟩ := HY1.out.cells
      obtain ⟨zc, xc, xc1⟩ := HY2.out.cells
      by_cases hlt : j < b.steps.length
      · have hjl : (j : Int) < (b.steps.length : Int) := by omega
        have hlc : j < c.steps.length := by have := HE1.out; omega
        have hjc : (j : Int) < (c.steps.length : Int) := by omega
        have HSS := hide (stepsTo_succ b c j)
        obtain ⟨g1, o1, rfl, hg1, a0, a1, a2⟩ := HY1.out.v.steps.steps hlt
        obtain ⟨g2, o2, rfl, hg2, b0, b1, b2⟩ := HY2.out.v.steps.steps hlc
        have HSB := hide (show stepB (nth b.steps j) (nth c.steps j) = (eqS (nth b.steps j).name (nth c.steps j).name && ((nth b.steps j).from_ == (nth c.steps j).from_ && (nth b.steps j).loss == (nth c.steps j).loss)) from rfl)
        go_upto_region 6 with fail
        generalize (nth b.steps j).name = m1 at *
        generalize (nth b.steps j).from_ = m2 at *
        generalize (nth b.steps j).loss = m3 at *
        generalize (nth c.steps j).name = n1 at *
        generalize (nth c.steps j).from_ = n2 at *
        generalize (nth c.steps j).loss = n3 at *
        refine wp_region_rel4 (dst := fun oi => [30, 31, 32, 33, 34, 35, 36, 37, 38, 39, 40].getD oi 0) (mono := fun oi => decide (oi < 11)) (pre := fun oi => decide (oi < 11)) (R := LKeep (fun _ => False) (fun _ => True))
         (Pv := fun oi v W => match oi with
          | 0 => v = .pointer (some ⟨w.heap.size, 0, none⟩)
          | 1 => v = .slice (some ⟨g1, o1, none⟩) b.steps.length c1
          | 2 => v = .int .i64 (j : Nat)
          | 3 => v = .pointer (some ⟨g1, o1 + j * 3, none⟩)
          | 4 => v = .agg #[.string m1, .int .i64 m2, .int .i64 m3]
          | 5 => v = .pointer (some ⟨w.heap.size + 1, 0, none⟩)
          | 6 => v = .slice (some ⟨g2, o2, none⟩) c.steps.length d1
          | 7 => v = .int .i64 (j : Nat)
          | 8 => v = .pointer (some ⟨g2, o2 + j * 3, none⟩)
          | 9 => v = .agg #[.string n1, .int .i64 n2, .int .i64 n3]
          | 10 => v = .bool (!(eqS m1 n1 && (m2 == n2 && m3 == n3)))
          | _ => True) (by kernel_rfl) (by kernel_rfl) (LKeep.refl _ _) (fun _ _ _ h h' => h.trans h') ?hstr6 ?hstepr6 ?hendr6
        case hstr6 =>
         intro oi v W W' h hk
         match oi, h with
         | 0, h => exact h
         | 1, h => exact h
         | 2, h => exact h
         | 3, h => exact h
         | 4, h => exact h
         | 5, h => exact h
         | 6, h => exact h
         | 7, h => exact h
         | 8, h => exact h
         | 9, h => exact h
         | 10, h => exact h
         | oi + 11, h => exact trivial
        case hstepr6 =>
         intro oi hoi hom listed vs ao W hU hk0 hpv haft Ko hK
         have hkk := (LKeep.drew (fun _ => False) (M := fun _ => True) wr (fun h => h)).trans hk0
         have hk := hkk.1
         have hkm := hkk.2
         clear hkk
         match oi, hoi, hom with
         | 0, hoi, hom =>
          have z2 : ao.tmps[2]?.getD undef = .pointer (some ⟨w.heap.size, 0, none⟩) := hU.same 2 (by decide)
          refine wpOp_value (v := .pointer (some ⟨w.heap.size, 0, none⟩)) (W' := W) rfl rfl ?_ (hK _ _ (LKeep.refl _ _ _) rfl)
          go_simp
         | 1, hoi, hom =>
          have l0 := haft _ rfl ⟨0, .data⟩ (by simp) rfl
          have s0 : ao.tmps[30]?.getD undef = .pointer (some ⟨w.heap.size, 0, none⟩) := (hU.slot 0 (by decide) l0).trans (hpv 0 l0)
          have y0 := (hk.cell (b := w.heap.size) (o := 0) (zb) (fun h => h)).trans (xb)
          refine wpOp_value (v := .slice (some ⟨g1, o1, none⟩) b.steps.length c1) (W' := W) rfl rfl ?_ (hK _ _ (LKeep.refl _ _ _) rfl)
          go_simp
         | 2, hoi, hom =>
          have z5 : ao.tmps[5]?.getD undef = .int .i64 (j : Nat) := hU.same 5 (by decide)
          refine wpOp_value (v := .int .i64 (j : Nat)) (W' := W) rfl rfl ?_ (hK _ _ (LKeep.refl _ _ _) rfl)
          go_simp
         | 3, hoi, hom =>
          have l1 := haft _ rfl ⟨1, .data⟩ (by simp) rfl
          have s1 : ao.tmps[31]?.getD undef = .slice (some ⟨g1, o1, none⟩) b.steps.length c1 := (hU.slot 1 (by decide) l1).trans (hpv 1 l1)
          have l2 := haft _ rfl ⟨2, .data⟩ (by simp) rfl
          have s2 : ao.tmps[32]?.getD undef = .int .i64 (j : Nat) := (hU.slot 2 (by decide) l2).trans (hpv 2 l2)
          refine wpOp_value (v := .pointer (some ⟨g1, o1 + j * 3, none⟩)) (W' := W) rfl rfl ?_ (hK _ _ (LKeep.refl _ _ _) rfl)
          go_simp
         | 4, hoi, hom =>
          have l3 := haft _ rfl ⟨3, .data⟩ (by simp) rfl
          have s3 : ao.tmps[33]?.getD undef = .pointer (some ⟨g1, o1 + j * 3, none⟩) := (hU.slot 3 (by decide) l3).trans (hpv 3 l3)
          have y0 := (hk.cell (b := g1) (o := o1 + j * 3) (hg1) (fun h => h)).trans (a0)
          have y1 := (hk.cell (b := g1) (o := o1 + j * 3 + 1) (hg1) (fun h => h)).trans (a1)
          have y2 := (hk.cell (b := g1) (o := o1 + j * 3 + 2) (hg1) (fun h => h)).trans (a2)
          refine wpOp_value (v := .agg #[.string m1, .int .i64 m2, .int .i64 m3]) (W' := W) rfl rfl ?_ (hK _ _ (LKeep.refl _ _ _) rfl)
          go_simp
         | 5, hoi, hom =>
          have z3 : ao.tmps[3]?.getD undef = .pointer (some ⟨w.heap.size + 1, 0, none⟩) := hU.same 3 (by decide)
          refine wpOp_value (v := .pointer (some ⟨w.heap.size + 1, 0, none⟩)) (W' := W) rfl rfl ?_ (hK _ _ (LKeep.refl _ _ _) rfl)
          go_simp
         | 6, hoi, hom =>
          have l5 := haft _ rfl ⟨5, .data⟩ (by simp) rfl
          have s5 : ao.tmps[35]?.getD undef = .pointer (some ⟨w.heap.size + 1, 0, none⟩) := (hU.slot 5 (by decide) l5).trans (hpv 5 l5)
          have y0 := (hk.cell (b := w.heap.size + 1) (o := 0) (zc) (fun h => h)).trans (xc)
          refine wpOp_value (v := .slice (some ⟨g2, o2, none⟩) c.steps.length d1) (W' := W) rfl rfl ?_ (hK _ _ (LKeep.refl _ _ _) rfl)
          go_simp
         | 7, hoi, hom =>
          have z5 : ao.tmps[5]?.getD undef = .int .i64 (j : Nat) := hU.same 5 (by decide)
          refine wpOp_value (v := .int .i64 (j : Nat)) (W' := W) rfl rfl ?_ (hK _ _ (LKeep.refl _ _ _) rfl)
          go_simp
         | 8, hoi, hom =>
          have l6 := haft _ rfl ⟨6, .data⟩ (by simp) rfl
          have s6 : ao.tmps[36]?.getD undef = .slice (some ⟨g2, o2, none⟩) c.steps.length d1 := (hU.slot 6 (by decide) l6).trans (hpv 6 l6)
          have l7 := haft _ rfl ⟨7, .data⟩ (by simp) rfl
          have s7 : ao.tmps[37]?.getD undef = .int .i64 (j : Nat) := (hU.slot 7 (by decide) l7).trans (hpv 7 l7)
          refine wpOp_value (v := .pointer (some ⟨g2, o2 + j * 3, none⟩)) (W' := W) rfl rfl ?_ (hK _ _ (LKeep.refl _ _ _) rfl)
          go_simp
         | 9, hoi, hom =>
          have l8 := haft _ rfl ⟨8, .data⟩ (by simp) rfl
          have s8 : ao.tmps[38]?.getD undef = .pointer (some ⟨g2, o2 + j * 3, none⟩) := (hU.slot 8 (by decide) l8).trans (hpv 8 l8)
          have y0 := (hk.cell (b := g2) (o := o2 + j * 3) (hg2) (fun h => h)).trans (b0)
          have y1 := (hk.cell (b := g2) (o := o2 + j * 3 + 1) (hg2) (fun h => h)).trans (b1)
          have y2 := (hk.cell (b := g2) (o := o2 + j * 3 + 2) (hg2) (fun h => h)).trans (b2)
          refine wpOp_value (v := .agg #[.string n1, .int .i64 n2, .int .i64 n3]) (W' := W) rfl rfl ?_ (hK _ _ (LKeep.refl _ _ _) rfl)
          go_simp
         | 10, hoi, hom =>
          have l4 := haft _ rfl ⟨4, .data⟩ (by simp) rfl
          have s4 : ao.tmps[34]?.getD undef = .agg #[.string m1, .int .i64 m2, .int .i64 m3] := (hU.slot 4 (by decide) l4).trans (hpv 4 l4)
          have l9 := haft _ rfl ⟨9, .data⟩ (by simp) rfl
          have s9 : ao.tmps[39]?.getD undef = .agg #[.string n1, .int .i64 n2, .int .i64 n3] := (hU.slot 9 (by decide) l9).trans (hpv 9 l9)
          refine wpOp_value (v := .bool (!(eqS m1 n1 && (m2 == n2 && m3 == n3)))) (W' := W) rfl rfl ?_ (hK _ _ (LKeep.refl _ _ _) rfl)
          go_simp
          exact step_ne W m1 n1 m2 n2 m3 n3
         | oi + 11, hoi, hom => exact absurd (of_decide_eq_true hom) (by omega)
        case hendr6 =>
         intro listed vs ao W hG hk0 hpv hpre
         have hkk := (LKeep.drew (fun _ => False) (M := fun _ => True) wr (fun h => h)).trans hk0
         have hk := hkk.1
         have hkm := hkk.2
         clear hkk
         have hact := hG.act
         have hT := hG.lst hpre 0 #[true, true, true, true, true, true, true, true, true, true, true] rfl (by kernel_rfl) (hpre 0 (by decide) (by decide))
         rw [hG.ix hT (l := [0, 1, 2, 3, 4, 5, 6, 7, 8, 9, 10]) (by kernel_rfl)] at hact
         rw [hG.lo hT (k := 0) (by kernel_rfl)]
         have hv0 : vs 0 = .pointer (some ⟨w.heap.size, 0, none⟩) := hpv 0 (hpre 0 (by decide) (by decide))
         have hv1 : vs 1 = .slice (some ⟨g1, o1, none⟩) b.steps.length c1 := hpv 1 (hpre 1 (by decide) (by decide))
         have hv2 : vs 2 = .int .i64 (j : Nat) := hpv 2 (hpre 2 (by decide) (by decide))
         have hv3 : vs 3 = .pointer (some ⟨g1, o1 + j * 3, none⟩) := hpv 3 (hpre 3 (by decide) (by decide))
         have hv4 : vs 4 = .agg #[.string m1, .int .i64 m2, .int .i64 m3] := hpv 4 (hpre 4 (by decide) (by decide))
         have hv5 : vs 5 = .pointer (some ⟨w.heap.size + 1, 0, none⟩) := hpv 5 (hpre 5 (by decide) (by decide))
         have hv6 : vs 6 = .slice (some ⟨g2, o2, none⟩) c.steps.length d1 := hpv 6 (hpre 6 (by decide) (by decide))
         have hv7 : vs 7 = .int .i64 (j : Nat) := hpv 7 (hpre 7 (by decide) (by decide))
         have hv8 : vs 8 = .pointer (some ⟨g2, o2 + j * 3, none⟩) := hpv 8 (hpre 8 (by decide) (by decide))
         have hv9 : vs 9 = .agg #[.string n1, .int .i64 n2, .int .i64 n3] := hpv 9 (hpre 9 (by decide) (by decide))
         have hv10 : vs 10 = .bool (!(eqS m1 n1 && (m2 == n2 && m3 == n3))) := hpv 10 (hpre 10 (by decide) (by decide))
         clear hpv hpre hG hk0
         obtain rfl : ao = _ := hact
         subst hT
         simp only [setAll, List.setIfInBounds_toArray, List.set_cons_succ, List.set_cons_zero, List.getD_cons_succ, List.getD_cons_zero]
         simp only [hv0, hv1, hv2, hv3, hv4, hv5, hv6, hv7, hv8, hv9, hv10]
         clear hv0 hv1 hv2 hv3 hv4 hv5 hv6 hv7 hv8 hv9 hv10
         refine wpAny_done (by kernel_rfl) ?_ _
         have HB2 := hide (HBW.out.trans (hk.below (B := v0.heap.size) (fun k h => h.elim) (HBW.out.size)))
         rw [HSB.out] at HSS
         clear hk hkm a0 a1 a2 b0 b1 b2 xb xc HSB
         cases hq : (eqS m1 n1 && (m2 == n2 && m3 == n3)) with
         | true =>
          rw [hq, Bool.and_true] at HSS
          go_wp2_with fail
          go_roundw
          case rel => exact ⟨j + 1, hlt, by simp, hide (HSS.out.trans HST.out), HB2⟩
          case measure => simp [intOf]; omega
         | false =>
          rw [hq, Bool.and_false] at HSS
          have HFIN := hide (show equalB b c = false by rw [HEQ.out, stepsTo_false HSS.out hlt]; rfl)
          have HBF := hide (HB.out.trans (HB2.out.mono HB.out.size))
          go_wp2_with fail
          go_ret
          exact ⟨by rw [HFIN.out]; rfl, HBF.out⟩
      · obtain rfl : j = b.steps.length := by omega
        have hz := HBW.out.size
        obtain ⟨vq, rfl⟩ : ∃ vq : World, vq = wr := ⟨_, rfl⟩
        have HV2 := hide (HBW.out)
        clear x0 x1 x2 x3
        go_wp2_with fail
        go_loopw [6, 41, 42, 43, 44, 45, 46, 47, 48, 49, 50, 51, 52, 53, 54, 55, 56, 57, 58] (fun i _ _ _ _ _ _ _ _ _ _ _ _ _ _ _ _ _ _ wr => ∃ j : Nat, j ≤ b.tallies.length ∧ i = .int .i64 (j : Nat) ∧ Hid (talliesTo b c j = true) ∧ Hid (Below v0.heap.size v0 wr)) (fun i _ _ _ _ _ _ _ _ _ _ _ _ _ _ _ _ _ _ _ => b.tallies.length - (intOf i).toNat)
        case atStart => exact ⟨0, Nat.zero_le _, rfl, hide rfl, HV2⟩
        case round =>
         obtain ⟨j, hj, rfl, HTT, HBW⟩ := hrel
         clear xb xb1 xc xc1 zb zc HY1 HY2
         have HY1 := hide (HX1.out.next HBW.out)
         have HY2 := hide (HX2.out.next HBW.out)
         obtain ⟨zb, xb0, xb⟩ := HY1.out.cells
         obtain ⟨zc, xc0, xc⟩ := HY2.out.cells
         by_cases hlt : j < b.tallies.length
         · have hjl : (j : Int) < (b.tallies.length : Int) := by omega
           have hlc : j < c.tallies.length := by have := HE2.out; omega
           have hjc : (j : Int) < (c.tallies.length : Int) := by omega
           have HSS := hide (talliesTo_succ b c j)
           obtain ⟨g1, o1, rfl, hg1, a0, a1, a2⟩ := HY1.out.v.tallies.tallies hlt
           obtain ⟨g2, o2, rfl, hg2, b0, b1, b2⟩ := HY2.out.v.tallies.tallies hlc
           have HSB := hide (show tallyB (nth b.tallies j) (nth c.tallies j) = ((nth b.tallies j).step == (nth c.tallies j).step && ((nth b.tallies j).hands == (nth c.tallies j).hands && (nth b.tallies j).off == (nth c.tallies j).off)) from rfl)
           go_upto_region 11 with fail
           generalize (nth b.tallies j).step = m1 at *
           generalize (nth b.tallies j).hands = m2 at *
           generalize (nth b.tallies j).off = m3 at *
           generalize (nth c.tallies j).step = n1 at *
           generalize (nth c.tallies j).hands = n2 at *
           generalize (nth c.tallies j).off = n3 at *
           refine wp_region_rel4 (dst := fun oi => [48, 49, 50, 51, 52, 53, 54, 55, 56, 57, 58].getD oi 0) (mono := fun oi => decide (oi < 11)) (pre := fun oi => decide (oi < 11)) (R := LKeep (fun _ => False) (fun _ => True))
            (Pv := fun oi v W => match oi with
             | 0 => v = .pointer (some ⟨w.heap.size, 1, none⟩)
             | 1 => v = .slice (some ⟨g1, o1, none⟩) b.tallies.length c2
             | 2 => v = .int .i64 (j : Nat)
             | 3 => v = .pointer (some ⟨g1, o1 + j * 3, none⟩)
             | 4 => v = .agg #[.int .i64 m1, .int .i64 m2, .int .i64 m3]
             | 5 => v = .pointer (some ⟨w.heap.size + 1, 1, none⟩)
             | 6 => v = .slice (some ⟨g2, o2, none⟩) c.tallies.length d2
             | 7 => v = .int .i64 (j : Nat)
             | 8 => v = .pointer (some ⟨g2, o2 + j * 3, none⟩)
             | 9 => v = .agg #[.int .i64 n1, .int .i64 n2, .int .i64 n3]
             | 10 => v = .bool (!(m1 == n1 && (m2 == n2 && m3 == n3)))
             | _ => True) (by kernel_rfl) (by kernel_rfl) (LKeep.refl _ _) (fun _ _ _ h h' => h.trans h') ?hstr11 ?hstepr11 ?hendr11
           case hstr11 =>
            intro oi v W W' h hk
            match oi, h with
            | 0, h => exact h
            | 1, h => exact h
            | 2, h => exact h
            | 3, h => exact h
            | 4, h => exact h
            | 5, h => exact h
            | 6, h => exact h
            | 7, h => exact h
            | 8, h => exact h
            | 9, h => exact h
            | 10, h => exact h
            | oi + 11, h => exact trivial
           case hstepr11 =>
            intro oi hoi hom listed vs ao W hU hk0 hpv haft Ko hK
            have hkk := (LKeep.drew (fun _ => False) (M := fun _ => True) wr (fun h => h)).trans hk0
            have hk := hkk.1
            have hkm := hkk.2
            clear hkk
            match oi, hoi, hom with
            | 0, hoi, hom =>
             have z2 : ao.tmps[2]?.getD undef = .pointer (some ⟨w.heap.size, 0, none⟩) := hU.same 2 (by decide)
             refine wpOp_value (v := .pointer (some ⟨w.heap.size, 1, none⟩)) (W' := W) rfl rfl ?_ (hK _ _ (LKeep.refl _ _ _) rfl)
             go_simp
            | 1, hoi, hom =>
             have l0 := haft _ rfl ⟨0, .data⟩ (by simp) rfl
             have s0 : ao.tmps[48]?.getD undef = .pointer (some ⟨w.heap.size, 1, none⟩) := (hU.slot 0 (by decide) l0).trans (hpv 0 l0)
             have y0 := (hk.cell (b := w.heap.size) (o := 1) (zb) (fun h => h)).trans (xb)
             refine wpOp_value (v := .slice (some ⟨g1, o1, none⟩) b.tallies.length c2) (W' := W) rfl rfl ?_ (hK _ _ (LKeep.refl _ _ _) rfl)
             go_simp
            | 2, hoi, hom =>
             have z6 : ao.tmps[6]?.getD undef = .int .i64 (j : Nat) := hU.same 6 (by decide)
             refine wpOp_value (v := .int .i64 (j : Nat)) (W' := W) rfl rfl ?_ (hK _ _ (LKeep.refl _ _ _) rfl)
             go_simp
            | 3, hoi, hom =>
             have l1 := haft _ rfl ⟨1, .data⟩ (by simp) rfl
             have s1 : ao.tmps[49]?.getD undef = .slice (some ⟨g1, o1, none⟩) b.tallies.length c2 := (hU.slot 1 (by decide) l1).trans (hpv 1 l1)
             have l2 := haft _ rfl ⟨2, .data⟩ (by simp) rfl
             have s2 : ao.tmps[50]?.getD undef = .int .i64 (j : Nat) := (hU.slot 2 (by decide) l2).trans (hpv 2 l2)
             refine wpOp_value (v := .pointer (some ⟨g1, o1 + j * 3, none⟩)) (W' := W) rfl rfl ?_ (hK _ _ (LKeep.refl _ _ _) rfl)
             go_simp
            | 4, hoi, hom =>
             have l3 := haft _ rfl ⟨3, .data⟩ (by simp) rfl
             have s3 : ao.tmps[51]?.getD undef = .pointer (some ⟨g1, o1 + j * 3, none⟩) := (hU.slot 3 (by decide) l3).trans (hpv 3 l3)
             have y0 := (hk.cell (b := g1) (o := o1 + j * 3) (hg1) (fun h => h)).trans (a0)
             have y1 := (hk.cell (b := g1) (o := o1 + j * 3 + 1) (hg1) (fun h => h)).trans (a1)
             have y2 := (hk.cell (b := g1) (o := o1 + j * 3 + 2) (hg1) (fun h => h)).trans (a2)
             refine wpOp_value (v := .agg #[.int .i64 m1, .int .i64 m2, .int .i64 m3]) (W' := W) rfl rfl ?_ (hK _ _ (LKeep.refl _ _ _) rfl)
             go_simp
            | 5, hoi, hom =>
             have z3 : ao.tmps[3]?.getD undef = .pointer (some ⟨w.heap.size + 1, 0, none⟩) := hU.same 3 (by decide)
             refine wpOp_value (v := .pointer (some ⟨w.heap.size + 1, 1, none⟩)) (W' := W) rfl rfl ?_ (hK _ _ (LKeep.refl _ _ _) rfl)
             go_simp
            | 6, hoi, hom =>
             have l5 := haft _ rfl ⟨5, .data⟩ (by simp) rfl
             have s5 : ao.tmps[53]?.getD undef = .pointer (some ⟨w.heap.size + 1, 1, none⟩) := (hU.slot 5 (by decide) l5).trans (hpv 5 l5)
             have y0 := (hk.cell (b := w.heap.size + 1) (o := 1) (zc) (fun h => h)).trans (xc)
             refine wpOp_value (v := .slice (some ⟨g2, o2, none⟩) c.tallies.length d2) (W' := W) rfl rfl ?_ (hK _ _ (LKeep.refl _ _ _) rfl)
             go_simp
            | 7, hoi, hom =>
             have z6 : ao.tmps[6]?.getD undef = .int .i64 (j : Nat) := hU.same 6 (by decide)
             refine wpOp_value (v := .int .i64 (j : Nat)) (W' := W) rfl rfl ?_ (hK _ _ (LKeep.refl _ _ _) rfl)
             go_simp
            | 8, hoi, hom =>
             have l6 := haft _ rfl ⟨6, .data⟩ (by simp) rfl
             have s6 : ao.tmps[54]?.getD undef = .slice (some ⟨g2, o2, none⟩) c.tallies.length d2 := (hU.slot 6 (by decide) l6).trans (hpv 6 l6)
             have l7 := haft _ rfl ⟨7, .data⟩ (by simp) rfl
             have s7 : ao.tmps[55]?.getD undef = .int .i64 (j : Nat) := (hU.slot 7 (by decide) l7).trans (hpv 7 l7)
             refine wpOp_value (v := .pointer (some ⟨g2, o2 + j * 3, none⟩)) (W' := W) rfl rfl ?_ (hK _ _ (LKeep.refl _ _ _) rfl)
             go_simp
            | 9, hoi, hom =>
             have l8 := haft _ rfl ⟨8, .data⟩ (by simp) rfl
             have s8 : ao.tmps[56]?.getD undef = .pointer (some ⟨g2, o2 + j * 3, none⟩) := (hU.slot 8 (by decide) l8).trans (hpv 8 l8)
             have y0 := (hk.cell (b := g2) (o := o2 + j * 3) (hg2) (fun h => h)).trans (b0)
             have y1 := (hk.cell (b := g2) (o := o2 + j * 3 + 1) (hg2) (fun h => h)).trans (b1)
             have y2 := (hk.cell (b := g2) (o := o2 + j * 3 + 2) (hg2) (fun h => h)).trans (b2)
             refine wpOp_value (v := .agg #[.int .i64 n1, .int .i64 n2, .int .i64 n3]) (W' := W) rfl rfl ?_ (hK _ _ (LKeep.refl _ _ _) rfl)
             go_simp
            | 10, hoi, hom =>
             have l4 := haft _ rfl ⟨4, .data⟩ (by simp) rfl
             have s4 : ao.tmps[52]?.getD undef = .agg #[.int .i64 m1, .int .i64 m2, .int .i64 m3] := (hU.slot 4 (by decide) l4).trans (hpv 4 l4)
             have l9 := haft _ rfl ⟨9, .data⟩ (by simp) rfl
             have s9 : ao.tmps[57]?.getD undef = .agg #[.int .i64 n1, .int .i64 n2, .int .i64 n3] := (hU.slot 9 (by decide) l9).trans (hpv 9 l9)
             refine wpOp_value (v := .bool (!(m1 == n1 && (m2 == n2 && m3 == n3)))) (W' := W) rfl rfl ?_ (hK _ _ (LKeep.refl _ _ _) rfl)
             go_simp
             exact tally_ne W m1 n1 m2 n2 m3 n3
            | oi + 11, hoi, hom => exact absurd (of_decide_eq_true hom) (by omega)
           case hendr11 =>
            intro listed vs ao W hG hk0 hpv hpre
            have hkk := (LKeep.drew (fun _ => False) (M := fun _ => True) wr (fun h => h)).trans hk0
            have hk := hkk.1
            have hkm := hkk.2
            clear hkk
            have hact := hG.act
            have hT := hG.lst hpre 0 #[true, true, true, true, true, true, true, true, true, true, true] rfl (by kernel_rfl) (hpre 0 (by decide) (by decide))
            rw [hG.ix hT (l := [0, 1, 2, 3, 4, 5, 6, 7, 8, 9, 10]) (by kernel_rfl)] at hact
            rw [hG.lo hT (k := 0) (by kernel_rfl)]
            have hv0 : vs 0 = .pointer (some ⟨w.heap.size, 1, none⟩) := hpv 0 (hpre 0 (by decide) (by decide))
            have hv1 : vs 1 = .slice (some ⟨g1, o1, none⟩) b.tallies.length c2 := hpv 1 (hpre 1 (by decide) (by decide))
            have hv2 : vs 2 = .int .i64 (j : Nat) := hpv 2 (hpre 2 (by decide) (by decide))
            have hv3 : vs 3 = .pointer (some ⟨g1, o1 + j * 3, none⟩) := hpv 3 (hpre 3 (by decide) (by decide))
            have hv4 : vs 4 = .agg #[.int .i64 m1, .int .i64 m2, .int .i64 m3] := hpv 4 (hpre 4 (by decide) (by decide))
            have hv5 : vs 5 = .pointer (some ⟨w.heap.size + 1, 1, none⟩) := hpv 5 (hpre 5 (by decide) (by decide))
            have hv6 : vs 6 = .slice (some ⟨g2, o2, none⟩) c.tallies.length d2 := hpv 6 (hpre 6 (by decide) (by decide))
            have hv7 : vs 7 = .int .i64 (j : Nat) := hpv 7 (hpre 7 (by decide) (by decide))
            have hv8 : vs 8 = .pointer (some ⟨g2, o2 + j * 3, none⟩) := hpv 8 (hpre 8 (by decide) (by decide))
            have hv9 : vs 9 = .agg #[.int .i64 n1, .int .i64 n2, .int .i64 n3] := hpv 9 (hpre 9 (by decide) (by decide))
            have hv10 : vs 10 = .bool (!(m1 == n1 && (m2 == n2 && m3 == n3))) := hpv 10 (hpre 10 (by decide) (by decide))
            clear hpv hpre hG hk0
            obtain rfl : ao = _ := hact
            subst hT
            simp only [setAll, List.setIfInBounds_toArray, List.set_cons_succ, List.set_cons_zero, List.getD_cons_succ, List.getD_cons_zero]
            simp only [hv0, hv1, hv2, hv3, hv4, hv5, hv6, hv7, hv8, hv9, hv10]
            clear hv0 hv1 hv2 hv3 hv4 hv5 hv6 hv7 hv8 hv9 hv10
            refine wpAny_done (by kernel_rfl) ?_ _
            have HB2 := hide (HBW.out.trans (hk.below (B := v0.heap.size) (fun k h => h.elim) (HBW.out.size)))
            rw [HSB.out] at HSS
            clear hk hkm a0 a1 a2 b0 b1 b2 xb xc HSB
            cases hq : (m1 == n1 && (m2 == n2 && m3 == n3)) with
            | true =>
             rw [hq, Bool.and_true] at HSS
             go_wp2_with fail
             go_roundw
             case rel => exact ⟨j + 1, hlt, by simp, hide (HSS.out.trans HTT.out), HB2⟩
             case measure => simp [intOf]; omega
            | false =>
             rw [hq, Bool.and_false] at HSS
             have HFIN := hide (show equalB b c = false by rw [HEQ.out, talliesTo_false HSS.out hlt, Bool.and_false])
             have HBF := hide (HB.out.trans (HB2.out.mono HB.out.size))
             go_wp2_with fail
             go_ret
             exact ⟨by rw [HFIN.out]; rfl, HBF.out⟩
         · obtain rfl : j = b.tallies.length := by omega
           have HFIN := hide (show equalB b c = true by rw [HEQ.out, HST.out, HTT.out]; rfl)
           have HBF := hide (HB.out.trans (HBW.out.mono HB.out.size))
           go_wp2_with fail
           go_ret
           exact ⟨by rw [HFIN.out]; rfl, HBF.out⟩
   · have q1 : ((b.steps.length : Int) == (c.steps.length : Int)) = true := by rw [e1]; simp
     have q2 : ((b.tallies.length : Int) == (c.tallies.length : Int)) = false := by rw [beq_eq_false_iff_ne]; omega
     have q1' : ((b.steps.length : Int) != (c.steps.length : Int)) = false := by rw [e1]; simp
     have q2' : ((b.tallies.length : Int) != (c.tallies.length : Int)) = true := by simp; omega
     have HEQ := hide (show equalB b c = false by rw [equalB, beq_eq_false_iff_ne.2 e2]; simp)
     clear e1 e2
     go_wp2_with fail
     go_ret
     exact ⟨by rw [HEQ.out]; rfl, HB.out⟩
 · have q1 : ((b.steps.length : Int) == (c.steps.length : Int)) = false := by rw [beq_eq_false_iff_ne]; omega
   have q1' : ((b.steps.length : Int) != (c.steps.length : Int)) = true := by simp; omega
   have HEQ := hide (show equalB b c = false by rw [equalB, beq_eq_false_iff_ne.2 e1]; simp)
   clear e1
   go_wp2_with fail
   go_ret
   exact ⟨by rw [HEQ.out]; rfl, HB.out⟩
end Go.Proofs.YtocdmkilnbpkdaaGreatDoor
