/- Contracts of the small functions of the laws that do not compare with the reference: turns, anyOf, some, subset, later. -/
import Derived.Test.YtbkknliggnhpcaaBlk
import Derived.Test.YtbkknliggnhpcaaRefJ
import Derived.Test.YtbkknliggnhpcaaBox
import Derived.IntWalk
set_option linter.unusedVariables false
set_option linter.unusedSimpArgs false
namespace Go.Proofs.Ytbkknliggnhpcaa
open Go.RowKit
attribute [local go_sem ↓] Go.wp_at_zero Go.wp_at_succ

def bytesF (l : List Int) (j : Nat) : Value := .int .u8 (nth l j)
/-- A slice that reads as a list of bytes. -/
structure BytesS (w : World) (B : Nat) (A : Option Addr) (c : Nat) (l : List Int) : Prop where
  cap : l.length ≤ c
  max : c ≤ maxLen
  row : Row w B A l.length (bytesF l)
  bd : ∀ i, 0 ≤ nth l i ∧ nth l i ≤ 255
theorem BytesS.next {w w' : World} {A : Option Addr} {c : Nat} {l : List Int} (h : BytesS w w.heap.size A c l) (hb : Below w.heap.size w w') : BytesS w' w'.heap.size A c l :=
  ⟨h.cap, h.max, (h.row.below hb).more hb.size, h.bd⟩
/-- The n-th number of a list, by turns. -/
def turnB (l : List Int) (n : Nat) : Int := if l.length = 0 then 0 else nth l (n % l.length)
theorem turnB_bd {l : List Int} (h : ∀ i, 0 ≤ nth l i ∧ nth l i ≤ 255) (n : Nat) : 0 ≤ turnB l n ∧ turnB l n ≤ 255 := by
  unfold turnB; split
  · omega
  · exact h _
/-- Any number of a span, by a number. -/
def anyF (s : Span) (n : Int) : Int := s.lo + n % (s.hi - s.lo + 1)
theorem anyF_mem {s : Span} (h : s.lo ≤ s.hi) (n : Int) : s.lo ≤ anyF s n ∧ anyF s n ≤ s.hi := by
  unfold anyF
  have h1 := Int.emod_nonneg n (show s.hi - s.lo + 1 ≠ 0 by omega)
  have h2 := Int.emod_lt_of_pos n (show 0 < s.hi - s.lo + 1 by omega)
  omega
set_option maxHeartbeats 400000 in
set_option maxRecDepth 100000 in
theorem turns_l_any {A : Option Addr} {cp : Nat} {l : List Int} {w : World} (h : BytesS w w.heap.size A cp l) (n : Nat) (hn : n ≤ 1000) :
    Calls Try.prog 42 #[.slice A l.length cp, .int .i64 n] w fun e w' => e = .returned (.int .i64 (turnB l n)) ∧ w = w' := by
  have h1 := h.cap
  have h2 := h.max
  unfold maxLen at h2
  have HTB := hide (show turnB l n = if l.length = 0 then 0 else nth l (n % l.length) from rfl)
  by_cases h0 : l.length = 0
  · have HH0 := hide h0
    rw [h0]
    clear h0
    go_enter Try.func42, Try.ntmps42
    go_wp2
    go_ret
    exact ⟨ret_i (by rw [HTB.out, if_pos HH0.out]), rfl⟩
  · have hk : n % l.length < l.length := Nat.mod_lt _ (by omega)
    obtain ⟨b, off, rfl, hb, hc⟩ := h.row (by omega)
    have r0 := hc _ hk
    rw [bytesF] at r0
    have hbd := h.bd (n % l.length)
    have hm1 : (n : Int) % (l.length : Int) = ((n % l.length : Nat) : Int) := by simp
    have hm2 : (n : Int).tmod (l.length : Int) = ((n % l.length : Nat) : Int) := by rw [Int.tmod_eq_emod_of_nonneg (by omega)]; simp
    have HH0 := hide h0
    have hz : ((l.length : Int) == 0) = false := by simpa using h0
    have hz2 : (l.length : Int) ≠ 0 := by omega
    have hz3 : (0 : Int) < (l.length : Int) := by omega
    have hn0 : (0 : Int) ≤ (n : Int) := Int.natCast_nonneg _
    have hn1 : (n : Int) ≤ 1000 := by omega
    generalize n % l.length = k at *
    have hk0 : (0 : Int) ≤ (k : Int) := Int.natCast_nonneg _
    have hk1 : (k : Int) < (l.length : Int) := by omega
    clear h0 hc h
    go_enter Try.func42, Try.ntmps42
    go_wp2
    go_ret
    exact ⟨ret_i (by rw [HTB.out, if_neg HH0.out]), rfl⟩
set_option maxHeartbeats 400000 in
set_option maxRecDepth 100000 in
theorem anyOf_any {w : World} {s : Span} {n : Int} (h0 : 0 ≤ s.lo) (h1 : s.lo ≤ s.hi) (h2 : s.hi ≤ 1000) (hn0 : 0 ≤ n) (hn1 : n ≤ 255) :
    Calls Try.prog 41 #[.agg #[.int .i64 s.lo, .int .i64 s.hi], .int .i64 n] w fun e w' => e = .returned (.int .i64 (anyF s n)) ∧ Below w.heap.size w w' := by
  have hbs : Blk (w.alloc (.cells #[.int .i64 s.lo, .int .i64 s.hi] 32)) w.heap.size 32 #[.int .i64 s.lo, .int .i64 s.hi] := Blk.made
  have HB := hide (show Below w.heap.size w (w.alloc (.cells #[.int .i64 s.lo, .int .i64 s.hi] 32)) from (Below.refl _ _).alloc (Nat.le_refl _) _)
  have hp0 := Int.emod_nonneg n (show s.hi - s.lo + 1 ≠ 0 by omega)
  have hp1 := Int.emod_lt_of_pos n (show 0 < s.hi - s.lo + 1 by omega)
  have hz : ((s.hi - s.lo + 1) == 0) = false := by simp; omega
  have hz2 : s.hi - s.lo + 1 ≠ 0 := by omega
  have hm2 : n.tmod (s.hi - s.lo + 1) = n % (s.hi - s.lo + 1) := Int.tmod_eq_emod_of_nonneg hn0
  have hw1 : IntKind.i64.wrap (s.hi - s.lo) = s.hi - s.lo := IntWalk.i64_in _ (by omega)
  have hw2 : IntKind.i64.wrap (s.hi - s.lo + 1) = s.hi - s.lo + 1 := IntWalk.i64_in _ (by omega)
  have hw3 : IntKind.i64.wrap (s.lo + n % (s.hi - s.lo + 1)) = s.lo + n % (s.hi - s.lo + 1) := IntWalk.i64_in _ (by omega)
  have hw4 : IntKind.i64.wrap (n % (s.hi - s.lo + 1)) = n % (s.hi - s.lo + 1) := IntWalk.i64_in _ (by omega)
  go_enter Try.func41, Try.ntmps41
  go_upto_region 1 with (fail)
  generalize (w.alloc (.cells #[.int .i64 s.lo, .int .i64 s.hi] 32)) = w0 at *
  have yc0 : w0.cell? ⟨w.heap.size, 0, none⟩ = some (.int .i64 s.lo) := hbs.at_ 0
  have yc1 : w0.cell? ⟨w.heap.size, 1, none⟩ = some (.int .i64 s.hi) := hbs.at_ 1
  have z0 := hbs.lt
  clear hbs
  refine wp_post0 (fun act0 a W => ∃ vs : Nat → Value, a = { tmps := setAll (fun i => [5, 6, 7, 8, 9, 10, 11, 12, 13, 14, 15, 4].getD i 0) vs [0, 1, 2, 3, 4, 5, 6, 7, 8, 9, 10, 11] act0.tmps, defers := act0.defers } ∧ Below w0.heap.size w0 W ∧ vs 11 = .int .i64 (s.lo + n % (s.hi - s.lo + 1))) ?reg ?imp
  case reg =>
    have hST : Stab w0.heap.size (fun i v W => match i with | 0 => v = .pointer (some ⟨w.heap.size, 0, none⟩) | 1 => v = .int .i64 s.lo | 2 => v = .int .i64 n | 3 => v = .pointer (some ⟨w.heap.size, 1, none⟩) | 4 => v = .int .i64 s.hi | 5 => v = .pointer (some ⟨w.heap.size, 0, none⟩) | 6 => v = .int .i64 s.lo | 7 => v = .int .i64 (s.hi - s.lo) | 8 => v = .int .i64 (s.hi - s.lo + 1) | 9 => v = .int .i64 (n % (s.hi - s.lo + 1)) | 10 => v = .int .i64 (s.lo + n % (s.hi - s.lo + 1)) | 11 => v = .int .i64 (s.lo + n % (s.hi - s.lo + 1)) | _ => True) (fun i v b => match i with  | _ => False) := by
      intro i v W W' h hbs hz hk
      match i, h, hk with
      | 0, h, hk => exact h
      | 1, h, hk => exact h
      | 2, h, hk => exact h
      | 3, h, hk => exact h
      | 4, h, hk => exact h
      | 5, h, hk => exact h
      | 6, h, hk => exact h
      | 7, h, hk => exact h
      | 8, h, hk => exact h
      | 9, h, hk => exact h
      | 10, h, hk => exact h
      | 11, h, hk => exact h
      | i + 12, h, hk => exact trivial
    refine wp_region_inv (dst := fun i => [5, 6, 7, 8, 9, 10, 11, 12, 13, 14, 15, 4].getD i 0) (mono := fun i => decide (i < 12)) (pre := fun i => decide (i < 12)) (G := Loose 12 w0.heap.size (fun i => match i with  | _ => 12) (fun i v W => match i with | 0 => v = .pointer (some ⟨w.heap.size, 0, none⟩) | 1 => v = .int .i64 s.lo | 2 => v = .int .i64 n | 3 => v = .pointer (some ⟨w.heap.size, 1, none⟩) | 4 => v = .int .i64 s.hi | 5 => v = .pointer (some ⟨w.heap.size, 0, none⟩) | 6 => v = .int .i64 s.lo | 7 => v = .int .i64 (s.hi - s.lo) | 8 => v = .int .i64 (s.hi - s.lo + 1) | 9 => v = .int .i64 (n % (s.hi - s.lo + 1)) | 10 => v = .int .i64 (s.lo + n % (s.hi - s.lo + 1)) | 11 => v = .int .i64 (s.lo + n % (s.hi - s.lo + 1)) | _ => True) (fun i v b => match i with  | _ => False)) (by kernel_rfl) (by kernel_rfl) (Loose.start (Nat.le_refl _)) ?hstep ?hend
    case hstep =>
      intro i hi hm listed vs a W hU hsz hG hcl hl haft K hK
      have hb := ((Below.refl w0.heap.size w0).drew).trans hU.below
      have hF := Loose.stepF hU hG hST hi hK
      match i, hi, hm with
      | 0, hi, hm =>
        have z2 : a.tmps[2]?.getD undef = .pointer (some ⟨w.heap.size, 0, none⟩) := hU.same 2 (by decide)
        refine wpOp_value (v := .pointer (some ⟨w.heap.size, 0, none⟩)) (W' := W) rfl rfl ?_ (hF _ _ (Below.refl _ _) rfl (fun _ h => False.elim h))
        go_simp
      | 1, hi, hm =>
        have l0 := haft _ rfl { on := 0, ground := .data } (by simp) rfl
        have p0 := hG.pv 0 (by decide) (live_end hsz rfl l0)
        have s0 : a.tmps[5]?.getD undef = vs 0 := hU.slot 0 (by decide) l0
        have hv0 : vs 0 = .pointer (some ⟨w.heap.size, 0, none⟩) := p0
        rw [hv0] at s0
        have y0 := (hb.cell (p := ⟨w.heap.size, 0, none⟩) (z0)).trans (yc0)
        refine wpOp_value (v := .int .i64 s.lo) (W' := W) rfl rfl ?_ (hF _ _ (Below.refl _ _) rfl (fun _ h => False.elim h))
        go_simp
      | 2, hi, hm =>
        have z1 : a.tmps[1]?.getD undef = .int .i64 n := hU.same 1 (by decide)
        refine wpOp_value (v := .int .i64 n) (W' := W) rfl rfl ?_ (hF _ _ (Below.refl _ _) rfl (fun _ h => False.elim h))
        go_simp
      | 3, hi, hm =>
        have z2 : a.tmps[2]?.getD undef = .pointer (some ⟨w.heap.size, 0, none⟩) := hU.same 2 (by decide)
        refine wpOp_value (v := .pointer (some ⟨w.heap.size, 1, none⟩)) (W' := W) rfl rfl ?_ (hF _ _ (Below.refl _ _) rfl (fun _ h => False.elim h))
        go_simp
      | 4, hi, hm =>
        have l3 := haft _ rfl { on := 3, ground := .data } (by simp) rfl
        have p3 := hG.pv 3 (by decide) (live_end hsz rfl l3)
        have s3 : a.tmps[8]?.getD undef = vs 3 := hU.slot 3 (by decide) l3
        have hv3 : vs 3 = .pointer (some ⟨w.heap.size, 1, none⟩) := p3
        rw [hv3] at s3
        have y0 := (hb.cell (p := ⟨w.heap.size, 1, none⟩) (z0)).trans (yc1)
        refine wpOp_value (v := .int .i64 s.hi) (W' := W) rfl rfl ?_ (hF _ _ (Below.refl _ _) rfl (fun _ h => False.elim h))
        go_simp
      | 5, hi, hm =>
        have z2 : a.tmps[2]?.getD undef = .pointer (some ⟨w.heap.size, 0, none⟩) := hU.same 2 (by decide)
        refine wpOp_value (v := .pointer (some ⟨w.heap.size, 0, none⟩)) (W' := W) rfl rfl ?_ (hF _ _ (Below.refl _ _) rfl (fun _ h => False.elim h))
        go_simp
      | 6, hi, hm =>
        have l5 := haft _ rfl { on := 5, ground := .data } (by simp) rfl
        have p5 := hG.pv 5 (by decide) (live_end hsz rfl l5)
        have s5 : a.tmps[10]?.getD undef = vs 5 := hU.slot 5 (by decide) l5
        have hv5 : vs 5 = .pointer (some ⟨w.heap.size, 0, none⟩) := p5
        rw [hv5] at s5
        have y0 := (hb.cell (p := ⟨w.heap.size, 0, none⟩) (z0)).trans (yc0)
        refine wpOp_value (v := .int .i64 s.lo) (W' := W) rfl rfl ?_ (hF _ _ (Below.refl _ _) rfl (fun _ h => False.elim h))
        go_simp
      | 7, hi, hm =>
        have l4 := haft _ rfl { on := 4, ground := .data } (by simp) rfl
        have p4 := hG.pv 4 (by decide) (live_end hsz rfl l4)
        have s4 : a.tmps[9]?.getD undef = vs 4 := hU.slot 4 (by decide) l4
        have hv4 : vs 4 = .int .i64 s.hi := p4
        rw [hv4] at s4
        have l6 := haft _ rfl { on := 6, ground := .data } (by simp) rfl
        have p6 := hG.pv 6 (by decide) (live_end hsz rfl l6)
        have s6 : a.tmps[11]?.getD undef = vs 6 := hU.slot 6 (by decide) l6
        have hv6 : vs 6 = .int .i64 s.lo := p6
        rw [hv6] at s6
        refine wpOp_value (v := .int .i64 (s.hi - s.lo)) (W' := W) rfl rfl ?_ (hF _ _ (Below.refl _ _) rfl (fun _ h => False.elim h))
        go_simp
      | 8, hi, hm =>
        have l7 := haft _ rfl { on := 7, ground := .data } (by simp) rfl
        have p7 := hG.pv 7 (by decide) (live_end hsz rfl l7)
        have s7 : a.tmps[12]?.getD undef = vs 7 := hU.slot 7 (by decide) l7
        have hv7 : vs 7 = .int .i64 (s.hi - s.lo) := p7
        rw [hv7] at s7
        refine wpOp_value (v := .int .i64 (s.hi - s.lo + 1)) (W' := W) rfl rfl ?_ (hF _ _ (Below.refl _ _) rfl (fun _ h => False.elim h))
        go_simp
      | 9, hi, hm =>
        have l2 := haft _ rfl { on := 2, ground := .data } (by simp) rfl
        have p2 := hG.pv 2 (by decide) (live_end hsz rfl l2)
        have s2 : a.tmps[7]?.getD undef = vs 2 := hU.slot 2 (by decide) l2
        have hv2 : vs 2 = .int .i64 n := p2
        rw [hv2] at s2
        have l8 := haft _ rfl { on := 8, ground := .data } (by simp) rfl
        have p8 := hG.pv 8 (by decide) (live_end hsz rfl l8)
        have s8 : a.tmps[13]?.getD undef = vs 8 := hU.slot 8 (by decide) l8
        have hv8 : vs 8 = .int .i64 (s.hi - s.lo + 1) := p8
        rw [hv8] at s8
        refine wpOp_value (v := .int .i64 (n % (s.hi - s.lo + 1))) (W' := W) rfl rfl ?_ (hF _ _ (Below.refl _ _) rfl (fun _ h => False.elim h))
        go_simp
      | 10, hi, hm =>
        have l1 := haft _ rfl { on := 1, ground := .data } (by simp) rfl
        have p1 := hG.pv 1 (by decide) (live_end hsz rfl l1)
        have s1 : a.tmps[6]?.getD undef = vs 1 := hU.slot 1 (by decide) l1
        have hv1 : vs 1 = .int .i64 s.lo := p1
        rw [hv1] at s1
        have l9 := haft _ rfl { on := 9, ground := .data } (by simp) rfl
        have p9 := hG.pv 9 (by decide) (live_end hsz rfl l9)
        have s9 : a.tmps[14]?.getD undef = vs 9 := hU.slot 9 (by decide) l9
        have hv9 : vs 9 = .int .i64 (n % (s.hi - s.lo + 1)) := p9
        rw [hv9] at s9
        refine wpOp_value (v := .int .i64 (s.lo + n % (s.hi - s.lo + 1))) (W' := W) rfl rfl ?_ (hF _ _ (Below.refl _ _) rfl (fun _ h => False.elim h))
        go_simp
      | 11, hi, hm =>
        have l10 := haft _ rfl { on := 10, ground := .data } (by simp) rfl
        have p10 := hG.pv 10 (by decide) (live_end hsz rfl l10)
        have s10 : a.tmps[15]?.getD undef = vs 10 := hU.slot 10 (by decide) l10
        have hv10 : vs 10 = .int .i64 (s.lo + n % (s.hi - s.lo + 1)) := p10
        rw [hv10] at s10
        refine wpOp_value (v := .int .i64 (s.lo + n % (s.hi - s.lo + 1))) (W' := W) rfl rfl ?_ (hF _ _ (Below.refl _ _) rfl (fun _ h => False.elim h))
        go_simp
      | i + 12, hi, hm => exact absurd (of_decide_eq_true hm) (by omega)
    case hend =>
      intro listed vs a W hG0 hG hpre
      have hb := ((Below.refl w0.heap.size w0).drew).trans hG0.below
      have hact := hG0.act
      have hT := hG0.lst hpre 0 #[true, true, true, true, true, true, true, true, true, true, true, true] rfl (by kernel_rfl) (hpre 0 (by decide) (by decide))
      rw [hG0.ix hT (l := [0, 1, 2, 3, 4, 5, 6, 7, 8, 9, 10, 11]) (by kernel_rfl)] at hact
      rw [hG0.lo hT (k := 0) (by kernel_rfl)]
      have p11 := hG.pv 11 (by decide) (live_end hG.size rfl (hpre 11 (by decide) (by decide)))
      subst hT
      refine wpAny_done (by kernel_rfl) ?_ _
      exact ⟨rfl, vs, hact, hb, p11⟩
  case imp =>
  rintro a w2 ⟨vs, rfl, hb1, hv11⟩
  simp only [setAll, List.setIfInBounds_toArray, List.set_cons_succ, List.set_cons_zero, List.getD_cons_succ, List.getD_cons_zero]
  rw [hv11]
  clear hw1 hw2 hw3 hw4 hm2 hz yc0 yc1
  go_wp2
  go_ret
  exact ⟨rfl, HB.out.trans (hb1.mono HB.out.size)⟩
end Go.Proofs.Ytbkknliggnhpcaa
