/- Contracts of the reference's place, lot and paper. -/
import Derived.Test.YtllmahcanipcpaaHH
import Derived.OwnWalkIn
import Derived.TacticsInMore
import Derived.Deep.DeepCutAuto
set_option linter.unusedVariables false
set_option linter.unusedSimpArgs false
namespace Go.Proofs.Ytllmahcanipcpaa
open Go.RowKit
attribute [local go_sem ↓] Go.wp_at_zero Go.wp_at_succ
attribute [local go_sem] Oper.semAt_some

theorem placeM_hit {r : List Int} {p : Int} {j : Nat} (hj : j < r.length) (h : (nth r j == p) = true) (hk : ∀ k, k < j → (nth r k == p) = false) : placeM r p = j := by rw [← idx_place]; exact idxOf_hit hj h hk
theorem placeM_miss {r : List Int} {p : Int} (hk : ∀ k, k < r.length → (nth r k == p) = false) : placeM r p = -1 := by rw [← idx_place]; exact idxOf_miss hk
set_option maxHeartbeats 400000 in
set_option maxRecDepth 100000 in
theorem place_any {A : Option Addr} {n c B : Nat} {xs : List Int} {w : World} (h : IntsS w B A n c xs) (party : Int) :
    Calls Try.prog 75 #[.slice A n c, .int .i64 party] w fun e w' => e = .returned (.int .i64 (placeM xs party)) ∧ w = w' := by
  have hm := h.bd
  have HL := hide h.len
  go_enter Try.func75, Try.ntmps75
  go_wp2
  go_loopw [5] (fun v5 wr => ∃ j : Nat, j ≤ n ∧ v5 = .int .i64 j ∧ w = wr ∧ Hid (∀ k, k < j → (nth xs k == party) = false)) (fun v5 _ => n - (intOf v5).toNat)
  case atStart => exact ⟨0, Nat.zero_le _, rfl, rfl, hide (fun k hk => by omega)⟩
  case round =>
    obtain ⟨j, hj, rfl, rfl, H⟩ := hrel
    have hj0 : (0 : Int) ≤ (j : Int) := Int.natCast_nonneg _
    by_cases hlt : j < n
    · obtain ⟨b, off, rfl, hb, hc⟩ := h.at_ hlt
      have hj1 : (j : Int) < (n : Int) := by omega
      have HH := hide h
      clear h
      cases hq : (nth xs j == party) with
      | true =>
        have HQ := hide hq
        go_wp2
        go_ret
        exact ⟨ret_i (placeM_hit (by rw [HL.out]; exact hlt) HQ.out H.out).symm, rfl⟩
      | false =>
        have HQ := hide hq
        go_wp2
        go_roundw
        case rel => exact ⟨j + 1, by omega, by go_num, trivial, hide (fun k hk => by
          rcases Nat.lt_or_ge k j with h1 | h1
          · exact H.out k h1
          · rw [show k = j by omega]; exact HQ.out)⟩
        case measure => simp [intOf]; omega
    · have hj1 : ¬ (j : Int) < (n : Int) := by omega
      go_wp2
      go_ret
      exact ⟨ret_i (placeM_miss (fun k hk => H.out k (by rw [HL.out] at hk; omega))).symm, rfl⟩
theorem least_of (P : Nat → Bool) : ∀ m, (∀ j, j < m → P j = false) ∨ ∃ j, j < m ∧ P j = true ∧ ∀ i, i < j → P i = false
  | 0 => .inl (fun j hj => by omega)
  | m + 1 => by
    rcases least_of P m with h | ⟨j, h1, h2, h3⟩
    · cases hm : P m with
      | true => exact .inr ⟨m, by omega, hm, h⟩
      | false => exact .inl (fun j hj => by
          rcases Nat.lt_or_ge j m with h1 | h1
          · exact h j h1
          · rw [show j = m by omega]; exact hm)
    · exact .inr ⟨j, by omega, h2, h3⟩
theorem place_lt {r : List Int} {k : Nat} (hk : k < r.length) : placeM r (nth r k) < (k : Int) ↔ ∃ j, j < k ∧ nth r j = nth r k := by
  rcases least_of (fun j => nth r j == nth r k) k with h | ⟨j, h1, h2, h3⟩
  · rw [placeM_hit hk (by simp) h]
    constructor
    · intro h1; omega
    · rintro ⟨j, hj, e⟩
      have := h j hj
      simp [e] at this
  · rw [placeM_hit (by omega) h2 h3]
    constructor
    · intro _; exact ⟨j, h1, by simpa using h2⟩
    · intro _; omega
def dupTo (r : List Int) (i : Nat) : Bool := (List.range i).any fun k => decide (placeM r (nth r k) < (k : Int))
theorem dupTo_succ (r : List Int) (i : Nat) : dupTo r (i + 1) = (dupTo r i || decide (placeM r (nth r i) < (i : Int))) := by simp [dupTo, List.range_succ]
theorem dupTo_all (r : List Int) : dupTo r r.length = dupB r := by
  have key : dupTo r r.length = false ↔ dupB r = false := by
    rw [dup_nodup, dupTo, List.any_eq_false, List.Nodup, List.pairwise_iff_getElem]
    constructor
    · intro h i j hi hj hij e
      have := h j (List.mem_range.2 hj)
      rw [decide_eq_true_eq, place_lt hj] at this
      exact this ⟨i, hij, by rw [nth_eq hi, nth_eq hj]; exact e⟩
    · intro h k hk
      have hk := List.mem_range.1 hk
      rw [decide_eq_true_eq, place_lt hk]
      rintro ⟨j, hj, e⟩
      rw [nth_eq (by omega), nth_eq hk] at e
      exact h j k (by omega) hk hj e
  cases h1 : dupTo r r.length <;> cases h2 : dupB r <;> simp_all
theorem inB_off (n lo hi : Int) : inB n lo hi = !offP lo hi n := by
  rw [inB, offP]
  by_cases h1 : lo ≤ n <;> by_cases h2 : n ≤ hi <;> simp [h1, h2] <;> omega
theorem any_take_true {r : List Int} {q : Int → Bool} {i : Nat} (hi : i < r.length) (h : q (nth r i) = true) : r.any q = true := List.any_eq_true.2 ⟨nth r i, by rw [nth_eq hi]; exact List.getElem_mem hi, h⟩
theorem any_all_false {r : List Int} {q : Int → Bool} (h : ∀ k, k < r.length → q (nth r k) = false) : r.any q = false := by
  rw [List.any_eq_false]
  intro x hx
  obtain ⟨k, hk, rfl⟩ := List.mem_iff_getElem.1 hx
  have := h k hk
  rw [nth_eq hk] at this
  simp [this]
set_option maxHeartbeats 2000000 in
set_option maxRecDepth 100000 in
theorem lot7_any {c : Nat} {A : Option Addr} {f : File} {fa : FA} {w : World} (h : FileV w w.heap.size f fa) (l : Lot) (hr : IntsS w w.heap.size A l.route.length c l.route) :
    Calls Try.prog 46 #[fileVal f fa, .agg #[.slice A l.route.length c, .int .i64 l.turned.lo, .int .i64 l.turned.hi, .int .i64 l.worth]] w fun e w' => e = .returned (.int .i64 (lotE f 0 l)) ∧ Below w.heap.size w w' := by
  have hB0 : Below w.heap.size w ((w.alloc (.cells (fileCells f fa) 28)).alloc (.cells #[.slice A l.route.length c, .int .i64 l.turned.lo, .int .i64 l.turned.hi, .int .i64 l.worth] 56)) := ((Below.refl _ _).alloc (Nat.le_refl _) _).alloc (by simp) _
  have q1 : Blk ((w.alloc (.cells (fileCells f fa) 28)).alloc (.cells #[.slice A l.route.length c, .int .i64 l.turned.lo, .int .i64 l.turned.hi, .int .i64 l.worth] 56)) w.heap.size 28 (fileCells f fa) := Blk.made.alloc _
  have q2 : Blk ((w.alloc (.cells (fileCells f fa) 28)).alloc (.cells #[.slice A l.route.length c, .int .i64 l.turned.lo, .int .i64 l.turned.hi, .int .i64 l.worth] 56)) (w.heap.size + 1) 56 #[.slice A l.route.length c, .int .i64 l.turned.lo, .int .i64 l.turned.hi, .int .i64 l.worth] := Blk.made' (by simp)
  have HR := hide (hr.next hB0)
  have HB0 := hide hB0
  have hm1 := h.m1
  unfold maxLen at hm1
  have hrb := hr.bd
  clear h hB0 hr
  go_enter Try.func46, Try.ntmps46
  go_upto_region 1 with (fail)
  generalize ((w.alloc (.cells (fileCells f fa) 28)).alloc (.cells #[.slice A l.route.length c, .int .i64 l.turned.lo, .int .i64 l.turned.hi, .int .i64 l.worth] 56)) = w0 at *
  have p0 := q1.at_ 0
  have r0 := q2.at_ 0
  have r1 := q2.at_ 1
  have r2 := q2.at_ 2
  have r3 := q2.at_ 3
  simp only [fileCells, List.getElem?_toArray, List.getElem?_cons_zero, List.getElem?_cons_succ] at p0 r0 r1 r2 r3
  have hz1 := q1.lt
  have hz2 := q2.lt
  have HE := hide (show lotE f 0 l = if offP 1 4 l.route.length then 3 else if l.route.any (offP 0 ((f.parties.length : Int) - 1)) then 4 else if dupB l.route then 5
    else if offP 0 ((l.route.length : Int) - 1) l.turned.lo || offP 0 ((l.route.length : Int) - 1) l.turned.hi || offP 1 99 l.worth then 7 else if l.turned.hi < l.turned.lo then 2 else 0 from rfl)
  have HD := hide (dupTo_all l.route)
  have HDS := hide (dupTo_succ l.route)
  have HD0 := hide (show dupTo l.route 0 = false from rfl)
  obtain ⟨rt, ⟨tlo, thi⟩, wo⟩ := l
  dsimp only at *
  clear q1 q2
  have hn0 : (0 : Int) ≤ (rt.length : Int) := Int.natCast_nonneg _
  have hp0' : (0 : Int) ≤ (f.parties.length : Int) := Int.natCast_nonneg _
  have hw1 : IntKind.i64.wrap ((f.parties.length : Int) - 1) = (f.parties.length : Int) - 1 := IntWalk.i64_in _ (by omega)
  have hw2 : IntKind.i64.wrap ((rt.length : Int) - 1) = (rt.length : Int) - 1 := IntWalk.i64_in _ (by omega)
  cases ho : offP 1 4 rt.length with
  | true =>
    have hi1 : inB rt.length 1 4 = false := by rw [inB_off, ho]; rfl
    have HX := hide (show lotE f 0 ⟨rt, ⟨tlo, thi⟩, wo⟩ = 3 by rw [HE.out, ho]; rfl)
    clear ho
    go_wp2_with (go_at_call 45; refine (in_any _ _ _ _).mono ?_; rintro e w' ⟨rfl, rfl⟩; rw [hi1])
    go_ret
    exact ⟨by rw [HX.out]; rfl, HB0.out⟩
  | false =>
    have hi1 : inB rt.length 1 4 = true := by rw [inB_off, ho]; rfl
    have hlen : 1 ≤ rt.length ∧ rt.length ≤ 4 := by have := offP_false.1 ho; omega
    have HE1 := hide (show lotE f 0 ⟨rt, ⟨tlo, thi⟩, wo⟩ = if rt.any (offP 0 ((f.parties.length : Int) - 1)) then 4 else if dupB rt then 5 else if offP 0 ((rt.length : Int) - 1) tlo || offP 0 ((rt.length : Int) - 1) thi || offP 1 99 wo then 7 else if thi < tlo then 2 else 0 by rw [HE.out, ho]; rfl)
    clear ho HE
    go_wp2_with (go_at_call 45; refine (in_any _ _ _ _).mono ?_; rintro e w' ⟨rfl, rfl⟩; rw [hi1])
    go_loopw [5, 6] (fun v5 v6 wr => ∃ i : Nat, i ≤ rt.length ∧ v6 = .int .i64 i ∧ v5 = .bool (dupTo rt i) ∧ Hid (∀ k, k < i → offP 0 ((f.parties.length : Int) - 1) (nth rt k) = false) ∧ Below w0.heap.size w0 wr) (fun _ v6 _ => rt.length - (intOf v6).toNat)
    case atStart => exact ⟨0, Nat.zero_le _, rfl, by rw [HD0.out], hide (fun k hk => by omega), Below.refl _ _⟩
    case round =>
      obtain ⟨i, hi, rfl, rfl, HF, hB⟩ := hrel
      have hi0 : (0 : Int) ≤ (i : Int) := Int.natCast_nonneg _
      have hzr := hB.size
      have p0 := (hB.cell (p := ⟨w.heap.size, 0, none⟩) hz1).trans p0
      have r0 := (hB.cell (p := ⟨w.heap.size + 1, 0, none⟩) hz2).trans r0
      have r1 := (hB.cell (p := ⟨w.heap.size + 1, 1, none⟩) hz2).trans r1
      have r2 := (hB.cell (p := ⟨w.heap.size + 1, 2, none⟩) hz2).trans r2
      have r3 := (hB.cell (p := ⟨w.heap.size + 1, 3, none⟩) hz2).trans r3
      have HRR := hide ((HR.out.below hB).more hzr)
      have hz1r : w.heap.size < wr.heap.size := by omega
      have hz2r : w.heap.size + 1 < wr.heap.size := by omega
      have HB := hide hB
      clear hB
      by_cases hlt : i < rt.length
      · have hi1' : (i : Int) < (rt.length : Int) := by omega
        obtain ⟨br, ob, rfl, hbr, hc⟩ := HRR.out.at_ hlt
        have HDI := hide (HDS.out i)
        cases hof : offP 0 ((f.parties.length : Int) - 1) (nth rt i) with
        | true =>
          have hin : inB (nth rt i) 0 ((f.parties.length : Int) - 1) = false := by rw [inB_off, hof]; rfl
          have HX := hide (show lotE f 0 ⟨rt, ⟨tlo, thi⟩, wo⟩ = 4 by rw [HE1.out, any_take_true hlt hof]; rfl)
          clear hof
          go_wp2_with fail
          go_quiet (first | (go_at_call 45; exact Calls.quiet_of_same ((in_any _ _ _ _).mono (fun _ _ h => ⟨by rw [h.1, hin], h.2.symm⟩))))
          go_wp2_with fail
          go_ret
          exact ⟨by rw [HX.out]; rfl, HB0.out.trans ((below_drewN HB.out _).mono HB0.out.size)⟩
        | false =>
          have hin : inB (nth rt i) 0 ((f.parties.length : Int) - 1) = true := by rw [inB_off, hof]; rfl
          have HOF := hide hof
          clear hof
          cases hdt : dupTo rt i with
          | true =>
            have HX := hide (show dupTo rt (i + 1) = true by rw [HDI.out, hdt]; rfl)
            go_wp2_with fail
            go_quiet (first | (go_at_call 45; exact Calls.quiet_of_same ((in_any _ _ _ _).mono (fun _ _ h => ⟨by rw [h.1, hin], h.2.symm⟩))))
            go_wp2_with fail
            go_quiet (fail)
            go_wp2_with fail
            go_roundw
            case rel => exact ⟨i + 1, by omega, by go_num, by rw [HX.out], hide (fun k hk => by
              rcases Nat.lt_or_ge k i with h1 | h1
              · exact HF.out k h1
              · rw [show k = i by omega]; exact HOF.out), below_drewN HB.out _⟩
            case measure => simp [intOf]; omega
          | false =>
            have HX := hide (show dupTo rt (i + 1) = decide (placeM rt (nth rt i) < (i : Int)) by rw [HDI.out, hdt]; rfl)
            go_wp2_with fail
            go_quiet (first | (go_at_call 45; exact Calls.quiet_of_same ((in_any _ _ _ _).mono (fun _ _ h => ⟨by rw [h.1, hin], h.2.symm⟩))))
            go_wp2_with fail
            have hd : Below wr.heap.size wr (wr.drewN nq) := below_drewN (Below.refl _ _) nq
            have r0 := (hd.cell (p := ⟨w.heap.size + 1, 0, none⟩) hz2r).trans r0
            have hcc := (hd.cell (p := ⟨br, ob + i, none⟩) (by show br < _; omega)).trans hc
            have HRY := hide (HRR.out.next hd)
            have HBY := hide (HB.out.trans (hd.mono hzr))
            have hzy := hd.size
            generalize wr.drewN nq = wy at *
            have hz2y : w.heap.size + 1 < wy.heap.size := by omega
            have hbry : br < wy.heap.size := by omega
            refine wp_region_rel (dst := fun oi => [31, 32, 33, 34, 35, 36, 37, 38, 39, 40, 41, 42, 43, 0].getD oi 0) (mono := fun oi => decide (oi < 13)) (pre := fun oi => decide (oi < 13)) (R := LKeep (fun _ => False) (fun _ => True))
              (Pv := fun oi v W => match oi with
                | 0 => v = .bool false
                | 1 => v = .bool false
                | 2 => v = .pointer (some ⟨w.heap.size + 1, 0, none⟩)
                | 3 => v = .slice (some ⟨br, ob, none⟩) rt.length c
                | 4 => v = .pointer (some ⟨w.heap.size + 1, 0, none⟩)
                | 5 => v = .slice (some ⟨br, ob, none⟩) rt.length c
                | 6 => v = .int .i64 (i : Nat)
                | 7 => v = .pointer (some ⟨br, ob + i, none⟩)
                | 8 => v = .int .i64 (nth rt i)
                | 9 => v = .int .i64 (placeM rt (nth rt i))
                | 10 => v = .int .i64 (i : Nat)
                | 11 => v = .bool (decide (placeM rt (nth rt i) < (i : Int)))
                | 12 => v = .bool (decide (placeM rt (nth rt i) < (i : Int)))
                | _ => True) (by kernel_rfl) (by kernel_rfl) (LKeep.refl _ _) (fun _ _ _ h h' => h.trans h') ?hst ?hstep ?hend
            case hst =>
              intro oi v W W' h hk
              match oi, h with
              | 0, h => exact h
              | 1, h => exact h
              | 2, h => exact h
              | 3, h => exact h
              | 4, h => exact h
              | 5, h => exact h
              | 6, h => exact h
              | 7, h => exact h
              | 8, h => exact h
              | 9, h => exact h
              | 10, h => exact h
              | 11, h => exact h
              | 12, h => exact h
              | oi + 13, h => exact trivial
            case hstep =>
              intro oi hoi hom listed vs ao W hU hk0 hpv haft Ko hK
              have hkk := (LKeep.drew (fun _ => False) (M := fun _ => True) wy (fun h => h)).trans hk0
              have hk := hkk.1
              have hkm := hkk.2
              clear hkk
              match oi, hoi, hom with
              | 0, hoi, hom =>
                have z5 : ao.tmps[5]?.getD undef = .bool false := hU.same 5 (by decide)
                refine wpOp_value (v := .bool false) (W' := W) rfl rfl ?_ (hK _ _ (LKeep.refl _ _ _) rfl)
                go_simp
              | 1, hoi, hom =>
                have l0 := haft _ rfl { on := 0, ground := .data } (by simp) rfl
                have hv0 : vs 0 = .bool false := hpv 0 l0
                have s0 : ao.tmps[31]?.getD undef = vs 0 := hU.slot 0 (by decide) l0
                rw [hv0] at s0
                refine wpOp_value (v := .bool false) (W' := W) rfl rfl ?_ (hK _ _ (LKeep.refl _ _ _) rfl)
                go_simp
              | 2, hoi, hom =>
                have l1 := haft _ rfl { on := 1, ground := .guard } (by simp) rfl
                have hv1 : vs 1 = .bool false := hpv 1 l1
                have s1 : ao.tmps[32]?.getD undef = vs 1 := hU.slot 1 (by decide) l1
                rw [hv1] at s1
                have z3 : ao.tmps[3]?.getD undef = .pointer (some ⟨w.heap.size + 1, 0, none⟩) := hU.same 3 (by decide)
                refine wpOp_wanted (v := .pointer (some ⟨w.heap.size + 1, 0, none⟩)) (W' := W) rfl ?_ ?_ (hK _ _ (LKeep.refl _ _ _) rfl)
                · refine wanted_yes (j := 1) (d := 32) ?_ ?_ s1 <;> rfl
                go_simp
              | 3, hoi, hom =>
                have l1 := haft _ rfl { on := 1, ground := .guard } (by simp) rfl
                have hv1 : vs 1 = .bool false := hpv 1 l1
                have s1 : ao.tmps[32]?.getD undef = vs 1 := hU.slot 1 (by decide) l1
                rw [hv1] at s1
                have l2 := haft _ rfl { on := 2, ground := .data } (by simp) rfl
                have hv2 : vs 2 = .pointer (some ⟨w.heap.size + 1, 0, none⟩) := hpv 2 l2
                have s2 : ao.tmps[33]?.getD undef = vs 2 := hU.slot 2 (by decide) l2
                rw [hv2] at s2
                have y0 := (hk.cell (b := w.heap.size + 1) (o := 0) (by omega) (fun h => h)).trans (r0)
                refine wpOp_wanted (v := .slice (some ⟨br, ob, none⟩) rt.length c) (W' := W) rfl ?_ ?_ (hK _ _ (LKeep.refl _ _ _) rfl)
                · refine wanted_yes (j := 1) (d := 32) ?_ ?_ s1 <;> rfl
                go_simp
              | 4, hoi, hom =>
                have l1 := haft _ rfl { on := 1, ground := .guard } (by simp) rfl
                have hv1 : vs 1 = .bool false := hpv 1 l1
                have s1 : ao.tmps[32]?.getD undef = vs 1 := hU.slot 1 (by decide) l1
                rw [hv1] at s1
                have z3 : ao.tmps[3]?.getD undef = .pointer (some ⟨w.heap.size + 1, 0, none⟩) := hU.same 3 (by decide)
                refine wpOp_wanted (v := .pointer (some ⟨w.heap.size + 1, 0, none⟩)) (W' := W) rfl ?_ ?_ (hK _ _ (LKeep.refl _ _ _) rfl)
                · refine wanted_yes (j := 1) (d := 32) ?_ ?_ s1 <;> rfl
                go_simp
              | 5, hoi, hom =>
                have l1 := haft _ rfl { on := 1, ground := .guard } (by simp) rfl
                have hv1 : vs 1 = .bool false := hpv 1 l1
                have s1 : ao.tmps[32]?.getD undef = vs 1 := hU.slot 1 (by decide) l1
                rw [hv1] at s1
                have l4 := haft _ rfl { on := 4, ground := .data } (by simp) rfl
                have hv4 : vs 4 = .pointer (some ⟨w.heap.size + 1, 0, none⟩) := hpv 4 l4
                have s4 : ao.tmps[35]?.getD undef = vs 4 := hU.slot 4 (by decide) l4
                rw [hv4] at s4
                have y0 := (hk.cell (b := w.heap.size + 1) (o := 0) (by omega) (fun h => h)).trans (r0)
                refine wpOp_wanted (v := .slice (some ⟨br, ob, none⟩) rt.length c) (W' := W) rfl ?_ ?_ (hK _ _ (LKeep.refl _ _ _) rfl)
                · refine wanted_yes (j := 1) (d := 32) ?_ ?_ s1 <;> rfl
                go_simp
              | 6, hoi, hom =>
                have l1 := haft _ rfl { on := 1, ground := .guard } (by simp) rfl
                have hv1 : vs 1 = .bool false := hpv 1 l1
                have s1 : ao.tmps[32]?.getD undef = vs 1 := hU.slot 1 (by decide) l1
                rw [hv1] at s1
                have z6 : ao.tmps[6]?.getD undef = .int .i64 (i : Nat) := hU.same 6 (by decide)
                refine wpOp_wanted (v := .int .i64 (i : Nat)) (W' := W) rfl ?_ ?_ (hK _ _ (LKeep.refl _ _ _) rfl)
                · refine wanted_yes (j := 1) (d := 32) ?_ ?_ s1 <;> rfl
                go_simp
              | 7, hoi, hom =>
                have l1 := haft _ rfl { on := 1, ground := .guard } (by simp) rfl
                have hv1 : vs 1 = .bool false := hpv 1 l1
                have s1 : ao.tmps[32]?.getD undef = vs 1 := hU.slot 1 (by decide) l1
                rw [hv1] at s1
                have l5 := haft _ rfl { on := 5, ground := .data } (by simp) rfl
                have hv5 : vs 5 = .slice (some ⟨br, ob, none⟩) rt.length c := hpv 5 l5
                have s5 : ao.tmps[36]?.getD undef = vs 5 := hU.slot 5 (by decide) l5
                rw [hv5] at s5
                have l6 := haft _ rfl { on := 6, ground := .data } (by simp) rfl
                have hv6 : vs 6 = .int .i64 (i : Nat) := hpv 6 l6
                have s6 : ao.tmps[37]?.getD undef = vs 6 := hU.slot 6 (by decide) l6
                rw [hv6] at s6
                refine wpOp_wanted (v := .pointer (some ⟨br, ob + i, none⟩)) (W' := W) rfl ?_ ?_ (hK _ _ (LKeep.refl _ _ _) rfl)
                · refine wanted_yes (j := 1) (d := 32) ?_ ?_ s1 <;> rfl
                go_simp
              | 8, hoi, hom =>
                have l1 := haft _ rfl { on := 1, ground := .guard } (by simp) rfl
                have hv1 : vs 1 = .bool false := hpv 1 l1
                have s1 : ao.tmps[32]?.getD undef = vs 1 := hU.slot 1 (by decide) l1
                rw [hv1] at s1
                have l7 := haft _ rfl { on := 7, ground := .data } (by simp) rfl
                have hv7 : vs 7 = .pointer (some ⟨br, ob + i, none⟩) := hpv 7 l7
                have s7 : ao.tmps[38]?.getD undef = vs 7 := hU.slot 7 (by decide) l7
                rw [hv7] at s7
                have y0 := (hk.cell (b := br) (o := ob + i) (by omega) (fun h => h)).trans (hcc)
                refine wpOp_wanted (v := .int .i64 (nth rt i)) (W' := W) rfl ?_ ?_ (hK _ _ (LKeep.refl _ _ _) rfl)
                · refine wanted_yes (j := 1) (d := 32) ?_ ?_ s1 <;> rfl
                go_simp
              | 9, hoi, hom =>
                have l1 := haft _ rfl { on := 1, ground := .guard } (by simp) rfl
                have hv1 : vs 1 = .bool false := hpv 1 l1
                have s1 : ao.tmps[32]?.getD undef = vs 1 := hU.slot 1 (by decide) l1
                rw [hv1] at s1
                have l3 := haft _ rfl { on := 3, ground := .data } (by simp) rfl
                have hv3 : vs 3 = .slice (some ⟨br, ob, none⟩) rt.length c := hpv 3 l3
                have s3 : ao.tmps[34]?.getD undef = vs 3 := hU.slot 3 (by decide) l3
                rw [hv3] at s3
                have l8 := haft _ rfl { on := 8, ground := .data } (by simp) rfl
                have hv8 : vs 8 = .int .i64 (nth rt i) := hpv 8 l8
                have s8 : ao.tmps[39]?.getD undef = vs 8 := hU.slot 8 (by decide) l8
                rw [hv8] at s8
                refine wpOp_enterW (f := 75) (args := #[.slice (some ⟨br, ob, none⟩) rt.length c, .int .i64 (nth rt i)]) (W' := W) rfl ?_ ?_ ((place_any (HRY.out.below (hk.below (B := wy.heap.size) (fun k h => h.elim) (Nat.le_refl _))) (nth rt i)).mono (fun e w'' h => ?_))
                · refine wanted_yes (j := 1) (d := 32) ?_ ?_ s1 <;> rfl
                · go_simp
                · obtain ⟨he, hbw⟩ := h
                  exact ⟨_, he, hK _ _ (by rw [← hbw]; exact LKeep.refl _ _ _) rfl⟩
              | 10, hoi, hom =>
                have l1 := haft _ rfl { on := 1, ground := .guard } (by simp) rfl
                have hv1 : vs 1 = .bool false := hpv 1 l1
                have s1 : ao.tmps[32]?.getD undef = vs 1 := hU.slot 1 (by decide) l1
                rw [hv1] at s1
                have z6 : ao.tmps[6]?.getD undef = .int .i64 (i : Nat) := hU.same 6 (by decide)
                refine wpOp_wanted (v := .int .i64 (i : Nat)) (W' := W) rfl ?_ ?_ (hK _ _ (LKeep.refl _ _ _) rfl)
                · refine wanted_yes (j := 1) (d := 32) ?_ ?_ s1 <;> rfl
                go_simp
              | 11, hoi, hom =>
                have l1 := haft _ rfl { on := 1, ground := .guard } (by simp) rfl
                have hv1 : vs 1 = .bool false := hpv 1 l1
                have s1 : ao.tmps[32]?.getD undef = vs 1 := hU.slot 1 (by decide) l1
                rw [hv1] at s1
                have l9 := haft _ rfl { on := 9, ground := .data } (by simp) rfl
                have hv9 : vs 9 = .int .i64 (placeM rt (nth rt i)) := hpv 9 l9
                have s9 : ao.tmps[40]?.getD undef = vs 9 := hU.slot 9 (by decide) l9
                rw [hv9] at s9
                have l10 := haft _ rfl { on := 10, ground := .data } (by simp) rfl
                have hv10 : vs 10 = .int .i64 (i : Nat) := hpv 10 l10
                have s10 : ao.tmps[41]?.getD undef = vs 10 := hU.slot 10 (by decide) l10
                rw [hv10] at s10
                refine wpOp_wanted (v := .bool (decide (placeM rt (nth rt i) < (i : Int)))) (W' := W) rfl ?_ ?_ (hK _ _ (LKeep.refl _ _ _) rfl)
                · refine wanted_yes (j := 1) (d := 32) ?_ ?_ s1 <;> rfl
                go_simp
              | 12, hoi, hom =>
                have l1 := haft _ rfl { on := 1, ground := .data } (by simp) rfl
                have hv1 : vs 1 = .bool false := hpv 1 l1
                have s1 : ao.tmps[32]?.getD undef = vs 1 := hU.slot 1 (by decide) l1
                rw [hv1] at s1
                have l11 := haft _ rfl { on := 11, ground := .data } (by simp) rfl
                have hv11 : vs 11 = .bool (decide (placeM rt (nth rt i) < (i : Int))) := hpv 11 l11
                have s11 : ao.tmps[42]?.getD undef = vs 11 := hU.slot 11 (by decide) l11
                rw [hv11] at s11
                refine wpOp_value (v := .bool (decide (placeM rt (nth rt i) < (i : Int)))) (W' := W) rfl rfl ?_ (hK _ _ (LKeep.refl _ _ _) rfl)
                go_simp
              | oi + 13, hoi, hom => exact absurd (of_decide_eq_true hom) (by omega)
            case hend =>
              intro listed vs ao W hG hk0 hpv hpre
              have hkk := (LKeep.drew (fun _ => False) (M := fun _ => True) wy (fun h => h)).trans hk0
              have hk := hkk.1
              have hkm := hkk.2
              clear hkk
              have hact := hG.act
              have hT := hG.lst hpre 0 #[true, true, true, true, true, true, true, true, true, true, true, true, true, false] rfl (by kernel_rfl) (hpre 0 (by decide) (by decide))
              rw [hG.ix hT (l := [0, 1, 2, 3, 4, 5, 6, 7, 8, 9, 10, 11, 12]) (by kernel_rfl)] at hact
              rw [hG.lo hT (k := 1) (by kernel_rfl)]
              have hv0 : vs 0 = .bool false := hpv 0 (hpre 0 (by decide) (by decide))
              have hv1 : vs 1 = .bool false := hpv 1 (hpre 1 (by decide) (by decide))
              have hv2 : vs 2 = .pointer (some ⟨w.heap.size + 1, 0, none⟩) := hpv 2 (hpre 2 (by decide) (by decide))
              have hv3 : vs 3 = .slice (some ⟨br, ob, none⟩) rt.length c := hpv 3 (hpre 3 (by decide) (by decide))
              have hv4 : vs 4 = .pointer (some ⟨w.heap.size + 1, 0, none⟩) := hpv 4 (hpre 4 (by decide) (by decide))
              have hv5 : vs 5 = .slice (some ⟨br, ob, none⟩) rt.length c := hpv 5 (hpre 5 (by decide) (by decide))
              have hv6 : vs 6 = .int .i64 (i : Nat) := hpv 6 (hpre 6 (by decide) (by decide))
              have hv7 : vs 7 = .pointer (some ⟨br, ob + i, none⟩) := hpv 7 (hpre 7 (by decide) (by decide))
              have hv8 : vs 8 = .int .i64 (nth rt i) := hpv 8 (hpre 8 (by decide) (by decide))
              have hv9 : vs 9 = .int .i64 (placeM rt (nth rt i)) := hpv 9 (hpre 9 (by decide) (by decide))
              have hv10 : vs 10 = .int .i64 (i : Nat) := hpv 10 (hpre 10 (by decide) (by decide))
              have hv11 : vs 11 = .bool (decide (placeM rt (nth rt i) < (i : Int))) := hpv 11 (hpre 11 (by decide) (by decide))
              have hv12 : vs 12 = .bool (decide (placeM rt (nth rt i) < (i : Int))) := hpv 12 (hpre 12 (by decide) (by decide))
              clear hpv hpre hG hk0
              obtain rfl : ao = _ := hact
              subst hT
              simp only [setAll, List.setIfInBounds_toArray, List.set_cons_succ, List.set_cons_zero, List.getD_cons_succ, List.getD_cons_zero]
              simp only [hv0, hv1, hv2, hv3, hv4, hv5, hv6, hv7, hv8, hv9, hv10, hv11, hv12]
              clear hv0 hv1 hv2 hv3 hv4 hv5 hv6 hv7 hv8 hv9 hv10 hv11 hv12
              refine wpAny_all (rs := [13]) (by kernel_rfl) (by simp) ?_
              intro i2 hi2
              obtain rfl : i2 = 13 := by simpa using hi2
              refine wpOp_value (v := .bool (decide (placeM rt (nth rt i) < (i : Int)))) (W' := W) rfl rfl ?_ ?_
              · go_simp
              try simp only [Act.put, List.setIfInBounds_toArray, List.set_cons_zero, List.set_cons_succ]
              refine wpAny_done (by kernel_rfl) ?_ _
              have hbz := hk.below (B := wy.heap.size) (fun k h => h.elim) (Nat.le_refl _)
              have HBZ := hide (HBY.out.trans (hbz.mono HBY.out.size))
              clear hk hkm hbz hd r0 hcc
              go_wp2_with fail
              go_roundw
              case rel => exact ⟨i + 1, by omega, by go_num, by rw [HX.out], hide (fun k hk => by
                rcases Nat.lt_or_ge k i with h1 | h1
                · exact HF.out k h1
                · rw [show k = i by omega]; exact HOF.out), HBZ.out⟩
              case measure => simp [intOf]; omega
      · obtain rfl : i = rt.length := by omega
        have hnot : ¬ (rt.length : Int) < (rt.length : Int) := by omega
        have hany : rt.any (offP 0 ((f.parties.length : Int) - 1)) = false := any_all_false HF.out
        rw [HD.out]
        cases hdb : dupB rt with
        | true =>
          have HX := hide (show lotE f 0 ⟨rt, ⟨tlo, thi⟩, wo⟩ = 5 by rw [HE1.out, hany, hdb]; rfl)
          go_wp2_with fail
          go_ret
          exact ⟨by rw [HX.out]; rfl, HB0.out.trans (HB.out.mono HB0.out.size)⟩
        | false =>
          have HE2 := hide (show lotE f 0 ⟨rt, ⟨tlo, thi⟩, wo⟩ = if offP 0 ((rt.length : Int) - 1) tlo || offP 0 ((rt.length : Int) - 1) thi || offP 1 99 wo then 7 else if thi < tlo then 2 else 0 by rw [HE1.out, hany, hdb]; rfl)
          have hen := ends_any ⟨tlo, thi⟩ 0 ((rt.length : Int) - 1) wr
          have HEE := hide (show endsE ⟨tlo, thi⟩ 0 ((rt.length : Int) - 1) = if !offP 0 ((rt.length : Int) - 1) tlo && !offP 0 ((rt.length : Int) - 1) thi then (if thi < tlo then 2 else 0) else 7 by rw [endsE, inB_off, inB_off])
          have HIW := hide (inB_off wo 1 99)
          have HEN := hide hen
          clear hen hany hdb
          cases h1 : (!offP 0 ((rt.length : Int) - 1) tlo && !offP 0 ((rt.length : Int) - 1) thi) with
          | false =>
            have HX := hide (show endsE ⟨tlo, thi⟩ 0 ((rt.length : Int) - 1) = 7 by rw [HEE.out, h1]; rfl)
            have HY := hide (show lotE f 0 ⟨rt, ⟨tlo, thi⟩, wo⟩ = 7 by rw [HE2.out, if_pos (by revert h1; cases offP 0 ((rt.length : Int) - 1) tlo <;> cases offP 0 ((rt.length : Int) - 1) thi <;> simp)])
            go_wp2_with (go_at_call 76; refine HEN.out.mono ?_; rintro e w2 ⟨rfl, hb2⟩; rw [HX.out])
            go_ret
            exact ⟨by rw [HY.out]; rfl, HB0.out.trans ((HB.out.trans (hb2.mono hzr)).mono HB0.out.size)⟩
          | true =>
            have h2 : offP 0 ((rt.length : Int) - 1) tlo = false ∧ offP 0 ((rt.length : Int) - 1) thi = false := by simpa using h1
            have HX := hide (show endsE ⟨tlo, thi⟩ 0 ((rt.length : Int) - 1) = if thi < tlo then 2 else 0 by rw [HEE.out, h1]; rfl)
            have HY := hide (show lotE f 0 ⟨rt, ⟨tlo, thi⟩, wo⟩ = if offP 1 99 wo then 7 else if thi < tlo then 2 else 0 by rw [HE2.out, h2.1, h2.2]; rfl)
            clear h1 h2 HEE HE2
            cases how : offP 1 99 wo with
            | true =>
              have hwi : inB wo 1 99 = false := by rw [HIW.out, how]; rfl
              by_cases hlt2 : thi < tlo
              all_goals
                simp only [hlt2, if_true, if_false] at HX
                have HZ := hide (show lotE f 0 ⟨rt, ⟨tlo, thi⟩, wo⟩ = 7 by rw [HY.out, how]; rfl)
                go_wp2_with (first | (go_at_call 76; refine HEN.out.mono ?_; rintro e w2 ⟨rfl, hb2⟩; rw [HX.out]; have r3 := (hb2.cell (p := ⟨w.heap.size + 1, 3, none⟩) hz2r).trans r3) | (go_at_call 45; refine (in_any _ _ _ _).mono ?_; rintro e w' ⟨rfl, rfl⟩; rw [hwi]))
                go_ret
                exact ⟨by rw [HZ.out]; rfl, HB0.out.trans ((HB.out.trans (hb2.mono hzr)).mono HB0.out.size)⟩
            | false =>
              have hwi : inB wo 1 99 = true := by rw [HIW.out, how]; rfl
              by_cases hlt2 : thi < tlo
              all_goals
                have HZ := hide (show lotE f 0 ⟨rt, ⟨tlo, thi⟩, wo⟩ = endsE ⟨tlo, thi⟩ 0 ((rt.length : Int) - 1) by rw [HY.out, how, HX.out]; rfl)
                simp only [hlt2, if_true, if_false] at HX
                go_wp2_with (first | (go_at_call 76; refine HEN.out.mono ?_; rintro e w2 ⟨rfl, hb2⟩; rw [HX.out]; have r3 := (hb2.cell (p := ⟨w.heap.size + 1, 3, none⟩) hz2r).trans r3) | (go_at_call 45; refine (in_any _ _ _ _).mono ?_; rintro e w' ⟨rfl, rfl⟩; rw [hwi]))
                go_ret
                exact ⟨by rw [HZ.out, HX.out]; rfl, HB0.out.trans ((HB.out.trans (hb2.mono hzr)).mono HB0.out.size)⟩
end Go.Proofs.Ytllmahcanipcpaa
/- Contracts of the reference's paper and Check. -/
namespace Go.Proofs.Ytllmahcanipcpaa
open Go.RowKit
attribute [local go_sem ↓] Go.wp_at_zero Go.wp_at_succ
attribute [local go_sem] Oper.semAt_some

theorem has_place (r : List Int) (p : Int) : hasInt r p = decide (0 ≤ placeM r p) := by rw [← idx_place, idxOf_any]; rfl
set_option maxHeartbeats 2000000 in
set_option maxRecDepth 100000 in
theorem paper7_any {f : File} {fa : FA} {w : World} (h : FileV w w.heap.size f fa) (p : Paper) :
    Calls Try.prog 47 #[fileVal f fa, .agg #[.int .i64 p.says, .int .i64 p.lot, .int .i64 p.of_]] w fun e w' => e = .returned (.int .i64 (paperE f 0 p)) ∧ Below w.heap.size w w' := by
  obtain ⟨ps, pl, po⟩ := p
  have hB0 : Below w.heap.size w ((w.alloc (.cells (fileCells f fa) 28)).alloc (.cells #[.int .i64 ps, .int .i64 pl, .int .i64 po] 48)) := ((Below.refl _ _).alloc (Nat.le_refl _) _).alloc (by simp) _
  have q1 : Blk ((w.alloc (.cells (fileCells f fa) 28)).alloc (.cells #[.int .i64 ps, .int .i64 pl, .int .i64 po] 48)) w.heap.size 28 (fileCells f fa) := Blk.made.alloc _
  have q2 : Blk ((w.alloc (.cells (fileCells f fa) 28)).alloc (.cells #[.int .i64 ps, .int .i64 pl, .int .i64 po] 48)) (w.heap.size + 1) 48 #[.int .i64 ps, .int .i64 pl, .int .i64 po] := Blk.made' (by simp)
  have HC0 := hide (h.next hB0)
  have HB0 := hide hB0
  have hm3 := h.m3
  unfold maxLen at hm3
  clear h hB0
  go_enter Try.func47, Try.ntmps47
  go_upto_region 1 with (fail)
  generalize ((w.alloc (.cells (fileCells f fa) 28)).alloc (.cells #[.int .i64 ps, .int .i64 pl, .int .i64 po] 48)) = w0 at *
  have p2 := q1.at_ 2
  have r0 := q2.at_ 0
  have r1 := q2.at_ 1
  have r2 := q2.at_ 2
  simp only [fileCells, List.getElem?_toArray, List.getElem?_cons_zero, List.getElem?_cons_succ] at p2 r0 r1 r2
  have hz1 := q1.lt
  have hz2 := q2.lt
  have HE := hide (show paperE f 0 ⟨ps, pl, po⟩ = if offP 0 3 ps then 7 else if offP 0 ((f.lots.length : Int) - 1) pl then 4
    else if ps < 2 then (if hasInt (nth f.lots pl.toNat).route po then 0 else 4) else if offP 0 ((f.lots.length : Int) - 1) po then 4 else if pl = po then 2 else 0 from rfl)
  have hl0 : (0 : Int) ≤ (f.lots.length : Int) := Int.natCast_nonneg _
  have hw1 : IntKind.i64.wrap ((f.lots.length : Int) - 1) = (f.lots.length : Int) - 1 := IntWalk.i64_in _ (by omega)
  generalize hEE : paperE f 0 ⟨ps, pl, po⟩ = E at *
  have HEE := hide hEE
  clear hEE
  clear q1 q2
  have hi2 : True := trivial
  have hi3 : True := trivial
  cases h1 : offP 0 3 ps with
  | true =>
    have hi1 : inB ps 0 3 = false := by rw [inB_off, h1]; rfl
    have HX := hide (show E = 7 by rw [HE.out, h1]; rfl)
    clear h1
    go_wp2_with (go_at_call 45; refine (in_any _ _ _ _).mono ?_; rintro e w' ⟨rfl, rfl⟩; first | rw [hi1] | rw [hi2] | rw [hi3])
    go_ret
    exact ⟨by rw [HEE.out, HX.out]; rfl, HB0.out⟩
  | false =>
    have hi1 : inB ps 0 3 = true := by rw [inB_off, h1]; rfl
    have hps := offP_false.1 h1
    cases h2 : offP 0 ((f.lots.length : Int) - 1) pl with
    | true =>
      have hi2 : inB pl 0 ((f.lots.length : Int) - 1) = false := by rw [inB_off, h2]; rfl
      have HX := hide (show E = 4 by rw [HE.out, h1, h2]; rfl)
      clear h1 h2
      go_wp2_with (go_at_call 45; refine (in_any _ _ _ _).mono ?_; rintro e w' ⟨rfl, rfl⟩; first | rw [hi1] | rw [hi2] | rw [hi3])
      go_ret
      exact ⟨by rw [HEE.out, HX.out]; rfl, HB0.out⟩
    | false =>
      have hi2 : inB pl 0 ((f.lots.length : Int) - 1) = true := by rw [inB_off, h2]; rfl
      have hpl := offP_false.1 h2
      have HE2 := hide (show E = if ps < 2 then (if hasInt (nth f.lots pl.toNat).route po then 0 else 4) else if offP 0 ((f.lots.length : Int) - 1) po then 4 else if pl = po then 2 else 0 by rw [HE.out, h1, h2]; rfl)
      clear h1 h2 HE
      by_cases h3 : ps < 2
      · have h3' : ps ≤ 1 := by omega
        obtain ⟨k, rfl⟩ : ∃ k : Nat, pl = (k : Int) := ⟨pl.toNat, by omega⟩
        have hk0 : (0 : Int) ≤ (k : Int) := Int.natCast_nonneg _
        have hk1 : (k : Int) < (f.lots.length : Int) := by omega
        have hk : k < f.lots.length := by omega
        rw [Int.toNat_natCast] at HE2
        obtain ⟨bl, ol, hA3, hbl, y0, -, -, -⟩ := HC0.out.lots.lots hk
        have HRT := hide (HC0.out.routes k hk)
        rw [hA3] at p2
        have HHP := hide (has_place (nth f.lots k).route po)
        cases h4 : decide (0 ≤ placeM (nth f.lots k).route po) with
        | true =>
          have hge : ¬ placeM (nth f.lots k).route po < 0 := by have := of_decide_eq_true h4; omega
          have HX := hide (show E = 0 by rw [HE2.out, if_pos h3, HHP.out, h4]; rfl)
          clear h4 HE2 HHP
          go_wp2_with (go_at_call 45; refine (in_any _ _ _ _).mono ?_; rintro e w' ⟨rfl, rfl⟩; first | rw [hi1] | rw [hi2] | rw [hi3])
          go_quiet (first | (go_at_call 75; exact Calls.quiet_of_same ((place_any (HRT.out.drewN _) _).mono (fun _ _ h => ⟨h.1, h.2.symm⟩))))
          go_wp2_with fail
          go_ret
          exact ⟨by rw [HEE.out, HX.out]; rfl, below_drewN HB0.out _⟩
        | false =>
          have hge : placeM (nth f.lots k).route po < 0 := by have := of_decide_eq_false h4; omega
          have HX := hide (show E = 4 by rw [HE2.out, if_pos h3, HHP.out, h4]; rfl)
          clear h4 HE2 HHP
          go_wp2_with (go_at_call 45; refine (in_any _ _ _ _).mono ?_; rintro e w' ⟨rfl, rfl⟩; first | rw [hi1] | rw [hi2] | rw [hi3])
          go_quiet (first | (go_at_call 75; exact Calls.quiet_of_same ((place_any (HRT.out.drewN _) _).mono (fun _ _ h => ⟨h.1, h.2.symm⟩))))
          go_wp2_with fail
          go_ret
          exact ⟨by rw [HEE.out, HX.out]; rfl, below_drewN HB0.out _⟩
      · have h3' : ¬ ps ≤ 1 := by omega
        cases h4 : offP 0 ((f.lots.length : Int) - 1) po with
        | true =>
          have hi3 : inB po 0 ((f.lots.length : Int) - 1) = false := by rw [inB_off, h4]; rfl
          have HX := hide (show E = 4 by rw [HE2.out, if_neg h3, h4]; rfl)
          clear h4
          go_wp2_with (go_at_call 45; refine (in_any _ _ _ _).mono ?_; rintro e w' ⟨rfl, rfl⟩; first | rw [hi1] | rw [hi2] | rw [hi3])
          go_ret
          exact ⟨by rw [HEE.out, HX.out]; rfl, HB0.out⟩
        | false =>
          have hi3 : inB po 0 ((f.lots.length : Int) - 1) = true := by rw [inB_off, h4]; rfl
          by_cases h5 : po = pl
          · have h5' : (po == pl) = true := by simpa using h5
            have HX := hide (show E = 2 by rw [HE2.out, if_neg h3, h4, if_pos h5.symm]; rfl)
            clear h4 h5
            go_wp2_with (go_at_call 45; refine (in_any _ _ _ _).mono ?_; rintro e w' ⟨rfl, rfl⟩; first | rw [hi1] | rw [hi2] | rw [hi3])
            go_ret
            exact ⟨by rw [HEE.out, HX.out]; rfl, HB0.out⟩
          · have h5' : (po == pl) = false := by simpa using h5
            have HX := hide (show E = 0 by rw [HE2.out, if_neg h3, h4, if_neg (by simp), if_neg (fun e => h5 e.symm)])
            clear h4 h5
            go_wp2_with (go_at_call 45; refine (in_any _ _ _ _).mono ?_; rintro e w' ⟨rfl, rfl⟩; first | rw [hi1] | rw [hi2] | rw [hi3])
            go_ret
            exact ⟨by rw [HEE.out, HX.out]; rfl, HB0.out⟩
theorem failM_long {α : Type} {f : Nat → α → Int} {l : List α} {most : Int} (h : most < l.length) : failM f l most = (0, 3) := if_pos h
theorem failM_hit {α : Type} [Inhabited α] {f : Nat → α → Int} {l : List α} {most : Int} {i : Nat} (hm : (l.length : Int) ≤ most) (hi : i < l.length) (hk : ∀ k, k < i → f k (nth l k) = 0) {e : Int} (he : f i (nth l i) = e) (hne : e ≠ 0) : failM f l most = ((i : Int), e) := by
  rw [failM, if_neg (by omega)]
  have key : ∀ (xs : List α) (s i : Nat), i < xs.length → (∀ k, k < i → f (s + k) (nth xs k) = 0) → f (s + i) (nth xs i) = e → firstE f xs s = (((s + i : Nat) : Int), e) := by
    intro xs
    induction xs with
    | nil => intro s i hi; simp at hi
    | cons x xs ih =>
      intro s i hi hk he
      rw [firstE]
      cases i with
      | zero =>
        have he : f s x = e := by simpa [nth] using he
        rw [if_neg (by rw [he]; exact hne), he]; rfl
      | succ i =>
        have h0 : f s x = 0 := by have := hk 0 (by omega); simpa [nth] using this
        rw [if_pos h0, ih (s + 1) i (by simpa using hi) (fun k hkk => by have := hk (k + 1) (by omega); rw [show s + (k + 1) = s + 1 + k by omega] at this; simpa [nth] using this) (by rw [show s + (i + 1) = s + 1 + i by omega] at he; simpa [nth] using he)]
        congr 2; omega
  have := key l 0 i hi (fun k hkk => by rw [Nat.zero_add]; exact hk k hkk) (by rw [Nat.zero_add]; exact he)
  rw [Nat.zero_add] at this
  exact this
theorem failM_none {α : Type} [Inhabited α] {f : Nat → α → Int} {l : List α} {most : Int} (hm : (l.length : Int) ≤ most) (hk : ∀ k, k < l.length → f k (nth l k) = 0) : failM f l most = (0, 0) := by
  rw [failM, if_neg (by omega)]
  exact firstE_ok l 0 (fun j hj => by rw [Nat.zero_add]; exact hk j hj)
set_option maxHeartbeats 4000000 in
set_option maxRecDepth 100000 in
theorem check7_any {f : File} {fa : FA} {w : World} (h : FileV w w.heap.size f fa) :
    Calls Try.prog 9 #[fileVal f fa] w fun e w' => e = .returned (.tuple #[.int .i64 (checkM f).1, .int .i64 (checkM f).2.1, .int .i64 (checkM f).2.2]) ∧ Below w.heap.size w w' := by
  have HB0 : Hid (Below w.heap.size w (w.alloc (.cells (fileCells f fa) 28))) := hide ((Below.refl _ _).alloc (Nat.le_refl _) _)
  have HBX := hide (BoxF.made h)
  have hm1 := h.m1
  have hm2 := h.m2
  have hm3 := h.m3
  have hm4 := h.m4
  have hm5 := h.m5
  unfold maxLen at hm1 hm2 hm3 hm4 hm5
  have HSM := hide h.small
  clear h
  go_enter Try.func9, Try.ntmps9
  go_upto_region 1 with (fail)
  generalize (w.alloc (.cells (fileCells f fa) 28)) = w0 at *
  obtain ⟨hz, p0, p1, p2, p3, p4⟩ := HBX.out.cells
  have HC := hide (show checkM f = if (failM (partyE f) f.parties 4).2 ≠ 0 then (1, failM (partyE f) f.parties 4)
    else if f.untils.length ≠ f.parties.length then (2, 0, 3)
    else if (failM dayE f.untils 4).2 ≠ 0 then (2, failM dayE f.untils 4)
    else if (failM (lotE f) f.lots 4).2 ≠ 0 then (3, failM (lotE f) f.lots 4)
    else if (failM (paperE f) f.papers 5).2 ≠ 0 then (4, failM (paperE f) f.papers 5)
    else if (failM (claimE f) f.claims 5).2 ≠ 0 then (5, failM (claimE f) f.claims 5)
    else (0, 0, 0) from rfl)
  generalize hCC : checkM f = C at *
  have HCC := hide hCC
  clear hCC
  have hp0 : (0 : Int) ≤ (f.parties.length : Int) := Int.natCast_nonneg _
  have hu0 : (0 : Int) ≤ (f.untils.length : Int) := Int.natCast_nonneg _
  have hl0 : (0 : Int) ≤ (f.lots.length : Int) := Int.natCast_nonneg _
  have ha0 : (0 : Int) ≤ (f.papers.length : Int) := Int.natCast_nonneg _
  have hc0 : (0 : Int) ≤ (f.claims.length : Int) := Int.natCast_nonneg _
  by_cases hlong : (4 : Int) < f.parties.length
  · have HX := hide (show C = (1, 0, 3) by rw [HC.out, failM_long hlong]; rfl)
    go_wp2_with fail
    go_ret3
    exact ⟨by rw [HCC.out, HX.out]; rfl, HB0.out⟩
  have HL1 := hide (show (f.parties.length : Int) ≤ 4 by omega)
  go_wp2_with fail
  go_loopw [5] (fun v5 wr => ∃ i : Nat, i ≤ f.parties.length ∧ v5 = .int .i64 i ∧ Hid (∀ k, k < i → partyE f k (nth f.parties k) = 0) ∧ Below w0.heap.size w0 wr) (fun v5 _ => f.parties.length - (intOf v5).toNat)
  case atStart => exact ⟨0, Nat.zero_le _, rfl, hide (fun k hk => by omega), Below.refl _ _⟩
  case round =>
    obtain ⟨i, hi, rfl, HK, hB⟩ := hrel
    have hi0 : (0 : Int) ≤ (i : Int) := Int.natCast_nonneg _
    have q := (HBX.out.next hB)
    obtain ⟨hz, p0, p1, p2, p3, p4⟩ := q.cells
    have hzr := hB.size
    have HB := hide hB
    clear q hB
    by_cases hlt : i < f.parties.length
    · have hi1 : (i : Int) < (f.parties.length : Int) := by omega
      obtain ⟨bs, os, hA, hbs, hcs⟩ := HBX.out.v.parties.strs hlt
      have hcs := (HB.out.cell (p := ⟨bs, os + i, none⟩) hbs).trans hcs
      have HFR := hide (fun n => fresh7_any (c := fa.c1) (n := i) (w := wr.drewN n) (((HBX.out.v.parties.below HB.out).more HB.out.size) |> fun h => row_pre h hi) (by omega) (by omega) (nth f.parties i) (HSM.out i hlt))
      have HPE := hide (show partyE f i (nth f.parties i) = if nameB (nth f.parties i) then (if (f.parties.take i).any (eqS (nth f.parties i)) then 5 else 0) else 6 from rfl)
      rw [hA] at p0 HFR
      clear hA
      have hbr : bs < wr.heap.size := by omega
      have hi2 : (i : Int) ≤ (f.parties.length : Int) := by omega
      have hi3 : i ≤ fa.c1 := by omega
      have hi4 : (i : Int) ≤ (fa.c1 : Int) := by omega
      generalize hvv : (nth f.parties i) = v at *
      have HVV := hide hvv
      clear hvv
      generalize fa.c1 = k1 at *
      go_wp2_with fail
      cases hpe : (partyE f i v != 0) with
      | true =>
        have hne : partyE f i v ≠ 0 := by simpa using hpe
        have HX := hide (show C = (1, (i : Int), partyE f i v) by rw [HC.out, failM_hit (f := partyE f) HL1.out hlt HK.out (HVV.out ▸ rfl : partyE f i (nth f.parties i) = partyE f i v) hne, if_pos hne])
        go_quiet (first | (go_at_call 44; exact Calls.quiet_of_same ((HFR.out _).mono (fun _ _ h => ⟨by rw [h.1, ← HPE.out], h.2.symm⟩))))
        go_wp2_with fail
        go_ret3
        exact ⟨by rw [HCC.out, HX.out]; rfl, HB0.out.trans ((below_drewN HB.out _).mono HB0.out.size)⟩
      | false =>
        have hne : partyE f i v = 0 := by simpa using hpe
        rw [hne] at hpe HPE
        have HNE := hide hne
        go_quiet (first | (go_at_call 44; exact Calls.quiet_of_same ((HFR.out _).mono (fun _ _ h => ⟨by rw [h.1, ← HPE.out], h.2.symm⟩))))
        go_wp2_with fail
        go_roundw
        case rel => exact ⟨i + 1, by omega, by go_num, hide (fun k hk => by
          rcases Nat.lt_or_ge k i with h1 | h1
          · exact HK.out k h1
          · rw [show k = i by omega, HVV.out]; exact HNE.out), below_drewN HB.out _⟩
        case measure => simp [intOf]; omega
    · obtain rfl : i = f.parties.length := by omega
      have hnot : ¬ (f.parties.length : Int) < (f.parties.length : Int) := by omega
      have HC1 := hide (show C = if f.untils.length ≠ f.parties.length then (2, 0, 3)
        else if (failM dayE f.untils 4).2 ≠ 0 then (2, failM dayE f.untils 4)
        else if (failM (lotE f) f.lots 4).2 ≠ 0 then (3, failM (lotE f) f.lots 4)
        else if (failM (paperE f) f.papers 5).2 ≠ 0 then (4, failM (paperE f) f.papers 5)
        else if (failM (claimE f) f.claims 5).2 ≠ 0 then (5, failM (claimE f) f.claims 5)
        else (0, 0, 0) by rw [HC.out, failM_none HL1.out HK.out, if_neg (by simp)])
      clear HC
      by_cases hul : f.untils.length = f.parties.length
      · have hub : ((f.untils.length : Int) != (f.parties.length : Int)) = false := by simp; omega
        have HUL := hide hul
        have HB1 := hide (HB0.out.trans (HB.out.mono HB0.out.size))
        have hu4 : (f.untils.length : Int) ≤ 4 := by have := HL1.out; omega
        have HU4 := hide hu4
        clear hul
        go_wp2_with fail
        obtain ⟨wa, rfl⟩ : ∃ wa : World, wa = wr := ⟨_, rfl⟩
        have HBA := hide (HBX.out.next HB.out)
        go_loopw [7] (fun v7 wr => ∃ i : Nat, i ≤ f.untils.length ∧ v7 = .int .i64 i ∧ Hid (∀ k, k < i → dayE k (nth f.untils k) = 0) ∧ Below wa.heap.size wa wr) (fun v7 _ => f.untils.length - (intOf v7).toNat)
        case atStart => exact ⟨0, Nat.zero_le _, rfl, hide (fun k hk => by omega), Below.refl _ _⟩
        case round =>
          clear HK hi0 hlt hi hnot hub
          obtain ⟨i, hi, rfl, HK, hB⟩ := hrel
          have hi0 : (0 : Int) ≤ (i : Int) := Int.natCast_nonneg _
          have q := (HBA.out.next hB)
          obtain ⟨hz, p0, p1, p2, p3, p4⟩ := q.cells
          have hzr := hB.size
          have HB := hide hB
          clear q hB
          by_cases hlt : i < f.untils.length
          · have hi1 : (i : Int) < (f.untils.length : Int) := by omega
            obtain ⟨bs, os, hA, hbs, hcs⟩ := HBA.out.v.untils.ints hlt
            have hcs := (HB.out.cell (p := ⟨bs, os + i, none⟩) hbs).trans hcs
            rw [hA] at p1
            clear hA
            have hbr : bs < wr.heap.size := by omega
            have HDE := hide (show dayE i (nth f.untils i) = if offP 0 60 (nth f.untils i) then 7 else 0 from rfl)
            generalize hvv : (nth f.untils i) = v at *
            have HVV := hide hvv
            clear hvv
            cases hof : offP 0 60 v with
            | true =>
              have hin : inB v 0 60 = false := by rw [inB_off, hof]; rfl
              have HX := hide (show C = (2, (i : Int), 7) by rw [HC1.out, if_neg (by simp [HUL.out]), failM_hit (f := dayE) HU4.out hlt HK.out (e := 7) (by rw [HVV.out, HDE.out, hof]; rfl) (by decide)]; rfl)
              clear hof
              go_wp2_with (go_at_call 45; refine (in_any _ _ _ _).mono ?_; rintro e w' ⟨rfl, rfl⟩; rw [hin])
              go_ret3
              exact ⟨by rw [HCC.out, HX.out]; rfl, HB1.out.trans (HB.out.mono HB1.out.size)⟩
            | false =>
              have hin : inB v 0 60 = true := by rw [inB_off, hof]; rfl
              have HNE := hide (show dayE i v = 0 by rw [HDE.out, hof]; rfl)
              clear hof
              go_wp2_with (go_at_call 45; refine (in_any _ _ _ _).mono ?_; rintro e w' ⟨rfl, rfl⟩; rw [hin])
              go_roundw
              case rel => exact ⟨i + 1, by omega, by go_num, hide (fun k hk => by
                rcases Nat.lt_or_ge k i with h1 | h1
                · exact HK.out k h1
                · rw [show k = i by omega, HVV.out]; exact HNE.out), HB.out⟩
              case measure => simp [intOf]; omega
          · obtain rfl : i = f.untils.length := by omega
            have hnot : ¬ (f.untils.length : Int) < (f.untils.length : Int) := by omega
            have HC2 := hide (show C = if (failM (lotE f) f.lots 4).2 ≠ 0 then (3, failM (lotE f) f.lots 4)
              else if (failM (paperE f) f.papers 5).2 ≠ 0 then (4, failM (paperE f) f.papers 5)
              else if (failM (claimE f) f.claims 5).2 ≠ 0 then (5, failM (claimE f) f.claims 5)
              else (0, 0, 0) by rw [HC1.out, if_neg (by simp [HUL.out]), failM_none HU4.out HK.out, if_neg (by simp)])
            clear HC1
            by_cases hlo : (4 : Int) < f.lots.length
            · have HX := hide (show C = (3, 0, 3) by rw [HC2.out, failM_long hlo]; rfl)
              go_wp2_with fail
              go_ret3
              exact ⟨by rw [HCC.out, HX.out]; rfl, HB1.out.trans (HB.out.mono HB1.out.size)⟩
            · have HL3 := hide (show (f.lots.length : Int) ≤ 4 by omega)
              have HB2 := hide (HB1.out.trans (HB.out.mono HB1.out.size))
              have HX_wb := hide (HBA.out.next HB.out)
              go_wp2_with fail
              obtain ⟨wb, rfl⟩ : ∃ wb : World, wb = wr := ⟨_, rfl⟩
              go_loopw [8] (fun v wr => ∃ i : Nat, i ≤ f.lots.length ∧ v = .int .i64 i ∧ Hid (∀ k, k < i → lotE f k (nth f.lots k) = 0) ∧ Below wb.heap.size wb wr) (fun v _ => f.lots.length - (intOf v).toNat)
              case atStart => exact ⟨0, Nat.zero_le _, rfl, hide (fun k hk => by omega), Below.refl _ _⟩
              case round =>
                clear HK hi0 hlt hi hnot
                obtain ⟨i, hi, rfl, HK, hB⟩ := hrel
                have hi0 : (0 : Int) ≤ (i : Int) := Int.natCast_nonneg _
                have q := (HX_wb.out.next hB)
                obtain ⟨hz, p0, p1, p2, p3, p4⟩ := q.cells
                have hzr := hB.size
                have HBR := hide q
                have HB := hide hB
                clear q hB
                by_cases hlt : i < f.lots.length
                · have hi1 : (i : Int) < (f.lots.length : Int) := by omega
                  obtain ⟨bl, ol, hA, hbl, y0, y1, y2, y3⟩ := HBR.out.v.lots.lots hlt
                  have HFV := hide (show fileVal f fa = .agg #[.slice fa.A1 f.parties.length fa.c1, .slice fa.A2 f.untils.length fa.c2, .slice (some ⟨bl, ol, none⟩) f.lots.length fa.c3, .slice fa.A4 f.papers.length fa.c4, .slice fa.A5 f.claims.length fa.c5] by rw [← hA])
                  rw [hA] at p2
                  clear hA
                  have HDE := hide (show lotE f i (nth f.lots i) = lotE f 0 (nth f.lots i) from rfl)
                  cases hpe : (lotE f 0 (nth f.lots i) != 0) with
                  | true =>
                    have hne : lotE f 0 (nth f.lots i) ≠ 0 := by simpa using hpe
                    have HX := hide (show C = (3, (i : Int), lotE f 0 (nth f.lots i)) by rw [HC2.out, failM_hit (f := lotE f) HL3.out hlt HK.out HDE.out hne, if_pos hne])
                    go_wp2_with fail
                    refine wp_region_rel (dst := fun oi => [72, 73, 74, 75, 76, 77, 78, 9].getD oi 0) (mono := fun oi => decide (oi < 8)) (pre := fun oi => decide (oi < 8)) (R := LKeep (fun _ => False) (fun _ => True))
                      (Pv := fun oi v W => match oi with
                        | 0 => v = .agg #[.slice fa.A1 f.parties.length fa.c1, .slice fa.A2 f.untils.length fa.c2, .slice (some ⟨bl, ol, none⟩) f.lots.length fa.c3, .slice fa.A4 f.papers.length fa.c4, .slice fa.A5 f.claims.length fa.c5]
                        | 1 => v = .pointer (some ⟨w.heap.size, 2, none⟩)
                        | 2 => v = .slice (some ⟨bl, ol, none⟩) f.lots.length fa.c3
                        | 3 => v = .int .i64 (i : Nat)
                        | 4 => v = .pointer (some ⟨bl, ol + i * 4, none⟩)
                        | 5 => v = .agg #[.slice (fa.R i) (nth f.lots i).route.length (fa.K i), .int .i64 (nth f.lots i).turned.lo, .int .i64 (nth f.lots i).turned.hi, .int .i64 (nth f.lots i).worth]
                        | 6 => v = .int .i64 (lotE f 0 (nth f.lots i))
                        | 7 => v = .int .i64 (lotE f 0 (nth f.lots i))
                        | _ => True) (by kernel_rfl) (by kernel_rfl) (LKeep.refl _ _) (fun _ _ _ h h' => h.trans h') ?hstX ?hstepX ?hendX
                    case hstX =>
                      intro oi v W W' h hk
                      match oi, h with
                      | 0, h => exact h
                      | 1, h => exact h
                      | 2, h => exact h
                      | 3, h => exact h
                      | 4, h => exact h
                      | 5, h => exact h
                      | 6, h => exact h
                      | 7, h => exact h
                      | oi + 8, h => exact trivial
                    case hstepX =>
                      intro oi hoi hom listed vs ao W hU hk0 hpv haft Ko hK
                      have hkk := (LKeep.drew (fun _ => False) (M := fun _ => True) wr (fun h => h)).trans hk0
                      have hk := hkk.1
                      have hkm := hkk.2
                      clear hkk
                      match oi, hoi, hom with
                      | 0, hoi, hom =>
                        have z1 : ao.tmps[1]?.getD undef = .pointer (some ⟨w.heap.size, 0, none⟩) := hU.same 1 (by decide)
                        have y0 := (hk.cell (b := w.heap.size) (o := 0) (by omega) (fun h => h)).trans (p0)
                        have y1 := (hk.cell (b := w.heap.size) (o := 1) (by omega) (fun h => h)).trans (p1)
                        have y2 := (hk.cell (b := w.heap.size) (o := 2) (by omega) (fun h => h)).trans (p2)
                        have y3 := (hk.cell (b := w.heap.size) (o := 3) (by omega) (fun h => h)).trans (p3)
                        have y4 := (hk.cell (b := w.heap.size) (o := 4) (by omega) (fun h => h)).trans (p4)
                        refine wpOp_value (v := .agg #[.slice fa.A1 f.parties.length fa.c1, .slice fa.A2 f.untils.length fa.c2, .slice (some ⟨bl, ol, none⟩) f.lots.length fa.c3, .slice fa.A4 f.papers.length fa.c4, .slice fa.A5 f.claims.length fa.c5]) (W' := W) rfl rfl ?_ (hK _ _ (LKeep.refl _ _ _) rfl)
                        go_simp
                      | 1, hoi, hom =>
                        have z1 : ao.tmps[1]?.getD undef = .pointer (some ⟨w.heap.size, 0, none⟩) := hU.same 1 (by decide)
                        refine wpOp_value (v := .pointer (some ⟨w.heap.size, 2, none⟩)) (W' := W) rfl rfl ?_ (hK _ _ (LKeep.refl _ _ _) rfl)
                        go_simp
                      | 2, hoi, hom =>
                        have l1 := haft _ rfl { on := 1, ground := .data } (by simp) rfl
                        have hv1 : vs 1 = .pointer (some ⟨w.heap.size, 2, none⟩) := hpv 1 l1
                        have s1 : ao.tmps[73]?.getD undef = vs 1 := hU.slot 1 (by decide) l1
                        rw [hv1] at s1
                        have y0 := (hk.cell (b := w.heap.size) (o := 2) (by omega) (fun h => h)).trans (p2)
                        refine wpOp_value (v := .slice (some ⟨bl, ol, none⟩) f.lots.length fa.c3) (W' := W) rfl rfl ?_ (hK _ _ (LKeep.refl _ _ _) rfl)
                        go_simp
                      | 3, hoi, hom =>
                        have z8 : ao.tmps[8]?.getD undef = .int .i64 (i : Nat) := hU.same 8 (by decide)
                        refine wpOp_value (v := .int .i64 (i : Nat)) (W' := W) rfl rfl ?_ (hK _ _ (LKeep.refl _ _ _) rfl)
                        go_simp
                      | 4, hoi, hom =>
                        have l2 := haft _ rfl { on := 2, ground := .data } (by simp) rfl
                        have hv2 : vs 2 = .slice (some ⟨bl, ol, none⟩) f.lots.length fa.c3 := hpv 2 l2
                        have s2 : ao.tmps[74]?.getD undef = vs 2 := hU.slot 2 (by decide) l2
                        rw [hv2] at s2
                        have l3 := haft _ rfl { on := 3, ground := .data } (by simp) rfl
                        have hv3 : vs 3 = .int .i64 (i : Nat) := hpv 3 l3
                        have s3 : ao.tmps[75]?.getD undef = vs 3 := hU.slot 3 (by decide) l3
                        rw [hv3] at s3
                        refine wpOp_value (v := .pointer (some ⟨bl, ol + i * 4, none⟩)) (W' := W) rfl rfl ?_ (hK _ _ (LKeep.refl _ _ _) rfl)
                        go_simp
                      | 5, hoi, hom =>
                        have l4 := haft _ rfl { on := 4, ground := .data } (by simp) rfl
                        have hv4 : vs 4 = .pointer (some ⟨bl, ol + i * 4, none⟩) := hpv 4 l4
                        have s4 : ao.tmps[76]?.getD undef = vs 4 := hU.slot 4 (by decide) l4
                        rw [hv4] at s4
                        have y0 := (hk.cell (b := bl) (o := ol + i * 4) (by omega) (fun h => h)).trans (y0)
                        have y1 := (hk.cell (b := bl) (o := ol + i * 4 + 1) (by omega) (fun h => h)).trans (y1)
                        have y2 := (hk.cell (b := bl) (o := ol + i * 4 + 2) (by omega) (fun h => h)).trans (y2)
                        have y3 := (hk.cell (b := bl) (o := ol + i * 4 + 3) (by omega) (fun h => h)).trans (y3)
                        refine wpOp_value (v := .agg #[.slice (fa.R i) (nth f.lots i).route.length (fa.K i), .int .i64 (nth f.lots i).turned.lo, .int .i64 (nth f.lots i).turned.hi, .int .i64 (nth f.lots i).worth]) (W' := W) rfl rfl ?_ (hK _ _ (LKeep.refl _ _ _) rfl)
                        go_simp
                      | 6, hoi, hom =>
                        have l0 := haft _ rfl { on := 0, ground := .data } (by simp) rfl
                        have hv0 : vs 0 = .agg #[.slice fa.A1 f.parties.length fa.c1, .slice fa.A2 f.untils.length fa.c2, .slice (some ⟨bl, ol, none⟩) f.lots.length fa.c3, .slice fa.A4 f.papers.length fa.c4, .slice fa.A5 f.claims.length fa.c5] := hpv 0 l0
                        have s0 : ao.tmps[72]?.getD undef = vs 0 := hU.slot 0 (by decide) l0
                        rw [hv0] at s0
                        have l5 := haft _ rfl { on := 5, ground := .data } (by simp) rfl
                        have hv5 : vs 5 = .agg #[.slice (fa.R i) (nth f.lots i).route.length (fa.K i), .int .i64 (nth f.lots i).turned.lo, .int .i64 (nth f.lots i).turned.hi, .int .i64 (nth f.lots i).worth] := hpv 5 l5
                        have s5 : ao.tmps[77]?.getD undef = vs 5 := hU.slot 5 (by decide) l5
                        rw [hv5] at s5
                        have hbq := hk.below (B := wr.heap.size) (fun k h => h.elim) (Nat.le_refl _)
                        have hFW := HBR.out.v.next hbq
                        have hIW := (HBR.out.v.routes i hlt).next hbq
                        have hcall := lot7_any hFW (nth f.lots i) hIW
                        rw [HFV.out] at hcall
                        refine wpOp_enter (f := 46) (args := #[.agg #[.slice fa.A1 f.parties.length fa.c1, .slice fa.A2 f.untils.length fa.c2, .slice (some ⟨bl, ol, none⟩) f.lots.length fa.c3, .slice fa.A4 f.papers.length fa.c4, .slice fa.A5 f.claims.length fa.c5], .agg #[.slice (fa.R i) (nth f.lots i).route.length (fa.K i), .int .i64 (nth f.lots i).turned.lo, .int .i64 (nth f.lots i).turned.hi, .int .i64 (nth f.lots i).worth]]) (W' := W) rfl rfl ?_ ((hcall).mono (fun e w'' h => ?_))
                        · go_simp
                        · obtain ⟨he, hbw⟩ := h
                          exact ⟨_, he, hK _ _ (LKeep.below hbw (fun h => h)) rfl⟩
                      | 7, hoi, hom =>
                        have l6 := haft _ rfl { on := 6, ground := .data } (by simp) rfl
                        have hv6 : vs 6 = .int .i64 (lotE f 0 (nth f.lots i)) := hpv 6 l6
                        have s6 : ao.tmps[78]?.getD undef = vs 6 := hU.slot 6 (by decide) l6
                        rw [hv6] at s6
                        refine wpOp_value (v := .int .i64 (lotE f 0 (nth f.lots i))) (W' := W) rfl rfl ?_ (hK _ _ (LKeep.refl _ _ _) rfl)
                        go_simp
                      | oi + 8, hoi, hom => exact absurd (of_decide_eq_true hom) (by omega)
                    case hendX =>
                      intro listed vs ao W hG hk0 hpv hpre
                      have hkk := (LKeep.drew (fun _ => False) (M := fun _ => True) wr (fun h => h)).trans hk0
                      have hk := hkk.1
                      have hkm := hkk.2
                      clear hkk
                      have hact := hG.act
                      have hT := hG.lst hpre 0 #[true, true, true, true, true, true, true, true] rfl (by kernel_rfl) (hpre 0 (by decide) (by decide))
                      rw [hG.ix hT (l := [0, 1, 2, 3, 4, 5, 6, 7]) (by kernel_rfl)] at hact
                      rw [hG.lo hT (k := 0) (by kernel_rfl)]
                      have hv0 : vs 0 = .agg #[.slice fa.A1 f.parties.length fa.c1, .slice fa.A2 f.untils.length fa.c2, .slice (some ⟨bl, ol, none⟩) f.lots.length fa.c3, .slice fa.A4 f.papers.length fa.c4, .slice fa.A5 f.claims.length fa.c5] := hpv 0 (hpre 0 (by decide) (by decide))
                      have hv1 : vs 1 = .pointer (some ⟨w.heap.size, 2, none⟩) := hpv 1 (hpre 1 (by decide) (by decide))
                      have hv2 : vs 2 = .slice (some ⟨bl, ol, none⟩) f.lots.length fa.c3 := hpv 2 (hpre 2 (by decide) (by decide))
                      have hv3 : vs 3 = .int .i64 (i : Nat) := hpv 3 (hpre 3 (by decide) (by decide))
                      have hv4 : vs 4 = .pointer (some ⟨bl, ol + i * 4, none⟩) := hpv 4 (hpre 4 (by decide) (by decide))
                      have hv5 : vs 5 = .agg #[.slice (fa.R i) (nth f.lots i).route.length (fa.K i), .int .i64 (nth f.lots i).turned.lo, .int .i64 (nth f.lots i).turned.hi, .int .i64 (nth f.lots i).worth] := hpv 5 (hpre 5 (by decide) (by decide))
                      have hv6 : vs 6 = .int .i64 (lotE f 0 (nth f.lots i)) := hpv 6 (hpre 6 (by decide) (by decide))
                      have hv7 : vs 7 = .int .i64 (lotE f 0 (nth f.lots i)) := hpv 7 (hpre 7 (by decide) (by decide))
                      clear hpv hpre hG hk0
                      obtain rfl : ao = _ := hact
                      subst hT
                      simp only [setAll, List.setIfInBounds_toArray, List.set_cons_succ, List.set_cons_zero, List.getD_cons_succ, List.getD_cons_zero]
                      simp only [hv0, hv1, hv2, hv3, hv4, hv5, hv6, hv7]
                      clear hv0 hv1 hv2 hv3 hv4 hv5 hv6 hv7
                      refine wpAny_done (by kernel_rfl) ?_ _
                      have hbz := hk.below (B := wr.heap.size) (fun k h => h.elim) (Nat.le_refl _)
                      have HBZ := hide (HB.out.trans (hbz.mono HB.out.size))
                      clear hk hkm hbz y0 y1 y2 y3 p0 p1 p2 p3 p4
                      go_wp2_with fail
                      go_ret3
                      exact ⟨by rw [HCC.out, HX.out]; rfl, HB2.out.trans (HBZ.out.mono HB2.out.size)⟩
                  | false =>
                    have HNE := hide (HDE.out.trans (by simpa using hpe))
                    go_wp2_with fail
                    refine wp_region_rel (dst := fun oi => [72, 73, 74, 75, 76, 77, 78, 9].getD oi 0) (mono := fun oi => decide (oi < 8)) (pre := fun oi => decide (oi < 8)) (R := LKeep (fun _ => False) (fun _ => True))
                      (Pv := fun oi v W => match oi with
                        | 0 => v = .agg #[.slice fa.A1 f.parties.length fa.c1, .slice fa.A2 f.untils.length fa.c2, .slice (some ⟨bl, ol, none⟩) f.lots.length fa.c3, .slice fa.A4 f.papers.length fa.c4, .slice fa.A5 f.claims.length fa.c5]
                        | 1 => v = .pointer (some ⟨w.heap.size, 2, none⟩)
                        | 2 => v = .slice (some ⟨bl, ol, none⟩) f.lots.length fa.c3
                        | 3 => v = .int .i64 (i : Nat)
                        | 4 => v = .pointer (some ⟨bl, ol + i * 4, none⟩)
                        | 5 => v = .agg #[.slice (fa.R i) (nth f.lots i).route.length (fa.K i), .int .i64 (nth f.lots i).turned.lo, .int .i64 (nth f.lots i).turned.hi, .int .i64 (nth f.lots i).worth]
                        | 6 => v = .int .i64 (lotE f 0 (nth f.lots i))
                        | 7 => v = .int .i64 (lotE f 0 (nth f.lots i))
                        | _ => True) (by kernel_rfl) (by kernel_rfl) (LKeep.refl _ _) (fun _ _ _ h h' => h.trans h') ?hstX ?hstepX ?hendX
                    case hstX =>
                      intro oi v W W' h hk
                      match oi, h with
                      | 0, h => exact h
                      | 1, h => exact h
                      | 2, h => exact h
                      | 3, h => exact h
                      | 4, h => exact h
                      | 5, h => exact h
                      | 6, h => exact h
                      | 7, h => exact h
                      | oi + 8, h => exact trivial
                    case hstepX =>
                      intro oi hoi hom listed vs ao W hU hk0 hpv haft Ko hK
                      have hkk := (LKeep.drew (fun _ => False) (M := fun _ => True) wr (fun h => h)).trans hk0
                      have hk := hkk.1
                      have hkm := hkk.2
                      clear hkk
                      match oi, hoi, hom with
                      | 0, hoi, hom =>
                        have z1 : ao.tmps[1]?.getD undef = .pointer (some ⟨w.heap.size, 0, none⟩) := hU.same 1 (by decide)
                        have y0 := (hk.cell (b := w.heap.size) (o := 0) (by omega) (fun h => h)).trans (p0)
                        have y1 := (hk.cell (b := w.heap.size) (o := 1) (by omega) (fun h => h)).trans (p1)
                        have y2 := (hk.cell (b := w.heap.size) (o := 2) (by omega) (fun h => h)).trans (p2)
                        have y3 := (hk.cell (b := w.heap.size) (o := 3) (by omega) (fun h => h)).trans (p3)
                        have y4 := (hk.cell (b := w.heap.size) (o := 4) (by omega) (fun h => h)).trans (p4)
                        refine wpOp_value (v := .agg #[.slice fa.A1 f.parties.length fa.c1, .slice fa.A2 f.untils.length fa.c2, .slice (some ⟨bl, ol, none⟩) f.lots.length fa.c3, .slice fa.A4 f.papers.length fa.c4, .slice fa.A5 f.claims.length fa.c5]) (W' := W) rfl rfl ?_ (hK _ _ (LKeep.refl _ _ _) rfl)
                        go_simp
                      | 1, hoi, hom =>
                        have z1 : ao.tmps[1]?.getD undef = .pointer (some ⟨w.heap.size, 0, none⟩) := hU.same 1 (by decide)
                        refine wpOp_value (v := .pointer (some ⟨w.heap.size, 2, none⟩)) (W' := W) rfl rfl ?_ (hK _ _ (LKeep.refl _ _ _) rfl)
                        go_simp
                      | 2, hoi, hom =>
                        have l1 := haft _ rfl { on := 1, ground := .data } (by simp) rfl
                        have hv1 : vs 1 = .pointer (some ⟨w.heap.size, 2, none⟩) := hpv 1 l1
                        have s1 : ao.tmps[73]?.getD undef = vs 1 := hU.slot 1 (by decide) l1
                        rw [hv1] at s1
                        have y0 := (hk.cell (b := w.heap.size) (o := 2) (by omega) (fun h => h)).trans (p2)
                        refine wpOp_value (v := .slice (some ⟨bl, ol, none⟩) f.lots.length fa.c3) (W' := W) rfl rfl ?_ (hK _ _ (LKeep.refl _ _ _) rfl)
                        go_simp
                      | 3, hoi, hom =>
                        have z8 : ao.tmps[8]?.getD undef = .int .i64 (i : Nat) := hU.same 8 (by decide)
                        refine wpOp_value (v := .int .i64 (i : Nat)) (W' := W) rfl rfl ?_ (hK _ _ (LKeep.refl _ _ _) rfl)
                        go_simp
                      | 4, hoi, hom =>
                        have l2 := haft _ rfl { on := 2, ground := .data } (by simp) rfl
                        have hv2 : vs 2 = .slice (some ⟨bl, ol, none⟩) f.lots.length fa.c3 := hpv 2 l2
                        have s2 : ao.tmps[74]?.getD undef = vs 2 := hU.slot 2 (by decide) l2
                        rw [hv2] at s2
                        have l3 := haft _ rfl { on := 3, ground := .data } (by simp) rfl
                        have hv3 : vs 3 = .int .i64 (i : Nat) := hpv 3 l3
                        have s3 : ao.tmps[75]?.getD undef = vs 3 := hU.slot 3 (by decide) l3
                        rw [hv3] at s3
                        refine wpOp_value (v := .pointer (some ⟨bl, ol + i * 4, none⟩)) (W' := W) rfl rfl ?_ (hK _ _ (LKeep.refl _ _ _) rfl)
                        go_simp
                      | 5, hoi, hom =>
                        have l4 := haft _ rfl { on := 4, ground := .data } (by simp) rfl
                        have hv4 : vs 4 = .pointer (some ⟨bl, ol + i * 4, none⟩) := hpv 4 l4
                        have s4 : ao.tmps[76]?.getD undef = vs 4 := hU.slot 4 (by decide) l4
                        rw [hv4] at s4
                        have y0 := (hk.cell (b := bl) (o := ol + i * 4) (by omega) (fun h => h)).trans (y0)
                        have y1 := (hk.cell (b := bl) (o := ol + i * 4 + 1) (by omega) (fun h => h)).trans (y1)
                        have y2 := (hk.cell (b := bl) (o := ol + i * 4 + 2) (by omega) (fun h => h)).trans (y2)
                        have y3 := (hk.cell (b := bl) (o := ol + i * 4 + 3) (by omega) (fun h => h)).trans (y3)
                        refine wpOp_value (v := .agg #[.slice (fa.R i) (nth f.lots i).route.length (fa.K i), .int .i64 (nth f.lots i).turned.lo, .int .i64 (nth f.lots i).turned.hi, .int .i64 (nth f.lots i).worth]) (W' := W) rfl rfl ?_ (hK _ _ (LKeep.refl _ _ _) rfl)
                        go_simp
                      | 6, hoi, hom =>
                        have l0 := haft _ rfl { on := 0, ground := .data } (by simp) rfl
                        have hv0 : vs 0 = .agg #[.slice fa.A1 f.parties.length fa.c1, .slice fa.A2 f.untils.length fa.c2, .slice (some ⟨bl, ol, none⟩) f.lots.length fa.c3, .slice fa.A4 f.papers.length fa.c4, .slice fa.A5 f.claims.length fa.c5] := hpv 0 l0
                        have s0 : ao.tmps[72]?.getD undef = vs 0 := hU.slot 0 (by decide) l0
                        rw [hv0] at s0
                        have l5 := haft _ rfl { on := 5, ground := .data } (by simp) rfl
                        have hv5 : vs 5 = .agg #[.slice (fa.R i) (nth f.lots i).route.length (fa.K i), .int .i64 (nth f.lots i).turned.lo, .int .i64 (nth f.lots i).turned.hi, .int .i64 (nth f.lots i).worth] := hpv 5 l5
                        have s5 : ao.tmps[77]?.getD undef = vs 5 := hU.slot 5 (by decide) l5
                        rw [hv5] at s5
                        have hbq := hk.below (B := wr.heap.size) (fun k h => h.elim) (Nat.le_refl _)
                        have hFW := HBR.out.v.next hbq
                        have hIW := (HBR.out.v.routes i hlt).next hbq
                        have hcall := lot7_any hFW (nth f.lots i) hIW
                        rw [HFV.out] at hcall
                        refine wpOp_enter (f := 46) (args := #[.agg #[.slice fa.A1 f.parties.length fa.c1, .slice fa.A2 f.untils.length fa.c2, .slice (some ⟨bl, ol, none⟩) f.lots.length fa.c3, .slice fa.A4 f.papers.length fa.c4, .slice fa.A5 f.claims.length fa.c5], .agg #[.slice (fa.R i) (nth f.lots i).route.length (fa.K i), .int .i64 (nth f.lots i).turned.lo, .int .i64 (nth f.lots i).turned.hi, .int .i64 (nth f.lots i).worth]]) (W' := W) rfl rfl ?_ ((hcall).mono (fun e w'' h => ?_))
                        · go_simp
                        · obtain ⟨he, hbw⟩ := h
                          exact ⟨_, he, hK _ _ (LKeep.below hbw (fun h => h)) rfl⟩
                      | 7, hoi, hom =>
                        have l6 := haft _ rfl { on := 6, ground := .data } (by simp) rfl
                        have hv6 : vs 6 = .int .i64 (lotE f 0 (nth f.lots i)) := hpv 6 l6
                        have s6 : ao.tmps[78]?.getD undef = vs 6 := hU.slot 6 (by decide) l6
                        rw [hv6] at s6
                        refine wpOp_value (v := .int .i64 (lotE f 0 (nth f.lots i))) (W' := W) rfl rfl ?_ (hK _ _ (LKeep.refl _ _ _) rfl)
                        go_simp
                      | oi + 8, hoi, hom => exact absurd (of_decide_eq_true hom) (by omega)
                    case hendX =>
                      intro listed vs ao W hG hk0 hpv hpre
                      have hkk := (LKeep.drew (fun _ => False) (M := fun _ => True) wr (fun h => h)).trans hk0
                      have hk := hkk.1
                      have hkm := hkk.2
                      clear hkk
                      have hact := hG.act
                      have hT := hG.lst hpre 0 #[true, true, true, true, true, true, true, true] rfl (by kernel_rfl) (hpre 0 (by decide) (by decide))
                      rw [hG.ix hT (l := [0, 1, 2, 3, 4, 5, 6, 7]) (by kernel_rfl)] at hact
                      rw [hG.lo hT (k := 0) (by kernel_rfl)]
                      have hv0 : vs 0 = .agg #[.slice fa.A1 f.parties.length fa.c1, .slice fa.A2 f.untils.length fa.c2, .slice (some ⟨bl, ol, none⟩) f.lots.length fa.c3, .slice fa.A4 f.papers.length fa.c4, .slice fa.A5 f.claims.length fa.c5] := hpv 0 (hpre 0 (by decide) (by decide))
                      have hv1 : vs 1 = .pointer (some ⟨w.heap.size, 2, none⟩) := hpv 1 (hpre 1 (by decide) (by decide))
                      have hv2 : vs 2 = .slice (some ⟨bl, ol, none⟩) f.lots.length fa.c3 := hpv 2 (hpre 2 (by decide) (by decide))
                      have hv3 : vs 3 = .int .i64 (i : Nat) := hpv 3 (hpre 3 (by decide) (by decide))
                      have hv4 : vs 4 = .pointer (some ⟨bl, ol + i * 4, none⟩) := hpv 4 (hpre 4 (by decide) (by decide))
                      have hv5 : vs 5 = .agg #[.slice (fa.R i) (nth f.lots i).route.length (fa.K i), .int .i64 (nth f.lots i).turned.lo, .int .i64 (nth f.lots i).turned.hi, .int .i64 (nth f.lots i).worth] := hpv 5 (hpre 5 (by decide) (by decide))
                      have hv6 : vs 6 = .int .i64 (lotE f 0 (nth f.lots i)) := hpv 6 (hpre 6 (by decide) (by decide))
                      have hv7 : vs 7 = .int .i64 (lotE f 0 (nth f.lots i)) := hpv 7 (hpre 7 (by decide) (by decide))
                      clear hpv hpre hG hk0
                      obtain rfl : ao = _ := hact
                      subst hT
                      simp only [setAll, List.setIfInBounds_toArray, List.set_cons_succ, List.set_cons_zero, List.getD_cons_succ, List.getD_cons_zero]
                      simp only [hv0, hv1, hv2, hv3, hv4, hv5, hv6, hv7]
                      clear hv0 hv1 hv2 hv3 hv4 hv5 hv6 hv7
                      refine wpAny_done (by kernel_rfl) ?_ _
                      have hbz := hk.below (B := wr.heap.size) (fun k h => h.elim) (Nat.le_refl _)
                      have HBZ := hide (HB.out.trans (hbz.mono HB.out.size))
                      clear hk hkm hbz y0 y1 y2 y3 p0 p1 p2 p3 p4
                      go_wp2_with fail
                      go_roundw
                      case rel => exact ⟨i + 1, by omega, by go_num, hide (fun k hk => by
                        rcases Nat.lt_or_ge k i with h1 | h1
                        · exact HK.out k h1
                        · rw [show k = i by omega]; exact HNE.out), HBZ.out⟩
                      case measure => simp [intOf]; omega
                · obtain rfl : i = f.lots.length := by omega
                  have hnot : ¬ (f.lots.length : Int) < (f.lots.length : Int) := by omega
                  have HC3 := hide (show C = if (failM (paperE f) f.papers 5).2 ≠ 0 then (4, failM (paperE f) f.papers 5) else if (failM (claimE f) f.claims 5).2 ≠ 0 then (5, failM (claimE f) f.claims 5) else (0, 0, 0) by rw [HC2.out, failM_none HL3.out HK.out, if_neg (by simp)])
                  clear HC2
                  by_cases hlo : (5 : Int) < f.papers.length
                  · have HX := hide (show C = (4, 0, 3) by rw [HC3.out, failM_long hlo]; rfl)
                    go_wp2_with fail
                    go_ret3
                    exact ⟨by rw [HCC.out, HX.out]; rfl, HB2.out.trans (HB.out.mono HB2.out.size)⟩
                  · have HL4 := hide (show (f.papers.length : Int) ≤ 5 by omega)
                    have HB3 := hide (HB2.out.trans (HB.out.mono HB2.out.size))
                    have HX_wc := hide HBR.out
                    go_wp2_with fail
                    obtain ⟨wc, rfl⟩ : ∃ wc : World, wc = wr := ⟨_, rfl⟩
                    go_loopw [10] (fun v wr => ∃ i : Nat, i ≤ f.papers.length ∧ v = .int .i64 i ∧ Hid (∀ k, k < i → paperE f k (nth f.papers k) = 0) ∧ Below wc.heap.size wc wr) (fun v _ => f.papers.length - (intOf v).toNat)
                    case atStart => exact ⟨0, Nat.zero_le _, rfl, hide (fun k hk => by omega), Below.refl _ _⟩
                    case round =>
                      clear HK hi0 hlt hi hnot
                      obtain ⟨i, hi, rfl, HK, hB⟩ := hrel
                      have hi0 : (0 : Int) ≤ (i : Int) := Int.natCast_nonneg _
                      have q := (HX_wc.out.next hB)
                      obtain ⟨hz, p0, p1, p2, p3, p4⟩ := q.cells
                      have hzr := hB.size
                      have HBR := hide q
                      have HB := hide hB
                      clear q hB
                      by_cases hlt : i < f.papers.length
                      · have hi1 : (i : Int) < (f.papers.length : Int) := by omega
                        obtain ⟨bl, ol, hA, hbl, y0, y1, y2⟩ := HBR.out.v.papers.papers hlt
                        have HFV := hide (show fileVal f fa = .agg #[.slice fa.A1 f.parties.length fa.c1, .slice fa.A2 f.untils.length fa.c2, .slice fa.A3 f.lots.length fa.c3, .slice (some ⟨bl, ol, none⟩) f.papers.length fa.c4, .slice fa.A5 f.claims.length fa.c5] by rw [← hA])
                        rw [hA] at p3
                        clear hA
                        have HDE := hide (show paperE f i (nth f.papers i) = paperE f 0 (nth f.papers i) from rfl)
                        cases hpe : (paperE f 0 (nth f.papers i) != 0) with
                        | true =>
                          have hne : paperE f 0 (nth f.papers i) ≠ 0 := by simpa using hpe
                          have HX := hide (show C = (4, (i : Int), paperE f 0 (nth f.papers i)) by rw [HC3.out, failM_hit (f := paperE f) HL4.out hlt HK.out HDE.out hne, if_pos hne])
                          go_wp2_with fail
                          refine wp_region_rel (dst := fun oi => [94, 95, 96, 97, 98, 99, 100, 11].getD oi 0) (mono := fun oi => decide (oi < 8)) (pre := fun oi => decide (oi < 8)) (R := LKeep (fun _ => False) (fun _ => True))
                            (Pv := fun oi v W => match oi with
                              | 0 => v = .agg #[.slice fa.A1 f.parties.length fa.c1, .slice fa.A2 f.untils.length fa.c2, .slice fa.A3 f.lots.length fa.c3, .slice (some ⟨bl, ol, none⟩) f.papers.length fa.c4, .slice fa.A5 f.claims.length fa.c5]
                              | 1 => v = .pointer (some ⟨w.heap.size, 3, none⟩)
                              | 2 => v = .slice (some ⟨bl, ol, none⟩) f.papers.length fa.c4
                              | 3 => v = .int .i64 (i : Nat)
                              | 4 => v = .pointer (some ⟨bl, ol + i * 3, none⟩)
                              | 5 => v = .agg #[.int .i64 (nth f.papers i).says, .int .i64 (nth f.papers i).lot, .int .i64 (nth f.papers i).of_]
                              | 6 => v = .int .i64 (paperE f 0 (nth f.papers i))
                              | 7 => v = .int .i64 (paperE f 0 (nth f.papers i))
                              | _ => True) (by kernel_rfl) (by kernel_rfl) (LKeep.refl _ _) (fun _ _ _ h h' => h.trans h') ?hstX ?hstepX ?hendX
                          case hstX =>
                            intro oi v W W' h hk
                            match oi, h with
                            | 0, h => exact h
                            | 1, h => exact h
                            | 2, h => exact h
                            | 3, h => exact h
                            | 4, h => exact h
                            | 5, h => exact h
                            | 6, h => exact h
                            | 7, h => exact h
                            | oi + 8, h => exact trivial
                          case hstepX =>
                            intro oi hoi hom listed vs ao W hU hk0 hpv haft Ko hK
                            have hkk := (LKeep.drew (fun _ => False) (M := fun _ => True) wr (fun h => h)).trans hk0
                            have hk := hkk.1
                            have hkm := hkk.2
                            clear hkk
                            match oi, hoi, hom with
                            | 0, hoi, hom =>
                              have z1 : ao.tmps[1]?.getD undef = .pointer (some ⟨w.heap.size, 0, none⟩) := hU.same 1 (by decide)
                              have y0 := (hk.cell (b := w.heap.size) (o := 0) (by omega) (fun h => h)).trans (p0)
                              have y1 := (hk.cell (b := w.heap.size) (o := 1) (by omega) (fun h => h)).trans (p1)
                              have y2 := (hk.cell (b := w.heap.size) (o := 2) (by omega) (fun h => h)).trans (p2)
                              have y3 := (hk.cell (b := w.heap.size) (o := 3) (by omega) (fun h => h)).trans (p3)
                              have y4 := (hk.cell (b := w.heap.size) (o := 4) (by omega) (fun h => h)).trans (p4)
                              refine wpOp_value (v := .agg #[.slice fa.A1 f.parties.length fa.c1, .slice fa.A2 f.untils.length fa.c2, .slice fa.A3 f.lots.length fa.c3, .slice (some ⟨bl, ol, none⟩) f.papers.length fa.c4, .slice fa.A5 f.claims.length fa.c5]) (W' := W) rfl rfl ?_ (hK _ _ (LKeep.refl _ _ _) rfl)
                              go_simp
                            | 1, hoi, hom =>
                              have z1 : ao.tmps[1]?.getD undef = .pointer (some ⟨w.heap.size, 0, none⟩) := hU.same 1 (by decide)
                              refine wpOp_value (v := .pointer (some ⟨w.heap.size, 3, none⟩)) (W' := W) rfl rfl ?_ (hK _ _ (LKeep.refl _ _ _) rfl)
                              go_simp
                            | 2, hoi, hom =>
                              have l1 := haft _ rfl { on := 1, ground := .data } (by simp) rfl
                              have hv1 : vs 1 = .pointer (some ⟨w.heap.size, 3, none⟩) := hpv 1 l1
                              have s1 : ao.tmps[95]?.getD undef = vs 1 := hU.slot 1 (by decide) l1
                              rw [hv1] at s1
                              have y0 := (hk.cell (b := w.heap.size) (o := 3) (by omega) (fun h => h)).trans (p3)
                              refine wpOp_value (v := .slice (some ⟨bl, ol, none⟩) f.papers.length fa.c4) (W' := W) rfl rfl ?_ (hK _ _ (LKeep.refl _ _ _) rfl)
                              go_simp
                            | 3, hoi, hom =>
                              have z10 : ao.tmps[10]?.getD undef = .int .i64 (i : Nat) := hU.same 10 (by decide)
                              refine wpOp_value (v := .int .i64 (i : Nat)) (W' := W) rfl rfl ?_ (hK _ _ (LKeep.refl _ _ _) rfl)
                              go_simp
                            | 4, hoi, hom =>
                              have l2 := haft _ rfl { on := 2, ground := .data } (by simp) rfl
                              have hv2 : vs 2 = .slice (some ⟨bl, ol, none⟩) f.papers.length fa.c4 := hpv 2 l2
                              have s2 : ao.tmps[96]?.getD undef = vs 2 := hU.slot 2 (by decide) l2
                              rw [hv2] at s2
                              have l3 := haft _ rfl { on := 3, ground := .data } (by simp) rfl
                              have hv3 : vs 3 = .int .i64 (i : Nat) := hpv 3 l3
                              have s3 : ao.tmps[97]?.getD undef = vs 3 := hU.slot 3 (by decide) l3
                              rw [hv3] at s3
                              refine wpOp_value (v := .pointer (some ⟨bl, ol + i * 3, none⟩)) (W' := W) rfl rfl ?_ (hK _ _ (LKeep.refl _ _ _) rfl)
                              go_simp
                            | 5, hoi, hom =>
                              have l4 := haft _ rfl { on := 4, ground := .data } (by simp) rfl
                              have hv4 : vs 4 = .pointer (some ⟨bl, ol + i * 3, none⟩) := hpv 4 l4
                              have s4 : ao.tmps[98]?.getD undef = vs 4 := hU.slot 4 (by decide) l4
                              rw [hv4] at s4
                              have y0 := (hk.cell (b := bl) (o := ol + i * 3) (by omega) (fun h => h)).trans (y0)
                              have y1 := (hk.cell (b := bl) (o := ol + i * 3 + 1) (by omega) (fun h => h)).trans (y1)
                              have y2 := (hk.cell (b := bl) (o := ol + i * 3 + 2) (by omega) (fun h => h)).trans (y2)
                              refine wpOp_value (v := .agg #[.int .i64 (nth f.papers i).says, .int .i64 (nth f.papers i).lot, .int .i64 (nth f.papers i).of_]) (W' := W) rfl rfl ?_ (hK _ _ (LKeep.refl _ _ _) rfl)
                              go_simp
                            | 6, hoi, hom =>
                              have l0 := haft _ rfl { on := 0, ground := .data } (by simp) rfl
                              have hv0 : vs 0 = .agg #[.slice fa.A1 f.parties.length fa.c1, .slice fa.A2 f.untils.length fa.c2, .slice fa.A3 f.lots.length fa.c3, .slice (some ⟨bl, ol, none⟩) f.papers.length fa.c4, .slice fa.A5 f.claims.length fa.c5] := hpv 0 l0
                              have s0 : ao.tmps[94]?.getD undef = vs 0 := hU.slot 0 (by decide) l0
                              rw [hv0] at s0
                              have l5 := haft _ rfl { on := 5, ground := .data } (by simp) rfl
                              have hv5 : vs 5 = .agg #[.int .i64 (nth f.papers i).says, .int .i64 (nth f.papers i).lot, .int .i64 (nth f.papers i).of_] := hpv 5 l5
                              have s5 : ao.tmps[99]?.getD undef = vs 5 := hU.slot 5 (by decide) l5
                              rw [hv5] at s5
                              have hbq := hk.below (B := wr.heap.size) (fun k h => h.elim) (Nat.le_refl _)
                              have hFW := HBR.out.v.next hbq
                              have hcall := paper7_any hFW (nth f.papers i)
                              rw [HFV.out] at hcall
                              refine wpOp_enter (f := 47) (args := #[.agg #[.slice fa.A1 f.parties.length fa.c1, .slice fa.A2 f.untils.length fa.c2, .slice fa.A3 f.lots.length fa.c3, .slice (some ⟨bl, ol, none⟩) f.papers.length fa.c4, .slice fa.A5 f.claims.length fa.c5], .agg #[.int .i64 (nth f.papers i).says, .int .i64 (nth f.papers i).lot, .int .i64 (nth f.papers i).of_]]) (W' := W) rfl rfl ?_ ((hcall).mono (fun e w'' h => ?_))
                              · go_simp
                              · obtain ⟨he, hbw⟩ := h
                                exact ⟨_, he, hK _ _ (LKeep.below hbw (fun h => h)) rfl⟩
                            | 7, hoi, hom =>
                              have l6 := haft _ rfl { on := 6, ground := .data } (by simp) rfl
                              have hv6 : vs 6 = .int .i64 (paperE f 0 (nth f.papers i)) := hpv 6 l6
                              have s6 : ao.tmps[100]?.getD undef = vs 6 := hU.slot 6 (by decide) l6
                              rw [hv6] at s6
                              refine wpOp_value (v := .int .i64 (paperE f 0 (nth f.papers i))) (W' := W) rfl rfl ?_ (hK _ _ (LKeep.refl _ _ _) rfl)
                              go_simp
                            | oi + 8, hoi, hom => exact absurd (of_decide_eq_true hom) (by omega)
                          case hendX =>
                            intro listed vs ao W hG hk0 hpv hpre
                            have hkk := (LKeep.drew (fun _ => False) (M := fun _ => True) wr (fun h => h)).trans hk0
                            have hk := hkk.1
                            have hkm := hkk.2
                            clear hkk
                            have hact := hG.act
                            have hT := hG.lst hpre 0 #[true, true, true, true, true, true, true, true] rfl (by kernel_rfl) (hpre 0 (by decide) (by decide))
                            rw [hG.ix hT (l := [0, 1, 2, 3, 4, 5, 6, 7]) (by kernel_rfl)] at hact
                            rw [hG.lo hT (k := 0) (by kernel_rfl)]
                            have hv0 : vs 0 = .agg #[.slice fa.A1 f.parties.length fa.c1, .slice fa.A2 f.untils.length fa.c2, .slice fa.A3 f.lots.length fa.c3, .slice (some ⟨bl, ol, none⟩) f.papers.length fa.c4, .slice fa.A5 f.claims.length fa.c5] := hpv 0 (hpre 0 (by decide) (by decide))
                            have hv1 : vs 1 = .pointer (some ⟨w.heap.size, 3, none⟩) := hpv 1 (hpre 1 (by decide) (by decide))
                            have hv2 : vs 2 = .slice (some ⟨bl, ol, none⟩) f.papers.length fa.c4 := hpv 2 (hpre 2 (by decide) (by decide))
                            have hv3 : vs 3 = .int .i64 (i : Nat) := hpv 3 (hpre 3 (by decide) (by decide))
                            have hv4 : vs 4 = .pointer (some ⟨bl, ol + i * 3, none⟩) := hpv 4 (hpre 4 (by decide) (by decide))
                            have hv5 : vs 5 = .agg #[.int .i64 (nth f.papers i).says, .int .i64 (nth f.papers i).lot, .int .i64 (nth f.papers i).of_] := hpv 5 (hpre 5 (by decide) (by decide))
                            have hv6 : vs 6 = .int .i64 (paperE f 0 (nth f.papers i)) := hpv 6 (hpre 6 (by decide) (by decide))
                            have hv7 : vs 7 = .int .i64 (paperE f 0 (nth f.papers i)) := hpv 7 (hpre 7 (by decide) (by decide))
                            clear hpv hpre hG hk0
                            obtain rfl : ao = _ := hact
                            subst hT
                            simp only [setAll, List.setIfInBounds_toArray, List.set_cons_succ, List.set_cons_zero, List.getD_cons_succ, List.getD_cons_zero]
                            simp only [hv0, hv1, hv2, hv3, hv4, hv5, hv6, hv7]
                            clear hv0 hv1 hv2 hv3 hv4 hv5 hv6 hv7
                            refine wpAny_done (by kernel_rfl) ?_ _
                            have hbz := hk.below (B := wr.heap.size) (fun k h => h.elim) (Nat.le_refl _)
                            have HBZ := hide (HB.out.trans (hbz.mono HB.out.size))
                            clear hk hkm hbz y0 y1 y2 p0 p1 p2 p3 p4
                            go_wp2_with fail
                            go_ret3
                            exact ⟨by rw [HCC.out, HX.out]; rfl, HB3.out.trans (HBZ.out.mono HB3.out.size)⟩
                        | false =>
                          have HNE := hide (HDE.out.trans (by simpa using hpe))
                          go_wp2_with fail
                          refine wp_region_rel (dst := fun oi => [94, 95, 96, 97, 98, 99, 100, 11].getD oi 0) (mono := fun oi => decide (oi < 8)) (pre := fun oi => decide (oi < 8)) (R := LKeep (fun _ => False) (fun _ => True))
                            (Pv := fun oi v W => match oi with
                              | 0 => v = .agg #[.slice fa.A1 f.parties.length fa.c1, .slice fa.A2 f.untils.length fa.c2, .slice fa.A3 f.lots.length fa.c3, .slice (some ⟨bl, ol, none⟩) f.papers.length fa.c4, .slice fa.A5 f.claims.length fa.c5]
                              | 1 => v = .pointer (some ⟨w.heap.size, 3, none⟩)
                              | 2 => v = .slice (some ⟨bl, ol, none⟩) f.papers.length fa.c4
                              | 3 => v = .int .i64 (i : Nat)
                              | 4 => v = .pointer (some ⟨bl, ol + i * 3, none⟩)
                              | 5 => v = .agg #[.int .i64 (nth f.papers i).says, .int .i64 (nth f.papers i).lot, .int .i64 (nth f.papers i).of_]
                              | 6 => v = .int .i64 (paperE f 0 (nth f.papers i))
                              | 7 => v = .int .i64 (paperE f 0 (nth f.papers i))
                              | _ => True) (by kernel_rfl) (by kernel_rfl) (LKeep.refl _ _) (fun _ _ _ h h' => h.trans h') ?hstX ?hstepX ?hendX
                          case hstX =>
                            intro oi v W W' h hk
                            match oi, h with
                            | 0, h => exact h
                            | 1, h => exact h
                            | 2, h => exact h
                            | 3, h => exact h
                            | 4, h => exact h
                            | 5, h => exact h
                            | 6, h => exact h
                            | 7, h => exact h
                            | oi + 8, h => exact trivial
                          case hstepX =>
                            intro oi hoi hom listed vs ao W hU hk0 hpv haft Ko hK
                            have hkk := (LKeep.drew (fun _ => False) (M := fun _ => True) wr (fun h => h)).trans hk0
                            have hk := hkk.1
                            have hkm := hkk.2
                            clear hkk
                            match oi, hoi, hom with
                            | 0, hoi, hom =>
                              have z1 : ao.tmps[1]?.getD undef = .pointer (some ⟨w.heap.size, 0, none⟩) := hU.same 1 (by decide)
                              have y0 := (hk.cell (b := w.heap.size) (o := 0) (by omega) (fun h => h)).trans (p0)
                              have y1 := (hk.cell (b := w.heap.size) (o := 1) (by omega) (fun h => h)).trans (p1)
                              have y2 := (hk.cell (b := w.heap.size) (o := 2) (by omega) (fun h => h)).trans (p2)
                              have y3 := (hk.cell (b := w.heap.size) (o := 3) (by omega) (fun h => h)).trans (p3)
                              have y4 := (hk.cell (b := w.heap.size) (o := 4) (by omega) (fun h => h)).trans (p4)
                              refine wpOp_value (v := .agg #[.slice fa.A1 f.parties.length fa.c1, .slice fa.A2 f.untils.length fa.c2, .slice fa.A3 f.lots.length fa.c3, .slice (some ⟨bl, ol, none⟩) f.papers.length fa.c4, .slice fa.A5 f.claims.length fa.c5]) (W' := W) rfl rfl ?_ (hK _ _ (LKeep.refl _ _ _) rfl)
                              go_simp
                            | 1, hoi, hom =>
                              have z1 : ao.tmps[1]?.getD undef = .pointer (some ⟨w.heap.size, 0, none⟩) := hU.same 1 (by decide)
                              refine wpOp_value (v := .pointer (some ⟨w.heap.size, 3, none⟩)) (W' := W) rfl rfl ?_ (hK _ _ (LKeep.refl _ _ _) rfl)
                              go_simp
                            | 2, hoi, hom =>
                              have l1 := haft _ rfl { on := 1, ground := .data } (by simp) rfl
                              have hv1 : vs 1 = .pointer (some ⟨w.heap.size, 3, none⟩) := hpv 1 l1
                              have s1 : ao.tmps[95]?.getD undef = vs 1 := hU.slot 1 (by decide) l1
                              rw [hv1] at s1
                              have y0 := (hk.cell (b := w.heap.size) (o := 3) (by omega) (fun h => h)).trans (p3)
                              refine wpOp_value (v := .slice (some ⟨bl, ol, none⟩) f.papers.length fa.c4) (W' := W) rfl rfl ?_ (hK _ _ (LKeep.refl _ _ _) rfl)
                              go_simp
                            | 3, hoi, hom =>
                              have z10 : ao.tmps[10]?.getD undef = .int .i64 (i : Nat) := hU.same 10 (by decide)
                              refine wpOp_value (v := .int .i64 (i : Nat)) (W' := W) rfl rfl ?_ (hK _ _ (LKeep.refl _ _ _) rfl)
                              go_simp
                            | 4, hoi, hom =>
                              have l2 := haft _ rfl { on := 2, ground := .data } (by simp) rfl
                              have hv2 : vs 2 = .slice (some ⟨bl, ol, none⟩) f.papers.length fa.c4 := hpv 2 l2
                              have s2 : ao.tmps[96]?.getD undef = vs 2 := hU.slot 2 (by decide) l2
                              rw [hv2] at s2
                              have l3 := haft _ rfl { on := 3, ground := .data } (by simp) rfl
                              have hv3 : vs 3 = .int .i64 (i : Nat) := hpv 3 l3
                              have s3 : ao.tmps[97]?.getD undef = vs 3 := hU.slot 3 (by decide) l3
                              rw [hv3] at s3
                              refine wpOp_value (v := .pointer (some ⟨bl, ol + i * 3, none⟩)) (W' := W) rfl rfl ?_ (hK _ _ (LKeep.refl _ _ _) rfl)
                              go_simp
                            | 5, hoi, hom =>
                              have l4 := haft _ rfl { on := 4, ground := .data } (by simp) rfl
                              have hv4 : vs 4 = .pointer (some ⟨bl, ol + i * 3, none⟩) := hpv 4 l4
                              have s4 : ao.tmps[98]?.getD undef = vs 4 := hU.slot 4 (by decide) l4
                              rw [hv4] at s4
                              have y0 := (hk.cell (b := bl) (o := ol + i * 3) (by omega) (fun h => h)).trans (y0)
                              have y1 := (hk.cell (b := bl) (o := ol + i * 3 + 1) (by omega) (fun h => h)).trans (y1)
                              have y2 := (hk.cell (b := bl) (o := ol + i * 3 + 2) (by omega) (fun h => h)).trans (y2)
                              refine wpOp_value (v := .agg #[.int .i64 (nth f.papers i).says, .int .i64 (nth f.papers i).lot, .int .i64 (nth f.papers i).of_]) (W' := W) rfl rfl ?_ (hK _ _ (LKeep.refl _ _ _) rfl)
                              go_simp
                            | 6, hoi, hom =>
                              have l0 := haft _ rfl { on := 0, ground := .data } (by simp) rfl
                              have hv0 : vs 0 = .agg #[.slice fa.A1 f.parties.length fa.c1, .slice fa.A2 f.untils.length fa.c2, .slice fa.A3 f.lots.length fa.c3, .slice (some ⟨bl, ol, none⟩) f.papers.length fa.c4, .slice fa.A5 f.claims.length fa.c5] := hpv 0 l0
                              have s0 : ao.tmps[94]?.getD undef = vs 0 := hU.slot 0 (by decide) l0
                              rw [hv0] at s0
                              have l5 := haft _ rfl { on := 5, ground := .data } (by simp) rfl
                              have hv5 : vs 5 = .agg #[.int .i64 (nth f.papers i).says, .int .i64 (nth f.papers i).lot, .int .i64 (nth f.papers i).of_] := hpv 5 l5
                              have s5 : ao.tmps[99]?.getD undef = vs 5 := hU.slot 5 (by decide) l5
                              rw [hv5] at s5
                              have hbq := hk.below (B := wr.heap.size) (fun k h => h.elim) (Nat.le_refl _)
                              have hFW := HBR.out.v.next hbq
                              have hcall := paper7_any hFW (nth f.papers i)
                              rw [HFV.out] at hcall
                              refine wpOp_enter (f := 47) (args := #[.agg #[.slice fa.A1 f.parties.length fa.c1, .slice fa.A2 f.untils.length fa.c2, .slice fa.A3 f.lots.length fa.c3, .slice (some ⟨bl, ol, none⟩) f.papers.length fa.c4, .slice fa.A5 f.claims.length fa.c5], .agg #[.int .i64 (nth f.papers i).says, .int .i64 (nth f.papers i).lot, .int .i64 (nth f.papers i).of_]]) (W' := W) rfl rfl ?_ ((hcall).mono (fun e w'' h => ?_))
                              · go_simp
                              · obtain ⟨he, hbw⟩ := h
                                exact ⟨_, he, hK _ _ (LKeep.below hbw (fun h => h)) rfl⟩
                            | 7, hoi, hom =>
                              have l6 := haft _ rfl { on := 6, ground := .data } (by simp) rfl
                              have hv6 : vs 6 = .int .i64 (paperE f 0 (nth f.papers i)) := hpv 6 l6
                              have s6 : ao.tmps[100]?.getD undef = vs 6 := hU.slot 6 (by decide) l6
                              rw [hv6] at s6
                              refine wpOp_value (v := .int .i64 (paperE f 0 (nth f.papers i))) (W' := W) rfl rfl ?_ (hK _ _ (LKeep.refl _ _ _) rfl)
                              go_simp
                            | oi + 8, hoi, hom => exact absurd (of_decide_eq_true hom) (by omega)
                          case hendX =>
                            intro listed vs ao W hG hk0 hpv hpre
                            have hkk := (LKeep.drew (fun _ => False) (M := fun _ => True) wr (fun h => h)).trans hk0
                            have hk := hkk.1
                            have hkm := hkk.2
                            clear hkk
                            have hact := hG.act
                            have hT := hG.lst hpre 0 #[true, true, true, true, true, true, true, true] rfl (by kernel_rfl) (hpre 0 (by decide) (by decide))
                            rw [hG.ix hT (l := [0, 1, 2, 3, 4, 5, 6, 7]) (by kernel_rfl)] at hact
                            rw [hG.lo hT (k := 0) (by kernel_rfl)]
                            have hv0 : vs 0 = .agg #[.slice fa.A1 f.parties.length fa.c1, .slice fa.A2 f.untils.length fa.c2, .slice fa.A3 f.lots.length fa.c3, .slice (some ⟨bl, ol, none⟩) f.papers.length fa.c4, .slice fa.A5 f.claims.length fa.c5] := hpv 0 (hpre 0 (by decide) (by decide))
                            have hv1 : vs 1 = .pointer (some ⟨w.heap.size, 3, none⟩) := hpv 1 (hpre 1 (by decide) (by decide))
                            have hv2 : vs 2 = .slice (some ⟨bl, ol, none⟩) f.papers.length fa.c4 := hpv 2 (hpre 2 (by decide) (by decide))
                            have hv3 : vs 3 = .int .i64 (i : Nat) := hpv 3 (hpre 3 (by decide) (by decide))
                            have hv4 : vs 4 = .pointer (some ⟨bl, ol + i * 3, none⟩) := hpv 4 (hpre 4 (by decide) (by decide))
                            have hv5 : vs 5 = .agg #[.int .i64 (nth f.papers i).says, .int .i64 (nth f.papers i).lot, .int .i64 (nth f.papers i).of_] := hpv 5 (hpre 5 (by decide) (by decide))
                            have hv6 : vs 6 = .int .i64 (paperE f 0 (nth f.papers i)) := hpv 6 (hpre 6 (by decide) (by decide))
                            have hv7 : vs 7 = .int .i64 (paperE f 0 (nth f.papers i)) := hpv 7 (hpre 7 (by decide) (by decide))
                            clear hpv hpre hG hk0
                            obtain rfl : ao = _ := hact
                            subst hT
                            simp only [setAll, List.setIfInBounds_toArray, List.set_cons_succ, List.set_cons_zero, List.getD_cons_succ, List.getD_cons_zero]
                            simp only [hv0, hv1, hv2, hv3, hv4, hv5, hv6, hv7]
                            clear hv0 hv1 hv2 hv3 hv4 hv5 hv6 hv7
                            refine wpAny_done (by kernel_rfl) ?_ _
                            have hbz := hk.below (B := wr.heap.size) (fun k h => h.elim) (Nat.le_refl _)
                            have HBZ := hide (HB.out.trans (hbz.mono HB.out.size))
                            clear hk hkm hbz y0 y1 y2 p0 p1 p2 p3 p4
                            go_wp2_with fail
                            go_roundw
                            case rel => exact ⟨i + 1, by omega, by go_num, hide (fun k hk => by
                              rcases Nat.lt_or_ge k i with h1 | h1
                              · exact HK.out k h1
                              · rw [show k = i by omega]; exact HNE.out), HBZ.out⟩
                            case measure => simp [intOf]; omega
                      · obtain rfl : i = f.papers.length := by omega
                        have hnot : ¬ (f.papers.length : Int) < (f.papers.length : Int) := by omega
                        have HC4 := hide (show C = if (failM (claimE f) f.claims 5).2 ≠ 0 then (5, failM (claimE f) f.claims 5) else (0, 0, 0) by rw [HC3.out, failM_none HL4.out HK.out, if_neg (by simp)])
                        clear HC3
                        by_cases hlo : (5 : Int) < f.claims.length
                        · have HX := hide (show C = (5, 0, 3) by rw [HC4.out, failM_long hlo]; rfl)
                          go_wp2_with fail
                          go_ret3
                          exact ⟨by rw [HCC.out, HX.out]; rfl, HB3.out.trans (HB.out.mono HB3.out.size)⟩
                        · have HL5 := hide (show (f.claims.length : Int) ≤ 5 by omega)
                          have HB4 := hide (HB3.out.trans (HB.out.mono HB3.out.size))
                          have HX_wd := hide HBR.out
                          go_wp2_with fail
                          obtain ⟨wd, rfl⟩ : ∃ wd : World, wd = wr := ⟨_, rfl⟩
                          go_loopw [12] (fun v wr => ∃ i : Nat, i ≤ f.claims.length ∧ v = .int .i64 i ∧ Hid (∀ k, k < i → claimE f k (nth f.claims k) = 0) ∧ Below wd.heap.size wd wr) (fun v _ => f.claims.length - (intOf v).toNat)
                          case atStart => exact ⟨0, Nat.zero_le _, rfl, hide (fun k hk => by omega), Below.refl _ _⟩
                          case round =>
                            clear HK hi0 hlt hi hnot
                            obtain ⟨i, hi, rfl, HK, hB⟩ := hrel
                            have hi0 : (0 : Int) ≤ (i : Int) := Int.natCast_nonneg _
                            have q := (HX_wd.out.next hB)
                            obtain ⟨hz, p0, p1, p2, p3, p4⟩ := q.cells
                            have hzr := hB.size
                            have HBR := hide q
                            have HB := hide hB
                            clear q hB
                            by_cases hlt : i < f.claims.length
                            · have hi1 : (i : Int) < (f.claims.length : Int) := by omega
                              obtain ⟨bl, ol, hA, hbl, y0, y1, y2⟩ := HBR.out.v.claims.claims hlt
                              rw [hA] at p4
                              clear hA
                              have hw1 : IntKind.i64.wrap ((f.lots.length : Int) - 1) = (f.lots.length : Int) - 1 := IntWalk.i64_in _ (by omega)
                              have hw2 : IntKind.i64.wrap ((f.parties.length : Int) - 1) = (f.parties.length : Int) - 1 := IntWalk.i64_in _ (by omega)
                              have HBZ : Hid (Below wd.heap.size wd (wr.alloc (.cells #[.int .i64 (nth f.claims i).lot, .int .i64 (nth f.claims i).against, .int .i64 (nth f.claims i).day] 52))) := hide (HB.out.alloc hzr _)
                              have hi1' : True := trivial
                              have hi2' : True := trivial
                              have hi3' : True := trivial
                              have HDE := hide (show claimE f i (nth f.claims i) = if offP 0 ((f.lots.length : Int) - 1) (nth f.claims i).lot || offP 0 ((f.parties.length : Int) - 1) (nth f.claims i).against then 4 else if offP 0 60 (nth f.claims i).day then 7 else 0 from rfl)
                              cases h1 : offP 0 ((f.lots.length : Int) - 1) (nth f.claims i).lot with
                              | true =>
                                have hi1' : inB (nth f.claims i).lot 0 ((f.lots.length : Int) - 1) = false := by rw [inB_off, h1]; rfl
                                have HX := hide (show C = (5, (i : Int), 4) by rw [HC4.out, failM_hit (f := claimE f) HL5.out hlt HK.out (e := 4) (by rw [HDE.out, h1]; rfl) (by decide)]; rfl)
                                clear h1
                                go_wp2_with (go_at_call 45; refine (in_any _ _ _ _).mono ?_; rintro e w' ⟨rfl, rfl⟩; first | rw [hi1'] | rw [hi2'] | rw [hi3'])
                                go_ret3
                                exact ⟨by rw [HCC.out, HX.out]; rfl, HB4.out.trans (HBZ.out.mono HB4.out.size)⟩
                              | false =>
                                have hi1' : inB (nth f.claims i).lot 0 ((f.lots.length : Int) - 1) = true := by rw [inB_off, h1]; rfl
                                cases h2 : offP 0 ((f.parties.length : Int) - 1) (nth f.claims i).against with
                                | true =>
                                  have hi2' : inB (nth f.claims i).against 0 ((f.parties.length : Int) - 1) = false := by rw [inB_off, h2]; rfl
                                  have HX := hide (show C = (5, (i : Int), 4) by rw [HC4.out, failM_hit (f := claimE f) HL5.out hlt HK.out (e := 4) (by rw [HDE.out, h1, h2]; rfl) (by decide)]; rfl)
                                  clear h1 h2
                                  go_wp2_with (go_at_call 45; refine (in_any _ _ _ _).mono ?_; rintro e w' ⟨rfl, rfl⟩; first | rw [hi1'] | rw [hi2'] | rw [hi3'])
                                  go_ret3
                                  exact ⟨by rw [HCC.out, HX.out]; rfl, HB4.out.trans (HBZ.out.mono HB4.out.size)⟩
                                | false =>
                                  have hi2' : inB (nth f.claims i).against 0 ((f.parties.length : Int) - 1) = true := by rw [inB_off, h2]; rfl
                                  cases h3 : offP 0 60 (nth f.claims i).day with
                                  | true =>
                                    have hi3' : inB (nth f.claims i).day 0 60 = false := by rw [inB_off, h3]; rfl
                                    have HX := hide (show C = (5, (i : Int), 7) by rw [HC4.out, failM_hit (f := claimE f) HL5.out hlt HK.out (e := 7) (by rw [HDE.out, h1, h2, h3]; rfl) (by decide)]; rfl)
                                    clear h1 h2 h3
                                    go_wp2_with (go_at_call 45; refine (in_any _ _ _ _).mono ?_; rintro e w' ⟨rfl, rfl⟩; first | rw [hi1'] | rw [hi2'] | rw [hi3'])
                                    go_ret3
                                    exact ⟨by rw [HCC.out, HX.out]; rfl, HB4.out.trans (HBZ.out.mono HB4.out.size)⟩
                                  | false =>
                                    have hi3' : inB (nth f.claims i).day 0 60 = true := by rw [inB_off, h3]; rfl
                                    have HNE := hide (show claimE f i (nth f.claims i) = 0 by rw [HDE.out, h1, h2, h3]; rfl)
                                    clear h1 h2 h3
                                    go_wp2_with (go_at_call 45; refine (in_any _ _ _ _).mono ?_; rintro e w' ⟨rfl, rfl⟩; first | rw [hi1'] | rw [hi2'] | rw [hi3'])
                                    go_roundw
                                    case rel => exact ⟨i + 1, by omega, by go_num, hide (fun k hk => by
                                      rcases Nat.lt_or_ge k i with h1 | h1
                                      · exact HK.out k h1
                                      · rw [show k = i by omega]; exact HNE.out), HBZ.out⟩
                                    case measure => simp [intOf]; omega
                            · obtain rfl : i = f.claims.length := by omega
                              have hnot : ¬ (f.claims.length : Int) < (f.claims.length : Int) := by omega
                              have HX := hide (show C = (0, 0, 0) by rw [HC4.out, failM_none HL5.out HK.out, if_neg (by simp)])
                              go_wp2_with fail
                              go_ret3
                              exact ⟨by rw [HCC.out, HX.out]; rfl, HB4.out.trans (HB.out.mono HB4.out.size)⟩
      · have hub : ((f.untils.length : Int) != (f.parties.length : Int)) = true := by simp; omega
        have HX := hide (show C = (2, 0, 3) by rw [HC1.out, if_pos hul])
        go_wp2_with fail
        go_ret3
        exact ⟨by rw [HCC.out, HX.out]; rfl, HB0.out.trans (HB.out.mono HB0.out.size)⟩
end Go.Proofs.Ytllmahcanipcpaa
