/- The law TurnAlone: for any cargo and lots the statement's function returns true. -/
import Derived.Test.YtbkknliggnhpcaaRefV
import Derived.Test.YtbkknliggnhpcaaRefW
import Derived.Test.YtbkknliggnhpcaaQp
import Derived.Test.YtbkknliggnhpcaaBlk
set_option linter.unusedVariables false
set_option linter.unusedSimpArgs false
namespace Go.Proofs.Ytbkknliggnhpcaa
open Go.RowKit
attribute [local go_sem ↓] Go.wp_at_zero Go.wp_at_succ

set_option maxHeartbeats 2000000 in
set_option maxRecDepth 100000 in
theorem alone_bad {A1 A2 A3 A4 : Option Addr} {c1 c2 c3 c4 : Nat} {c : Cargo} {w : World} (h : CargoV w w.heap.size c A1 A2 A3 A4 c1 c2 c3 c4) (xa xb : Int) (hc : someL c = false ∨ c.lots.length < 2) :
    Calls Try.prog 14 #[cargoVal c A1 A2 A3 A4 c1 c2 c3 c4, .agg #[.int .u8 xa, .int .u8 xb]] w fun e w' => e = .returned (.bool true) ∧ Below w.heap.size w w' := by
  have hA1 : Below w.heap.size w (w.alloc (.cells #[.slice A1 c.heat.length c1, .int .i64 c.gas, .slice A2 c.holds.length c2, .slice A3 c.lots.length c3, .slice A4 c.seen.length c4] 27)) := (Below.refl _ _).alloc (Nat.le_refl _) _
  have hA2 : Below (w.alloc (.cells #[.slice A1 c.heat.length c1, .int .i64 c.gas, .slice A2 c.holds.length c2, .slice A3 c.lots.length c3, .slice A4 c.seen.length c4] 27)).heap.size (w.alloc (.cells #[.slice A1 c.heat.length c1, .int .i64 c.gas, .slice A2 c.holds.length c2, .slice A3 c.lots.length c3, .slice A4 c.seen.length c4] 27)) ((w.alloc (.cells #[.slice A1 c.heat.length c1, .int .i64 c.gas, .slice A2 c.holds.length c2, .slice A3 c.lots.length c3, .slice A4 c.seen.length c4] 27)).alloc (.cells #[.int .u8 xa, .int .u8 xb] 82)) := (Below.refl _ _).alloc (Nat.le_refl _) _
  have HK := hide ((BoxC.made h).next hA2)
  have HB := hide (hA1.trans (hA2.mono hA1.size))
  have bx : Blk ((w.alloc (.cells #[.slice A1 c.heat.length c1, .int .i64 c.gas, .slice A2 c.holds.length c2, .slice A3 c.lots.length c3, .slice A4 c.seen.length c4] 27)).alloc (.cells #[.int .u8 xa, .int .u8 xb] 82)) (w.heap.size + 1) 82 #[.int .u8 xa, .int .u8 xb] := Blk.made' (by simp)
  have HXB := hide bx
  clear hA1 hA2 bx
  have HSP := hide (fun (w : World) A1 A2 A3 A4 c1 c2 c3 c4 (h : CargoV w w.heap.size c A1 A2 A3 A4 c1 c2 c3 c4) => (show Calls Try.prog 26 #[cargoVal c A1 A2 A3 A4 c1 c2 c3 c4, .int .i64 0, .int .i64 1] w fun e w' => e = .returned (.tuple #[.int .i64 (spoilsR c 0 1).1, .int .i64 (spoilsR c 0 1).2]) ∧ Below w.heap.size w w' from spoilsW_any h 0 1))
  have hne : ((spoilsR c 0 1).2 != 0) = true := by simpa using spoils_err hc
  generalize (spoilsR c 0 1).1 = how at *
  generalize (spoilsR c 0 1).2 = er at *
  clear h
  cases hs : someL c with
  | false =>
    have HS := hide hs
    clear hs hc
    go_enter Try.func14, Try.ntmps14
    go_upto_region 1 with (fail)
    generalize ((w.alloc (.cells #[.slice A1 c.heat.length c1, .int .i64 c.gas, .slice A2 c.holds.length c2, .slice A3 c.lots.length c3, .slice A4 c.seen.length c4] 27)).alloc (.cells #[.int .u8 xa, .int .u8 xb] 82)) = v0 at *
    obtain ⟨hv, z, x0, x1, x2, x3, x4⟩ := HK.out
    have HV := hide hv
    clear hv
    go_wp2_with (first | (go_at_call 51; refine (someL_any HV.out).mono ?_; rintro e v3 ⟨rfl, hb⟩; rw [HS.out]; have HB := hide (HB.out.trans (hb.mono HB.out.size)); have HK := hide (HK.out.next hb); have HXB := hide (HXB.out.next hb); clear hb z x0 x1 x2 x3 x4 HV; obtain ⟨hv, z, x0, x1, x2, x3, x4⟩ := HK.out; have HV := hide hv; clear hv) | (go_at_call 26; refine (HSP.out _ _ _ _ _ _ _ _ _ HV.out).mono ?_; rintro e v4 ⟨rfl, hb⟩; have HB := hide (HB.out.trans (hb.mono HB.out.size)); clear hb) | (go_at_call 23; refine (awake_any _).mono ?_; rintro e v10 ⟨rfl, hb⟩))
    go_ret
    exact ⟨rfl, HB.out.trans (hb.mono HB.out.size)⟩
  | true =>
    have HS := hide hs
    have hl2 : (c.lots.length : Int) < 2 := by rcases hc with h | h; rw [hs] at h; cases h; omega
    have hl3 : decide ((c.lots.length : Int) < 2) = true := by simpa using hl2
    clear hs hc
    go_enter Try.func14, Try.ntmps14
    go_upto_region 1 with (fail)
    generalize ((w.alloc (.cells #[.slice A1 c.heat.length c1, .int .i64 c.gas, .slice A2 c.holds.length c2, .slice A3 c.lots.length c3, .slice A4 c.seen.length c4] 27)).alloc (.cells #[.int .u8 xa, .int .u8 xb] 82)) = v0 at *
    obtain ⟨hv, z, x0, x1, x2, x3, x4⟩ := HK.out
    have HV := hide hv
    clear hv
    go_wp2_with (first | (go_at_call 51; refine (someL_any HV.out).mono ?_; rintro e v3 ⟨rfl, hb⟩; rw [HS.out]; have HB := hide (HB.out.trans (hb.mono HB.out.size)); have HK := hide (HK.out.next hb); have HXB := hide (HXB.out.next hb); clear hb z x0 x1 x2 x3 x4 HV; obtain ⟨hv, z, x0, x1, x2, x3, x4⟩ := HK.out; have HV := hide hv; clear hv) | (go_at_call 26; refine (HSP.out _ _ _ _ _ _ _ _ _ HV.out).mono ?_; rintro e v4 ⟨rfl, hb⟩; have HB := hide (HB.out.trans (hb.mono HB.out.size)); clear hb) | (go_at_call 23; refine (awake_any _).mono ?_; rintro e v10 ⟨rfl, hb⟩))
    go_ret
    exact ⟨rfl, HB.out.trans (hb.mono HB.out.size)⟩

theorem less_row (l : List Lot) {k : Nat} (h : k < l.length) : (List.range (k * 4)).map (lotsF l) ++ (List.range ((l.length - (k + 1)) * 4)).map (fun j => lotsF l ((k + 1) * 4 + j)) = (List.range ((k + (l.length - (k + 1))) * 4)).map (lotsF (l.take k ++ l.drop (k + 1))) := by
  have hn : ∀ i, nth (l.take k ++ l.drop (k + 1)) i = nth l (upI k i) := fun i => less_nth (c := { (default : Cargo) with lots := l }) h i
  apply List.ext_getElem (by simp; omega)
  intro j h1 h2
  rw [List.getElem_append]
  have h3 : j < (k + (l.length - (k + 1))) * 4 := by simpa using h2
  simp only [List.length_map, List.length_range, List.getElem_map, List.getElem_range]
  by_cases hj : j < k * 4
  · rw [dif_pos hj, lotsF, lotsF, hn, upI, if_pos (by omega)]
  · rw [dif_neg hj, lotsF, lotsF, hn, upI, if_neg (by omega), show ((k + 1) * 4 + (j - k * 4)) / 4 = j / 4 + 1 by omega, show ((k + 1) * 4 + (j - k * 4)) % 4 = j % 4 by omega]
theorem row_part {w : World} {B n k b o : Nat} {l : List Lot} (h : Row w B (some ⟨b, o, none⟩) (n * 4) (lotsF l)) (hk : k ≤ n) : Row w B (some ⟨b, o, none⟩) (k * 4) (lotsF l) := by
  intro h0
  obtain ⟨b', o', e, hb, hc⟩ := h (by omega)
  exact ⟨b', o', e, hb, fun j hj => hc j (by omega)⟩
theorem row_rest {w : World} {B n k cp b o : Nat} {l : List Lot} (h : Row w B (some ⟨b, o, none⟩) (n * 4) (lotsF l)) (hk : k + 1 ≤ n) (hc : n ≤ cp) :
    Row w B (if cp = k + 1 then some ⟨b, o, none⟩ else some ⟨b, o + (k + 1) * 4, none⟩) ((n - (k + 1)) * 4) (fun j => lotsF l ((k + 1) * 4 + j)) := by
  intro h0
  obtain ⟨b', o', e, hb, hcc⟩ := h (by omega)
  cases e
  rw [if_neg (by omega)]
  exact ⟨b, o + (k + 1) * 4, rfl, hb, fun j hj => by rw [Nat.add_assoc]; exact hcc _ (by omega)⟩
set_option maxHeartbeats 3000000 in
set_option maxRecDepth 100000 in
theorem alone_ok_any {A1 A2 A3 A4 : Option Addr} {c1 c2 c3 c4 : Nat} {c : Cargo} {w : World} (h : CargoV w w.heap.size c A1 A2 A3 A4 c1 c2 c3 c4) (xa xb : Int) (hxa : 0 ≤ xa ∧ xa ≤ 255) (hxb : 0 ≤ xb ∧ xb ≤ 255) (hs : someL c = true) (hn2 : 2 ≤ c.lots.length) :
    Calls Try.prog 14 #[cargoVal c A1 A2 A3 A4 c1 c2 c3 c4, .agg #[.int .u8 xa, .int .u8 xb]] w fun e w' => e = .returned (.bool true) ∧ Below w.heap.size w w' := by
  obtain ⟨i4, hI4, hz40, hz41, hz42⟩ := info_parts Try.infoLot
  have hA1 : Below w.heap.size w (w.alloc (.cells #[.slice A1 c.heat.length c1, .int .i64 c.gas, .slice A2 c.holds.length c2, .slice A3 c.lots.length c3, .slice A4 c.seen.length c4] 27)) := (Below.refl _ _).alloc (Nat.le_refl _) _
  have hA2 : Below (w.alloc (.cells #[.slice A1 c.heat.length c1, .int .i64 c.gas, .slice A2 c.holds.length c2, .slice A3 c.lots.length c3, .slice A4 c.seen.length c4] 27)).heap.size (w.alloc (.cells #[.slice A1 c.heat.length c1, .int .i64 c.gas, .slice A2 c.holds.length c2, .slice A3 c.lots.length c3, .slice A4 c.seen.length c4] 27)) ((w.alloc (.cells #[.slice A1 c.heat.length c1, .int .i64 c.gas, .slice A2 c.holds.length c2, .slice A3 c.lots.length c3, .slice A4 c.seen.length c4] 27)).alloc (.cells #[.int .u8 xa, .int .u8 xb] 82)) := (Below.refl _ _).alloc (Nat.le_refl _) _
  have HK := hide ((BoxC.made h).next hA2)
  have HB := hide (hA1.trans (hA2.mono hA1.size))
  have bx : Blk ((w.alloc (.cells #[.slice A1 c.heat.length c1, .int .i64 c.gas, .slice A2 c.holds.length c2, .slice A3 c.lots.length c3, .slice A4 c.seen.length c4] 27)).alloc (.cells #[.int .u8 xa, .int .u8 xb] 82)) (w.heap.size + 1) 82 #[.int .u8 xa, .int .u8 xb] := Blk.made' (by simp)
  have HXB := hide bx
  clear hA1 hA2 bx
  have bb : Blk ((w.alloc (.cells #[.slice A1 c.heat.length c1, .int .i64 c.gas, .slice A2 c.holds.length c2, .slice A3 c.lots.length c3, .slice A4 c.seen.length c4] 27)).alloc (.cells #[.int .u8 xa, .int .u8 xb] 82)) w.heap.size 27 #[.slice A1 c.heat.length c1, .int .i64 c.gas, .slice A2 c.holds.length c2, .slice A3 c.lots.length c3, .slice A4 c.seen.length c4] := Blk.made.alloc _
  have HBB := hide bb
  have HC0 := hide h
  have HS := hide hs
  obtain ⟨hv0, hso⟩ := someL_true hs
  have hl4 := hv0.lots
  have HVD := hide hv0
  have HSO := hide hso
  have hm3 := h.m3
  clear h hs bb hv0 hso
  go_enter Try.func14, Try.ntmps14
  go_upto_region 1 with (fail)
  generalize ((w.alloc (.cells #[.slice A1 c.heat.length c1, .int .i64 c.gas, .slice A2 c.holds.length c2, .slice A3 c.lots.length c3, .slice A4 c.seen.length c4] 27)).alloc (.cells #[.int .u8 xa, .int .u8 xb] 82)) = v0 at *
  obtain ⟨hv, z, x0, x1, x2, x3, x4⟩ := HK.out
  have HV := hide hv
  clear hv
  have hl2 : (c.lots.length : Int) ≤ 4 := by omega
  have hl3 : (2 : Int) ≤ (c.lots.length : Int) := by omega
  have hlf : decide ((c.lots.length : Int) < 2) = false := by simp; omega
  go_upto_region 4 with (go_at_call 51; refine (someL_any HV.out).mono ?_; rintro e v3 ⟨rfl, hb⟩; rw [HS.out]; have HB := hide (HB.out.trans (hb.mono HB.out.size)); have HK := hide (HK.out.next hb); have HBB := hide (HBB.out.next hb); have HXB := hide (HXB.out.next hb); clear hb z x0 x1 x2 x3 x4 HV; obtain ⟨hv, z, x0, x1, x2, x3, x4⟩ := HK.out; have HV := hide hv; clear hv)
  have yx0 : v3.cell? ⟨w.heap.size + 1, 0, none⟩ = some (.int .u8 xa) := HXB.out.at_ 0
  have yx1 : v3.cell? ⟨w.heap.size + 1, 1, none⟩ = some (.int .u8 xb) := HXB.out.at_ 1
  have zx : w.heap.size + 1 < v3.heap.size := HXB.out.lt
  have hp0 := Int.emod_nonneg xa (show (c.lots.length : Int) ≠ 0 by omega)
  have hp1 := Int.emod_lt_of_pos xa (show 0 < (c.lots.length : Int) by omega)
  have hp2 := Int.emod_nonneg xb (show (c.lots.length : Int) ≠ 0 by omega)
  have hp3 := Int.emod_lt_of_pos xb (show 0 < (c.lots.length : Int) by omega)
  have hm1 : xa.tmod (c.lots.length : Int) = xa % (c.lots.length : Int) := Int.tmod_eq_emod_of_nonneg hxa.1
  have hm2 : xb.tmod (c.lots.length : Int) = xb % (c.lots.length : Int) := Int.tmod_eq_emod_of_nonneg hxb.1
  have hz3 : ((c.lots.length : Int) == 0) = false := by rw [beq_eq_false_iff_ne]; omega
  have hz5 : ¬ c.lots = [] := fun h => by rw [h] at hn2; simp at hn2
  have hz4 : (c.lots.length : Int) ≠ 0 := by omega
  have hw2 : IntKind.i64.wrap (xb % (c.lots.length : Int)) = xb % (c.lots.length : Int) := IntWalk.i64_in _ (by omega)
  have hw3 : IntKind.i64.wrap (xa % (c.lots.length : Int)) = xa % (c.lots.length : Int) := IntWalk.i64_in _ (by omega)
  have hw4 : IntKind.i64.wrap xa = xa := IntWalk.i64_in _ (by omega)
  have hw5 : IntKind.i64.wrap xb = xb := IntWalk.i64_in _ (by omega)
  refine wp_post0 (fun act0 a W => ∃ vs : Nat → Value, a = { tmps := setAll (fun oi => [38, 39, 40, 41, 42, 43, 44, 45, 46, 47, 48, 49, 50, 51, 7, 8].getD oi 0) vs [0, 1, 2, 3, 4, 5, 6, 7, 8, 9, 10, 11, 12, 13, 14, 15] act0.tmps, defers := act0.defers } ∧ Below v3.heap.size v3 W ∧ vs 14 = .int .i64 (xa % (c.lots.length : Int)) ∧ vs 15 = .int .i64 (xb % (c.lots.length : Int))) ?reg ?imp
  case reg =>
    have hST : Stab v3.heap.size (fun oi v W => match oi with | 0 => v = .pointer (some ⟨w.heap.size + 1, 0, none⟩) | 1 => v = .int .u8 xa | 2 => v = .int .i64 xa | 3 => v = .pointer (some ⟨w.heap.size, 3, none⟩) | 4 => v = .slice A3 c.lots.length c3 | 5 => v = .int .i64 (c.lots.length : Nat) | 6 => v = .int .i64 (xa % (c.lots.length : Int)) | 7 => v = .pointer (some ⟨w.heap.size + 1, 1, none⟩) | 8 => v = .int .u8 xb | 9 => v = .int .i64 xb | 10 => v = .pointer (some ⟨w.heap.size, 3, none⟩) | 11 => v = .slice A3 c.lots.length c3 | 12 => v = .int .i64 (c.lots.length : Nat) | 13 => v = .int .i64 (xb % (c.lots.length : Int)) | 14 => v = .int .i64 (xa % (c.lots.length : Int)) | 15 => v = .int .i64 (xb % (c.lots.length : Int)) | _ => True) (fun oi v b => match oi with  | _ => False) := by
      intro oi v W W' h hbs hz hk
      match oi, h, hk with
      | 0, h, hk => exact h
      | 1, h, hk => exact h
      | 2, h, hk => exact h
      | 3, h, hk => exact h
      | 4, h, hk => exact h
      | 5, h, hk => exact h
      | 6, h, hk => exact h
      | 7, h, hk => exact h
      | 8, h, hk => exact h
      | 9, h, hk => exact h
      | 10, h, hk => exact h
      | 11, h, hk => exact h
      | 12, h, hk => exact h
      | 13, h, hk => exact h
      | 14, h, hk => exact h
      | 15, h, hk => exact h
      | oi + 16, h, hk => exact trivial
    refine wp_region_inv (dst := fun oi => [38, 39, 40, 41, 42, 43, 44, 45, 46, 47, 48, 49, 50, 51, 7, 8].getD oi 0) (mono := fun oi => decide (oi < 16)) (pre := fun oi => decide (oi < 16)) (G := Loose 16 v3.heap.size (fun oi => match oi with  | _ => 16) (fun oi v W => match oi with | 0 => v = .pointer (some ⟨w.heap.size + 1, 0, none⟩) | 1 => v = .int .u8 xa | 2 => v = .int .i64 xa | 3 => v = .pointer (some ⟨w.heap.size, 3, none⟩) | 4 => v = .slice A3 c.lots.length c3 | 5 => v = .int .i64 (c.lots.length : Nat) | 6 => v = .int .i64 (xa % (c.lots.length : Int)) | 7 => v = .pointer (some ⟨w.heap.size + 1, 1, none⟩) | 8 => v = .int .u8 xb | 9 => v = .int .i64 xb | 10 => v = .pointer (some ⟨w.heap.size, 3, none⟩) | 11 => v = .slice A3 c.lots.length c3 | 12 => v = .int .i64 (c.lots.length : Nat) | 13 => v = .int .i64 (xb % (c.lots.length : Int)) | 14 => v = .int .i64 (xa % (c.lots.length : Int)) | 15 => v = .int .i64 (xb % (c.lots.length : Int)) | _ => True) (fun oi v b => match oi with  | _ => False)) (by kernel_rfl) (by kernel_rfl) (Loose.start (Nat.le_refl _)) ?hstep ?hend
    case hstep =>
      intro oi hoi hom listed vs a W hU hsz hG hcl hl haft K hK
      have hb := ((Below.refl v3.heap.size v3).drew).trans hU.below
      have hF := Loose.stepF hU hG hST hoi hK
      match oi, hoi, hom with
      | 0, hoi, hom =>
        have z3 : a.tmps[3]?.getD undef = .pointer (some ⟨w.heap.size + 1, 0, none⟩) := hU.same 3 (by decide)
        refine wpOp_value (v := .pointer (some ⟨w.heap.size + 1, 0, none⟩)) (W' := W) rfl rfl ?_ (hF _ _ (Below.refl _ _) rfl (fun _ h => False.elim h))
        go_simp
      | 1, hoi, hom =>
        have l0 := haft _ rfl { on := 0, ground := .data } (by simp) rfl
        have p0 := hG.pv 0 (by decide) (live_end hsz rfl l0)
        have s0 : a.tmps[38]?.getD undef = vs 0 := hU.slot 0 (by decide) l0
        have hv0 : vs 0 = .pointer (some ⟨w.heap.size + 1, 0, none⟩) := p0
        rw [hv0] at s0
        have y0 := (hb.cell (p := ⟨w.heap.size + 1, 0, none⟩) (zx)).trans (yx0)
        refine wpOp_value (v := .int .u8 xa) (W' := W) rfl rfl ?_ (hF _ _ (Below.refl _ _) rfl (fun _ h => False.elim h))
        go_simp
      | 2, hoi, hom =>
        have l1 := haft _ rfl { on := 1, ground := .data } (by simp) rfl
        have p1 := hG.pv 1 (by decide) (live_end hsz rfl l1)
        have s1 : a.tmps[39]?.getD undef = vs 1 := hU.slot 1 (by decide) l1
        have hv1 : vs 1 = .int .u8 xa := p1
        rw [hv1] at s1
        refine wpOp_value (v := .int .i64 xa) (W' := W) rfl rfl ?_ (hF _ _ (Below.refl _ _) rfl (fun _ h => False.elim h))
        go_simp
      | 3, hoi, hom =>
        have z2 : a.tmps[2]?.getD undef = .pointer (some ⟨w.heap.size, 0, none⟩) := hU.same 2 (by decide)
        refine wpOp_value (v := .pointer (some ⟨w.heap.size, 3, none⟩)) (W' := W) rfl rfl ?_ (hF _ _ (Below.refl _ _) rfl (fun _ h => False.elim h))
        go_simp
      | 4, hoi, hom =>
        have l3 := haft _ rfl { on := 3, ground := .data } (by simp) rfl
        have p3 := hG.pv 3 (by decide) (live_end hsz rfl l3)
        have s3 : a.tmps[41]?.getD undef = vs 3 := hU.slot 3 (by decide) l3
        have hv3 : vs 3 = .pointer (some ⟨w.heap.size, 3, none⟩) := p3
        rw [hv3] at s3
        have y0 := (hb.cell (p := ⟨w.heap.size, 3, none⟩) (z)).trans (x3)
        refine wpOp_value (v := .slice A3 c.lots.length c3) (W' := W) rfl rfl ?_ (hF _ _ (Below.refl _ _) rfl (fun _ h => False.elim h))
        go_simp
      | 5, hoi, hom =>
        have l4 := haft _ rfl { on := 4, ground := .data } (by simp) rfl
        have p4 := hG.pv 4 (by decide) (live_end hsz rfl l4)
        have s4 : a.tmps[42]?.getD undef = vs 4 := hU.slot 4 (by decide) l4
        have hv4 : vs 4 = .slice A3 c.lots.length c3 := p4
        rw [hv4] at s4
        refine wpOp_value (v := .int .i64 (c.lots.length : Nat)) (W' := W) rfl rfl ?_ (hF _ _ (Below.refl _ _) rfl (fun _ h => False.elim h))
        go_simp
      | 6, hoi, hom =>
        have l2 := haft _ rfl { on := 2, ground := .data } (by simp) rfl
        have p2 := hG.pv 2 (by decide) (live_end hsz rfl l2)
        have s2 : a.tmps[40]?.getD undef = vs 2 := hU.slot 2 (by decide) l2
        have hv2 : vs 2 = .int .i64 xa := p2
        rw [hv2] at s2
        have l5 := haft _ rfl { on := 5, ground := .data } (by simp) rfl
        have p5 := hG.pv 5 (by decide) (live_end hsz rfl l5)
        have s5 : a.tmps[43]?.getD undef = vs 5 := hU.slot 5 (by decide) l5
        have hv5 : vs 5 = .int .i64 (c.lots.length : Nat) := p5
        rw [hv5] at s5
        refine wpOp_value (v := .int .i64 (xa % (c.lots.length : Int))) (W' := W) rfl rfl ?_ (hF _ _ (Below.refl _ _) rfl (fun _ h => False.elim h))
        go_simp
      | 7, hoi, hom =>
        have z3 : a.tmps[3]?.getD undef = .pointer (some ⟨w.heap.size + 1, 0, none⟩) := hU.same 3 (by decide)
        refine wpOp_value (v := .pointer (some ⟨w.heap.size + 1, 1, none⟩)) (W' := W) rfl rfl ?_ (hF _ _ (Below.refl _ _) rfl (fun _ h => False.elim h))
        go_simp
      | 8, hoi, hom =>
        have l7 := haft _ rfl { on := 7, ground := .data } (by simp) rfl
        have p7 := hG.pv 7 (by decide) (live_end hsz rfl l7)
        have s7 : a.tmps[45]?.getD undef = vs 7 := hU.slot 7 (by decide) l7
        have hv7 : vs 7 = .pointer (some ⟨w.heap.size + 1, 1, none⟩) := p7
        rw [hv7] at s7
        have y0 := (hb.cell (p := ⟨w.heap.size + 1, 1, none⟩) (zx)).trans (yx1)
        refine wpOp_value (v := .int .u8 xb) (W' := W) rfl rfl ?_ (hF _ _ (Below.refl _ _) rfl (fun _ h => False.elim h))
        go_simp
      | 9, hoi, hom =>
        have l8 := haft _ rfl { on := 8, ground := .data } (by simp) rfl
        have p8 := hG.pv 8 (by decide) (live_end hsz rfl l8)
        have s8 : a.tmps[46]?.getD undef = vs 8 := hU.slot 8 (by decide) l8
        have hv8 : vs 8 = .int .u8 xb := p8
        rw [hv8] at s8
        refine wpOp_value (v := .int .i64 xb) (W' := W) rfl rfl ?_ (hF _ _ (Below.refl _ _) rfl (fun _ h => False.elim h))
        go_simp
      | 10, hoi, hom =>
        have z2 : a.tmps[2]?.getD undef = .pointer (some ⟨w.heap.size, 0, none⟩) := hU.same 2 (by decide)
        refine wpOp_value (v := .pointer (some ⟨w.heap.size, 3, none⟩)) (W' := W) rfl rfl ?_ (hF _ _ (Below.refl _ _) rfl (fun _ h => False.elim h))
        go_simp
      | 11, hoi, hom =>
        have l10 := haft _ rfl { on := 10, ground := .data } (by simp) rfl
        have p10 := hG.pv 10 (by decide) (live_end hsz rfl l10)
        have s10 : a.tmps[48]?.getD undef = vs 10 := hU.slot 10 (by decide) l10
        have hv10 : vs 10 = .pointer (some ⟨w.heap.size, 3, none⟩) := p10
        rw [hv10] at s10
        have y0 := (hb.cell (p := ⟨w.heap.size, 3, none⟩) (z)).trans (x3)
        refine wpOp_value (v := .slice A3 c.lots.length c3) (W' := W) rfl rfl ?_ (hF _ _ (Below.refl _ _) rfl (fun _ h => False.elim h))
        go_simp
      | 12, hoi, hom =>
        have l11 := haft _ rfl { on := 11, ground := .data } (by simp) rfl
        have p11 := hG.pv 11 (by decide) (live_end hsz rfl l11)
        have s11 : a.tmps[49]?.getD undef = vs 11 := hU.slot 11 (by decide) l11
        have hv11 : vs 11 = .slice A3 c.lots.length c3 := p11
        rw [hv11] at s11
        refine wpOp_value (v := .int .i64 (c.lots.length : Nat)) (W' := W) rfl rfl ?_ (hF _ _ (Below.refl _ _) rfl (fun _ h => False.elim h))
        go_simp
      | 13, hoi, hom =>
        have l9 := haft _ rfl { on := 9, ground := .data } (by simp) rfl
        have p9 := hG.pv 9 (by decide) (live_end hsz rfl l9)
        have s9 : a.tmps[47]?.getD undef = vs 9 := hU.slot 9 (by decide) l9
        have hv9 : vs 9 = .int .i64 xb := p9
        rw [hv9] at s9
        have l12 := haft _ rfl { on := 12, ground := .data } (by simp) rfl
        have p12 := hG.pv 12 (by decide) (live_end hsz rfl l12)
        have s12 : a.tmps[50]?.getD undef = vs 12 := hU.slot 12 (by decide) l12
        have hv12 : vs 12 = .int .i64 (c.lots.length : Nat) := p12
        rw [hv12] at s12
        refine wpOp_value (v := .int .i64 (xb % (c.lots.length : Int))) (W' := W) rfl rfl ?_ (hF _ _ (Below.refl _ _) rfl (fun _ h => False.elim h))
        go_simp
      | 14, hoi, hom =>
        have l6 := haft _ rfl { on := 6, ground := .data } (by simp) rfl
        have p6 := hG.pv 6 (by decide) (live_end hsz rfl l6)
        have s6 : a.tmps[44]?.getD undef = vs 6 := hU.slot 6 (by decide) l6
        have hv6 : vs 6 = .int .i64 (xa % (c.lots.length : Int)) := p6
        rw [hv6] at s6
        refine wpOp_value (v := .int .i64 (xa % (c.lots.length : Int))) (W' := W) rfl rfl ?_ (hF _ _ (Below.refl _ _) rfl (fun _ h => False.elim h))
        go_simp
      | 15, hoi, hom =>
        have l13 := haft _ rfl { on := 13, ground := .data } (by simp) rfl
        have p13 := hG.pv 13 (by decide) (live_end hsz rfl l13)
        have s13 : a.tmps[51]?.getD undef = vs 13 := hU.slot 13 (by decide) l13
        have hv13 : vs 13 = .int .i64 (xb % (c.lots.length : Int)) := p13
        rw [hv13] at s13
        refine wpOp_value (v := .int .i64 (xb % (c.lots.length : Int))) (W' := W) rfl rfl ?_ (hF _ _ (Below.refl _ _) rfl (fun _ h => False.elim h))
        go_simp
      | oi + 16, hoi, hom => exact absurd (of_decide_eq_true hom) (by omega)
    case hend =>
      intro listed vs a W hG0 hG hpre
      have hb := ((Below.refl v3.heap.size v3).drew).trans hG0.below
      have hact := hG0.act
      have hT := hG0.lst hpre 0 #[true, true, true, true, true, true, true, true, true, true, true, true, true, true, true, true] rfl (by kernel_rfl) (hpre 0 (by decide) (by decide))
      rw [hG0.ix hT (l := [0, 1, 2, 3, 4, 5, 6, 7, 8, 9, 10, 11, 12, 13, 14, 15]) (by kernel_rfl)] at hact
      rw [hG0.lo hT (k := 0) (by kernel_rfl)]
      have p14 := hG.pv 14 (by decide) (live_end hG.size rfl (hpre 14 (by decide) (by decide)))
      have p15 := hG.pv 15 (by decide) (live_end hG.size rfl (hpre 15 (by decide) (by decide)))
      subst hT
      refine wpAny_done (by kernel_rfl) ?_ _
      exact ⟨rfl, vs, hact, hb, p14, p15⟩
  case imp =>
  rintro a9 w5 ⟨vs, rfl, hb5, hv14, hv15⟩
  simp only [setAll, List.setIfInBounds_toArray, List.set_cons_succ, List.set_cons_zero, List.getD_cons_succ, List.getD_cons_zero]
  rw [hv14, hv15]
  have HB := hide (HB.out.trans (hb5.mono HB.out.size))
  have HK := hide (HK.out.next hb5)
  have HBB := hide (HBB.out.next hb5)
  clear hb5 hv14 hv15 yx0 yx1 zx hm1 hm2 hz3 hz4 hz5 hw2 hw3 hw4 hw5 z x0 x1 x2 x3 x4 HV HXB hlf
  obtain ⟨ia, hda⟩ : ∃ ia : Nat, xa % (c.lots.length : Int) = (ia : Int) := ⟨(xa % (c.lots.length : Int)).toNat, by omega⟩
  obtain ⟨ib, hdb⟩ : ∃ ib : Nat, xb % (c.lots.length : Int) = (ib : Int) := ⟨(xb % (c.lots.length : Int)).toNat, by omega⟩
  rw [hda] at hp0 hp1 ⊢
  rw [hdb] at hp2 hp3 ⊢
  clear hda hdb
  have hia : ia < c.lots.length := by omega
  have hib : ib < c.lots.length := by omega
  by_cases hab : ia = ib
  · subst hab
    have HSP := hide (fun (w : World) A1 A2 A3 A4 c1 c2 c3 c4 (h : CargoV w w.heap.size c A1 A2 A3 A4 c1 c2 c3 c4) => (show Calls Try.prog 26 #[cargoVal c A1 A2 A3 A4 c1 c2 c3 c4, .int .i64 (ia : Int), .int .i64 (ia : Int)] w fun e w' => e = .returned (.tuple #[.int .i64 0, .int .i64 2]) ∧ Below w.heap.size w w' from by have := spoilsW_any h (ia : Int) (ia : Int); rw [spoils_self HVD.out hia] at this; exact this))
    obtain ⟨hv, z, x0, x1, x2, x3, x4⟩ := HK.out
    have HV := hide hv
    clear hv
    go_wp2_with (first | (go_at_call 26; refine (HSP.out _ _ _ _ _ _ _ _ _ HV.out).mono ?_; rintro e v4 ⟨rfl, hb⟩; have HB := hide (HB.out.trans (hb.mono HB.out.size)); clear hb) | (go_at_call 23; refine (awake_any _).mono ?_; rintro e v10 ⟨rfl, hb⟩))
    go_ret
    exact ⟨rfl, HB.out.trans (hb.mono HB.out.size)⟩
  · obtain ⟨qe, qhow⟩ := spoils_two HVD.out HSO.out hia hib hab
    have HSP := hide (fun (w : World) A1 A2 A3 A4 c1 c2 c3 c4 (h : CargoV w w.heap.size c A1 A2 A3 A4 c1 c2 c3 c4) => (show Calls Try.prog 26 #[cargoVal c A1 A2 A3 A4 c1 c2 c3 c4, .int .i64 (ia : Int), .int .i64 (ib : Int)] w fun e w' => e = .returned (.tuple #[.int .i64 (spoilsR c ia ib).1, .int .i64 0]) ∧ Below w.heap.size w w' from by have := spoilsW_any h (ia : Int) (ib : Int); rw [qe] at this; exact this))
    have HAO := hide (alone_ok HVD.out hia hib hab)
    have habI : ((ia : Int) == (ib : Int)) = false := by rw [beq_eq_false_iff_ne]; omega
    clear qe
    generalize (spoilsR c ia ib).1 = how at *
    obtain ⟨hv, z, x0, x1, x2, x3, x4⟩ := HK.out
    have HV := hide hv
    clear hv
    go_wp2_with (go_at_call 26; refine (HSP.out _ _ _ _ _ _ _ _ _ HV.out).mono ?_; rintro e v4 ⟨rfl, hb⟩)
    have HB := hide (HB.out.trans (hb.mono HB.out.size))
    have HK := hide (HK.out.next hb)
    have HBB := hide (HBB.out.next hb)
    clear hb z x0 x1 x2 x3 x4 HV HSP
    obtain ⟨hv, z, x0, x1, x2, x3, x4⟩ := HK.out
    obtain ⟨b3, o3, rfl, zb3, la, _⟩ := hv.lots.lots hia
    obtain ⟨_, _, hbe, _, lb, _⟩ := hv.lots.lots hib
    cases hbe
    clear hv
    have h3c : ¬ c3 = 0 := by omega
    cases hg0 : (c.gas == 0)
    all_goals cases hho : ((nth c.lots ia).hold != (nth c.lots ib).hold)
    all_goals
      have qh : ((c.gas == 0) = true ∨ ((nth c.lots ia).hold != (nth c.lots ib).hold) = true) → (how != 2) = false := fun h => by have := qhow (by simpa using h); simp [this]
      rw [hg0, hho] at qh
    all_goals try replace qh := qh (.inl rfl)
    all_goals try replace qh := qh (.inr rfl)
    all_goals
      have HG0 := hide hg0
      have HHO := hide hho
      have y4 : v4.cell? ⟨w.heap.size, 4, none⟩ = some (.slice A4 c.seen.length c4) := HBB.out.at_ 4
      have f4 := HBB.out.free 4
      go_wp2_with fail
      go_quiet (fail)
      go_upto_region 11 with (fail)
      have hbD : Below v4.heap.size v4 (v4.drewN nq) := below_drewN (Below.refl _ _) _
      have b5 : Blk ((v4.drewN nq).setCell ⟨w.heap.size, 4, none⟩ (.slice none 0 0)) w.heap.size 27 #[.slice A1 c.heat.length c1, .int .i64 c.gas, .slice A2 c.holds.length c2, .slice (some ⟨b3, o3, none⟩) c.lots.length c3, .slice none 0 0] := (HBB.out.next hbD).store 4 (.slice none 0 0)
      have hb5 : Below w.heap.size w ((v4.drewN nq).setCell ⟨w.heap.size, 4, none⟩ (.slice none 0 0)) := (HB.out.trans (hbD.mono HB.out.size)).setCell (p := ⟨w.heap.size, 4, none⟩) (Nat.le_refl _) _
      clear y4 f4 HBB HK HB z x0 x1 x2 x3 x4 la lb zb3 hg0 hho qh hbD habI
      generalize ((v4.drewN nq).setCell ⟨w.heap.size, 4, none⟩ (.slice none 0 0)) = v5 at *
      have HBL := hide b5
      have HB := hide hb5
      clear b5 hb5
      have hs5 := HB.out.size
      have hcv : CargoV v5 v5.heap.size (bareC c) A1 A2 (some ⟨b3, o3, none⟩) none c1 c2 c3 0 := by
        have h := (HC0.out.below HB.out).more HB.out.size
        exact ⟨h.heat, h.holds, h.lots, Row.nil_, h.m1, h.m2, h.m3, by simp [bareC, maxLen]⟩
      have HKB : Hid (BoxC v5 w.heap.size (bareC c) A1 A2 (some ⟨b3, o3, none⟩) none c1 c2 c3 0) := hide ⟨hcv, HBL.out.lt, HBL.out.at_ 0, HBL.out.at_ 1, HBL.out.at_ 2, HBL.out.at_ 3, HBL.out.at_ 4⟩
      have x0 : v5.cell? ⟨w.heap.size, 0, none⟩ = some (.slice A1 c.heat.length c1) := HBL.out.at_ 0
      have x1 : v5.cell? ⟨w.heap.size, 1, none⟩ = some (.int .i64 c.gas) := HBL.out.at_ 1
      have x2 : v5.cell? ⟨w.heap.size, 2, none⟩ = some (.slice A2 c.holds.length c2) := HBL.out.at_ 2
      have x3 : v5.cell? ⟨w.heap.size, 3, none⟩ = some (.slice (some ⟨b3, o3, none⟩) c.lots.length c3) := HBL.out.at_ 3
      have x4 : v5.cell? ⟨w.heap.size, 4, none⟩ = some (.slice none 0 0) := HBL.out.at_ 4
      go_upto_region 12 with (fail)
      have hA6 : Below v5.heap.size v5 (v5.alloc (.cells #[.slice A1 c.heat.length c1, .int .i64 c.gas, .slice A2 c.holds.length c2, .slice (some ⟨b3, o3, none⟩) c.lots.length c3, .slice none 0 0] 27)) := (Below.refl _ _).alloc (Nat.le_refl _) _
      have b6 : Blk (v5.alloc (.cells #[.slice A1 c.heat.length c1, .int .i64 c.gas, .slice A2 c.holds.length c2, .slice (some ⟨b3, o3, none⟩) c.lots.length c3, .slice none 0 0] 27)) v5.heap.size 27 #[.slice A1 c.heat.length c1, .int .i64 c.gas, .slice A2 c.holds.length c2, .slice (some ⟨b3, o3, none⟩) c.lots.length c3, .slice none 0 0] := Blk.made
      have b7 := HBL.out.next hA6
      have hr1 : Row (v5.alloc (.cells #[.slice A1 c.heat.length c1, .int .i64 c.gas, .slice A2 c.holds.length c2, .slice (some ⟨b3, o3, none⟩) c.lots.length c3, .slice none 0 0] 27)) (v5.alloc (.cells #[.slice A1 c.heat.length c1, .int .i64 c.gas, .slice A2 c.holds.length c2, .slice (some ⟨b3, o3, none⟩) c.lots.length c3, .slice none 0 0] 27)).heap.size (some ⟨b3, o3, none⟩) (c.lots.length * 4) (lotsF c.lots) := (hcv.next hA6).lots
      clear x0 x1 x2 x3 x4 hcv
      generalize (v5.alloc (.cells #[.slice A1 c.heat.length c1, .int .i64 c.gas, .slice A2 c.holds.length c2, .slice (some ⟨b3, o3, none⟩) c.lots.length c3, .slice none 0 0] 27)) = v6 at *
      have HR1 : Hid (Row v6 v6.heap.size (some ⟨b3, o3, none⟩) (ia * 4) (lotsF c.lots)) := hide (row_part hr1 (by omega))
      have HR2 := hide (row_rest (k := ia) (cp := c3) hr1 hia hm3.1)
      have z : w.heap.size < v6.heap.size := b7.lt
      have x3 : v6.cell? ⟨w.heap.size, 3, none⟩ = some (.slice (some ⟨b3, o3, none⟩) c.lots.length c3) := b7.at_ 3
      have zg : v5.heap.size < v6.heap.size := b6.lt
      have pg3 : v6.cell? ⟨v5.heap.size, 3, none⟩ = some (.slice (some ⟨b3, o3, none⟩) c.lots.length c3) := b6.at_ 3
      have fg3 := b6.free 3
      have HGB := hide b6
      have HA6 := hide hA6
      have hN1 : ia ≤ c3 := by omega
      have hN2 : (ia : Int) ≤ (c3 : Int) := by omega
      have hN3 : (ia : Int) + 1 ≤ (c.lots.length : Int) := by omega
      have hN4 : ¬ ((c.lots.length : Int) < (ia : Int) + 1) := by omega
      have hN5 : 0 ≤ (ia : Int) + 1 := by omega
      have hN6 : IntKind.i64.wrap ((ia : Int) + 1) = (ia : Int) + 1 := IntWalk.i64_in _ (by omega)
      clear hr1 b6 b7 hA6 HBL
      refine wp_post0 (fun act0 a W => ∃ vs : Nat → Value, a = { tmps := setAll (fun oi => [99, 100, 101, 102, 103, 104, 105, 106, 107, 108, 109, 110, 111, 0].getD oi 0) vs [0, 1, 2, 3, 4, 5, 6, 7, 8, 9, 10, 11, 12] act0.tmps, defers := act0.defers } ∧ ∃ (W1 : World) (A : Option Addr) (cp : Nat), W = W1.setCell ⟨v5.heap.size, 3, none⟩ (.slice A (ia + (c.lots.length - (ia + 1))) cp) ∧ Below v6.heap.size v6 W1 ∧ W1.ownsRow v6.heap.size 57 4 (.slice A (ia + (c.lots.length - (ia + 1))) cp) (ia + (c.lots.length - (ia + 1))) ((List.range (ia * 4)).map (lotsF c.lots) ++ (List.range ((c.lots.length - (ia + 1)) * 4)).map (fun j => lotsF c.lots ((ia + 1) * 4 + j)))) ?reg ?imp
      case reg =>
        have hST : Stab v6.heap.size (fun oi v W => match oi with | 0 => ∃ A cp, v = .slice A 0 cp ∧ W.ownsRow v6.heap.size 57 4 (.slice A 0 cp) 0 ([]) | 1 => v = .pointer (some ⟨w.heap.size, 3, none⟩) | 2 => v = .slice (some ⟨b3, o3, none⟩) c.lots.length c3 | 3 => v = .int .i64 ia | 4 => v = .slice (some ⟨b3, o3, none⟩) ia c3 | 5 => ∃ A cp, v = .slice A ia cp ∧ W.ownsRow v6.heap.size 57 4 (.slice A ia cp) ia ((List.range (ia * 4)).map (lotsF c.lots)) | 6 => v = .pointer (some ⟨w.heap.size, 3, none⟩) | 7 => v = .slice (some ⟨b3, o3, none⟩) c.lots.length c3 | 8 => v = .int .i64 ia | 9 => v = .int .i64 ((ia : Int) + 1) | 10 => v = .slice (if c3 = ia + 1 then some ⟨b3, o3, none⟩ else some ⟨b3, o3 + (ia + 1) * 4, none⟩) (c.lots.length - (ia + 1)) (c3 - (ia + 1)) | 11 => ∃ A cp, v = .slice A (ia + (c.lots.length - (ia + 1))) cp ∧ W.ownsRow v6.heap.size 57 4 (.slice A (ia + (c.lots.length - (ia + 1))) cp) (ia + (c.lots.length - (ia + 1))) ((List.range (ia * 4)).map (lotsF c.lots) ++ (List.range ((c.lots.length - (ia + 1)) * 4)).map (fun j => lotsF c.lots ((ia + 1) * 4 + j))) | _ => True) (fun oi v b => match oi with | 0 => v.ownBlock = some b | 5 => v.ownBlock = some b | 11 => v.ownBlock = some b | _ => False) := by
          intro oi v W W' h hbs hz hk
          match oi, h, hk with
          | 0, h, hk => obtain ⟨A, cp, rfl, h2⟩ := h; exact ⟨A, cp, rfl, own_stab h2 (fun b hb e => hk b hb (.inr e))⟩
          | 1, h, hk => exact h
          | 2, h, hk => exact h
          | 3, h, hk => exact h
          | 4, h, hk => exact h
          | 5, h, hk => obtain ⟨A, cp, rfl, h2⟩ := h; exact ⟨A, cp, rfl, own_stab h2 (fun b hb e => hk b hb (.inr e))⟩
          | 6, h, hk => exact h
          | 7, h, hk => exact h
          | 8, h, hk => exact h
          | 9, h, hk => exact h
          | 10, h, hk => exact h
          | 11, h, hk => obtain ⟨A, cp, rfl, h2⟩ := h; exact ⟨A, cp, rfl, own_stab h2 (fun b hb e => hk b hb (.inr e))⟩
          | oi + 12, h, hk => exact trivial
        refine wp_region_inv (dst := fun oi => [99, 100, 101, 102, 103, 104, 105, 106, 107, 108, 109, 110, 111, 0].getD oi 0) (mono := fun oi => decide (oi < 12)) (pre := fun oi => decide (oi < 12)) (G := Loose 14 v6.heap.size (fun oi => match oi with | 0 => 5 | 5 => 11 | _ => 14) (fun oi v W => match oi with | 0 => ∃ A cp, v = .slice A 0 cp ∧ W.ownsRow v6.heap.size 57 4 (.slice A 0 cp) 0 ([]) | 1 => v = .pointer (some ⟨w.heap.size, 3, none⟩) | 2 => v = .slice (some ⟨b3, o3, none⟩) c.lots.length c3 | 3 => v = .int .i64 ia | 4 => v = .slice (some ⟨b3, o3, none⟩) ia c3 | 5 => ∃ A cp, v = .slice A ia cp ∧ W.ownsRow v6.heap.size 57 4 (.slice A ia cp) ia ((List.range (ia * 4)).map (lotsF c.lots)) | 6 => v = .pointer (some ⟨w.heap.size, 3, none⟩) | 7 => v = .slice (some ⟨b3, o3, none⟩) c.lots.length c3 | 8 => v = .int .i64 ia | 9 => v = .int .i64 ((ia : Int) + 1) | 10 => v = .slice (if c3 = ia + 1 then some ⟨b3, o3, none⟩ else some ⟨b3, o3 + (ia + 1) * 4, none⟩) (c.lots.length - (ia + 1)) (c3 - (ia + 1)) | 11 => ∃ A cp, v = .slice A (ia + (c.lots.length - (ia + 1))) cp ∧ W.ownsRow v6.heap.size 57 4 (.slice A (ia + (c.lots.length - (ia + 1))) cp) (ia + (c.lots.length - (ia + 1))) ((List.range (ia * 4)).map (lotsF c.lots) ++ (List.range ((c.lots.length - (ia + 1)) * 4)).map (fun j => lotsF c.lots ((ia + 1) * 4 + j))) | _ => True) (fun oi v b => match oi with | 0 => v.ownBlock = some b | 5 => v.ownBlock = some b | 11 => v.ownBlock = some b | _ => False)) (by kernel_rfl) (by kernel_rfl) (Loose.start (Nat.le_refl _)) ?hstep ?hend
        case hstep =>
          intro oi hoi hom listed vs a W hU hsz hG hcl hl haft K hK
          have hb := ((Below.refl v6.heap.size v6).drew).trans hU.below
          have hF := Loose.stepF hU hG hST hoi hK
          match oi, hoi, hom with
          | 0, hoi, hom =>
            refine wpOp_value (v := .slice (some ⟨W.heap.size, 0, none⟩) 0 0) (W' := (W.alloc (.cells #[] 57))) rfl rfl ?_ (hF _ _ ((Below.refl _ _).alloc (Nat.le_refl _) _) (own_lit hG.base #[] 0 rfl (by simp [maxLen])) (fun b h => by rw [← own_new h]; exact ⟨by simp, .inl (Nat.le_refl _)⟩))
            go_simp
          | 1, hoi, hom =>
            have z2 : a.tmps[2]?.getD undef = .pointer (some ⟨w.heap.size, 0, none⟩) := hU.same 2 (by decide)
            refine wpOp_value (v := .pointer (some ⟨w.heap.size, 3, none⟩)) (W' := W) rfl rfl ?_ (hF _ _ (Below.refl _ _) rfl (fun _ h => False.elim h))
            go_simp
          | 2, hoi, hom =>
            have l1 := haft _ rfl { on := 1, ground := .data } (by simp) rfl
            have p1 := hG.pv 1 (by decide) (live_end hsz rfl l1)
            have s1 : a.tmps[100]?.getD undef = vs 1 := hU.slot 1 (by decide) l1
            have hv1 : vs 1 = .pointer (some ⟨w.heap.size, 3, none⟩) := p1
            rw [hv1] at s1
            have y0 := (hb.cell (p := ⟨w.heap.size, 3, none⟩) (z)).trans (x3)
            refine wpOp_value (v := .slice (some ⟨b3, o3, none⟩) c.lots.length c3) (W' := W) rfl rfl ?_ (hF _ _ (Below.refl _ _) rfl (fun _ h => False.elim h))
            go_simp
          | 3, hoi, hom =>
            have z7 : a.tmps[7]?.getD undef = .int .i64 ia := hU.same 7 (by decide)
            refine wpOp_value (v := .int .i64 ia) (W' := W) rfl rfl ?_ (hF _ _ (Below.refl _ _) rfl (fun _ h => False.elim h))
            go_simp
          | 4, hoi, hom =>
            have l2 := haft _ rfl { on := 2, ground := .data } (by simp) rfl
            have p2 := hG.pv 2 (by decide) (live_end hsz rfl l2)
            have s2 : a.tmps[101]?.getD undef = vs 2 := hU.slot 2 (by decide) l2
            have hv2 : vs 2 = .slice (some ⟨b3, o3, none⟩) c.lots.length c3 := p2
            rw [hv2] at s2
            have l3 := haft _ rfl { on := 3, ground := .data } (by simp) rfl
            have p3 := hG.pv 3 (by decide) (live_end hsz rfl l3)
            have s3 : a.tmps[102]?.getD undef = vs 3 := hU.slot 3 (by decide) l3
            have hv3 : vs 3 = .int .i64 ia := p3
            rw [hv3] at s3
            refine wpOp_value (v := .slice (some ⟨b3, o3, none⟩) ia c3) (W' := W) rfl rfl ?_ (hF _ _ (Below.refl _ _) rfl (fun _ h => False.elim h))
            go_simp
          | 5, hoi, hom =>
            have l0 := haft _ rfl { on := 0, ground := .data } (by simp) rfl
            have p0 := hG.pv 0 (by decide) (⟨l0, hl⟩)
            have s0 : a.tmps[99]?.getD undef = vs 0 := hU.slot 0 (by decide) l0
            obtain ⟨PA0, kp0, hv0, hi0⟩ := p0
            rw [hv0] at s0
            have l4 := haft _ rfl { on := 4, ground := .data } (by simp) rfl
            have p4 := hG.pv 4 (by decide) (live_end hsz rfl l4)
            have s4 : a.tmps[103]?.getD undef = vs 4 := hU.slot 4 (by decide) l4
            have hv4 : vs 4 = .slice (some ⟨b3, o3, none⟩) ia c3 := p4
            rw [hv4] at s4
            have hA := Loose.stepA (p := 0) hU hG rfl hST hoi hK (by decide) (by decide) rfl ⟨l0, hl⟩ (fun b h => h) (by rw [hv0]; exact hi0)
            obtain ⟨v', W', hrun, hown', hg, hblk⟩ := run_app_row (P := Try.prog) W v6.heap.size 24 24 57 i4 (.agg #[.int .i64 0, .int .i64 0, .int .i64 0, .int .i64 0]) 4 32 Try.underlying24 hI4 hz40 hz41 hz42 rfl (by decide) hi0 (HR1.out.below hb) (fun _ _ => rfl) (by simp only [maxLen]; omega) (by omega) hG.base
            rw [Nat.zero_add, List.nil_append] at hown'
            exact wpOp_append (s := 99) (x := 103) (v' := v') (W' := W') rfl rfl rfl s0 s4 hrun (hA _ _ _ _ (by rw [hv0]; exact hg) hown' (by rw [hv0]; exact hblk) (own_ex hown') (fun b h => h))
          | 6, hoi, hom =>
            have z2 : a.tmps[2]?.getD undef = .pointer (some ⟨w.heap.size, 0, none⟩) := hU.same 2 (by decide)
            refine wpOp_value (v := .pointer (some ⟨w.heap.size, 3, none⟩)) (W' := W) rfl rfl ?_ (hF _ _ (Below.refl _ _) rfl (fun _ h => False.elim h))
            go_simp
          | 7, hoi, hom =>
            have l6 := haft _ rfl { on := 6, ground := .data } (by simp) rfl
            have p6 := hG.pv 6 (by decide) (live_end hsz rfl l6)
            have s6 : a.tmps[105]?.getD undef = vs 6 := hU.slot 6 (by decide) l6
            have hv6 : vs 6 = .pointer (some ⟨w.heap.size, 3, none⟩) := p6
            rw [hv6] at s6
            have y0 := (hb.cell (p := ⟨w.heap.size, 3, none⟩) (z)).trans (x3)
            refine wpOp_value (v := .slice (some ⟨b3, o3, none⟩) c.lots.length c3) (W' := W) rfl rfl ?_ (hF _ _ (Below.refl _ _) rfl (fun _ h => False.elim h))
            go_simp
          | 8, hoi, hom =>
            have z7 : a.tmps[7]?.getD undef = .int .i64 ia := hU.same 7 (by decide)
            refine wpOp_value (v := .int .i64 ia) (W' := W) rfl rfl ?_ (hF _ _ (Below.refl _ _) rfl (fun _ h => False.elim h))
            go_simp
          | 9, hoi, hom =>
            have l8 := haft _ rfl { on := 8, ground := .data } (by simp) rfl
            have p8 := hG.pv 8 (by decide) (live_end hsz rfl l8)
            have s8 : a.tmps[107]?.getD undef = vs 8 := hU.slot 8 (by decide) l8
            have hv8 : vs 8 = .int .i64 ia := p8
            rw [hv8] at s8
            refine wpOp_value (v := .int .i64 ((ia : Int) + 1)) (W' := W) rfl rfl ?_ (hF _ _ (Below.refl _ _) rfl (fun _ h => False.elim h))
            go_simp
          | 10, hoi, hom =>
            have l7 := haft _ rfl { on := 7, ground := .data } (by simp) rfl
            have p7 := hG.pv 7 (by decide) (live_end hsz rfl l7)
            have s7 : a.tmps[106]?.getD undef = vs 7 := hU.slot 7 (by decide) l7
            have hv7 : vs 7 = .slice (some ⟨b3, o3, none⟩) c.lots.length c3 := p7
            rw [hv7] at s7
            have l9 := haft _ rfl { on := 9, ground := .data } (by simp) rfl
            have p9 := hG.pv 9 (by decide) (live_end hsz rfl l9)
            have s9 : a.tmps[108]?.getD undef = vs 9 := hU.slot 9 (by decide) l9
            have hv9 : vs 9 = .int .i64 ((ia : Int) + 1) := p9
            rw [hv9] at s9
            refine wpOp_value (v := .slice (if c3 = ia + 1 then some ⟨b3, o3, none⟩ else some ⟨b3, o3 + (ia + 1) * 4, none⟩) (c.lots.length - (ia + 1)) (c3 - (ia + 1))) (W' := W) rfl rfl ?_ (hF _ _ (Below.refl _ _) rfl (fun _ h => False.elim h))
            go_simp
          | 11, hoi, hom =>
            have l5 := haft _ rfl { on := 5, ground := .data } (by simp) rfl
            have p5 := hG.pv 5 (by decide) (⟨l5, hl⟩)
            have s5 : a.tmps[104]?.getD undef = vs 5 := hU.slot 5 (by decide) l5
            obtain ⟨PA5, kp5, hv5, hi5⟩ := p5
            rw [hv5] at s5
            have l10 := haft _ rfl { on := 10, ground := .data } (by simp) rfl
            have p10 := hG.pv 10 (by decide) (live_end hsz rfl l10)
            have s10 : a.tmps[109]?.getD undef = vs 10 := hU.slot 10 (by decide) l10
            have hv10 : vs 10 = .slice (if c3 = ia + 1 then some ⟨b3, o3, none⟩ else some ⟨b3, o3 + (ia + 1) * 4, none⟩) (c.lots.length - (ia + 1)) (c3 - (ia + 1)) := p10
            rw [hv10] at s10
            have hA := Loose.stepA (p := 5) hU hG rfl hST hoi hK (by decide) (by decide) rfl ⟨l5, hl⟩ (fun b h => h) (by rw [hv5]; exact hi5)
            obtain ⟨v', W', hrun, hown', hg, hblk⟩ := run_app_row (P := Try.prog) W v6.heap.size 24 24 57 i4 (.agg #[.int .i64 0, .int .i64 0, .int .i64 0, .int .i64 0]) 4 32 Try.underlying24 hI4 hz40 hz41 hz42 rfl (by decide) hi5 (HR2.out.below hb) (fun _ _ => rfl) (by simp only [maxLen]; omega) (by omega) hG.base
            exact wpOp_append (s := 104) (x := 109) (v' := v') (W' := W') rfl rfl rfl s5 s10 hrun (hA _ _ _ _ (by rw [hv5]; exact hg) hown' (by rw [hv5]; exact hblk) (own_ex hown') (fun b h => h))
          | oi + 12, hoi, hom => exact absurd (of_decide_eq_true hom) (by omega)
        case hend =>
          intro listed vs a W hG0 hG hpre
          have hb := ((Below.refl v6.heap.size v6).drew).trans hG0.below
          have hact := hG0.act
          have hT := hG0.lst hpre 0 #[true, true, true, true, true, true, true, true, true, true, true, true, false, false] rfl (by kernel_rfl) (hpre 0 (by decide) (by decide))
          rw [hG0.ix hT (l := [0, 1, 2, 3, 4, 5, 6, 7, 8, 9, 10, 11]) (by kernel_rfl)] at hact
          rw [hG0.lo hT (k := 2) (by kernel_rfl)]
          have p11 := hG.pv 11 (by decide) (live_end hG.size rfl (hpre 11 (by decide) (by decide)))
          clear hpre hG hST
          obtain rfl : a = _ := hact
          subst hT
          obtain ⟨A, cp, hv11, hi11⟩ := p11
          have y3 := (hb.cell (p := ⟨v5.heap.size, 3, none⟩) zg).trans pg3
          have f3 := (hb.frozen (p := ⟨v5.heap.size, 3, none⟩) zg).trans fg3
          simp only [setAll, List.setIfInBounds_toArray, List.set_cons_succ, List.set_cons_zero, List.getD_cons_succ, List.getD_cons_zero]
          refine wpAny_all (rs := [12]) (by kernel_rfl) (by simp) ?_
          intro i2 hi2
          obtain rfl : i2 = 12 := by simpa using hi2
          refine wpOp_value (v := .pointer (some ⟨v5.heap.size, 3, none⟩)) (W' := W) rfl rfl ?_ ?_
          · go_simp
          refine wpAny_all (rs := [13]) (by kernel_rfl) (by simp) ?_
          intro i2 hi2
          obtain rfl : i2 = 13 := by simpa using hi2
          refine wpOp_skip (W' := W.setCell ⟨v5.heap.size, 3, none⟩ (.slice A (ia + (c.lots.length - (ia + 1))) cp)) rfl rfl ?_ ?_
          · rw [hv11]; go_simp
          refine wpAny_done (by kernel_rfl) ?_ _
          exact ⟨rfl, fun q => if q = 12 then .pointer (some ⟨v5.heap.size, 3, none⟩) else vs q, rfl, W, A, cp, rfl, hb, hi11⟩
      case imp =>
      rintro a10 w7 ⟨vs2, rfl, W1, A, cp, rfl, hb1, hown⟩
      simp only [setAll, List.setIfInBounds_toArray, List.set_cons_succ, List.set_cons_zero, List.getD_cons_succ, List.getD_cons_zero]
      rw [less_row _ hia] at hown
      have b0 := (HGB.out.below hb1 zg).store 3 (.slice A (ia + (c.lots.length - (ia + 1))) cp)
      have hk1 : Keep (fun q => q = v5.heap.size) W1 (W1.setCell ⟨v5.heap.size, 3, none⟩ (.slice A (ia + (c.lots.length - (ia + 1))) cp)) := Keep.setCell _ _ _ _ rfl
      have ho := own_kept hown hk1 (fun b hb hS => by omega)
      have hb2 : Below v5.heap.size v5 (W1.setCell ⟨v5.heap.size, 3, none⟩ (.slice A (ia + (c.lots.length - (ia + 1))) cp)) := (HA6.out.trans (hb1.mono (Nat.le_of_lt zg))).setCell (p := ⟨v5.heap.size, 3, none⟩) (Nat.le_refl _) (.slice A (ia + (c.lots.length - (ia + 1))) cp)
      obtain ⟨m1, m2, hr⟩ := row_fun (f := lotsF (c.lots.take ia ++ c.lots.drop (ia + 1))) (m := (ia + (c.lots.length - (ia + 1)))) ho
      have b2 : Blk (W1.setCell ⟨v5.heap.size, 3, none⟩ (.slice A (ia + (c.lots.length - (ia + 1))) cp)) v5.heap.size 27 #[.slice A1 c.heat.length c1, .int .i64 c.gas, .slice A2 c.holds.length c2, .slice A (ia + (c.lots.length - (ia + 1))) cp, .slice none 0 0] := b0
      clear ho hk1 hown hb1 b0 HGB HA6 HR1 HR2 x3 z zg pg3 fg3
      generalize W1.setCell ⟨v5.heap.size, 3, none⟩ (.slice A (ia + (c.lots.length - (ia + 1))) cp) = v7 at *
      have HK := hide (HKB.out.next hb2)
      have HB := hide (HB.out.trans (hb2.mono hs5))
      have hcz : CargoV v7 v7.heap.size (bareC c) A1 A2 (some ⟨b3, o3, none⟩) none c1 c2 c3 0 := HK.out.1
      have hll : (lessC c ia).lots.length = (ia + (c.lots.length - (ia + 1))) := by simp [lessC]; omega
      have HKZ : Hid (BoxC v7 v5.heap.size (lessC c ia) A1 A2 A none c1 c2 cp 0) := hide ⟨⟨hcz.heat, hcz.holds, by rw [hll]; exact hr, Row.nil_, hcz.m1, hcz.m2, by rw [hll]; exact ⟨m1, m2⟩, by simp [lessC, maxLen]⟩, b2.lt, b2.at_ 0, b2.at_ 1, b2.at_ 2, by rw [hll]; exact b2.at_ 3, b2.at_ 4⟩
      clear hcz hll hr m1 m2 b2 hb2 HKB hs5
      obtain ⟨q1, q2, q3, q4⟩ := HAO.out
      have HT1 := hide (fun (W : World) A1 A2 A3 A4 c1 c2 c3 c4 (h : CargoV W W.heap.size (bareC c) A1 A2 A3 A4 c1 c2 c3 c4) => (show Calls Try.prog 18 #[cargoVal (bareC c) A1 A2 A3 A4 c1 c2 c3 c4, .int .i64 ((ib : Nat) : Int)] W fun e w' => e = .returned (.tuple #[.agg #[.int .i64 (nth (turnsR (bareC c) ((ib : Nat) : Int)).1.1 0), .int .i64 (nth (turnsR (bareC c) ((ib : Nat) : Int)).1.1 1)], .int .i64 (turnsR (bareC c) ((ib : Nat) : Int)).1.2, .int .i64 0]) ∧ Below W.heap.size W w' from by have := turnsW_any h ((ib : Nat) : Int); rw [q1] at this; exact this))
      have HT2 := hide (fun (W : World) A1 A2 A3 A4 c1 c2 c3 c4 (h : CargoV W W.heap.size (lessC c ia) A1 A2 A3 A4 c1 c2 c3 c4) => (show Calls Try.prog 18 #[cargoVal (lessC c ia) A1 A2 A3 A4 c1 c2 c3 c4, .int .i64 ((nowI ia ib : Nat) : Int)] W fun e w' => e = .returned (.tuple #[.agg #[.int .i64 (nth (turnsR (lessC c ia) ((nowI ia ib : Nat) : Int)).1.1 0), .int .i64 (nth (turnsR (lessC c ia) ((nowI ia ib : Nat) : Int)).1.1 1)], .int .i64 (turnsR (lessC c ia) ((nowI ia ib : Nat) : Int)).1.2, .int .i64 0]) ∧ Below W.heap.size W w' from by have := turnsW_any h ((nowI ia ib : Nat) : Int); rw [q2] at this; exact this))
      have q3' : laterB (nth (turnsR (lessC c ia) ((nowI ia ib : Nat) : Int)).1.1 0) (nth (turnsR (lessC c ia) ((nowI ia ib : Nat) : Int)).1.1 1) (turnsR (lessC c ia) ((nowI ia ib : Nat) : Int)).1.2 (nth (turnsR (bareC c) ((ib : Nat) : Int)).1.1 0) (nth (turnsR (bareC c) ((ib : Nat) : Int)).1.1 1) (turnsR (bareC c) ((ib : Nat) : Int)).1.2 = true := q3
      have q4' : ¬ ((nth c.lots ia).hold = (nth c.lots ib).hold ∧ 0 < c.gas) → nth (turnsR (bareC c) ((ib : Nat) : Int)).1.1 0 = nth (turnsR (lessC c ia) ((nowI ia ib : Nat) : Int)).1.1 0 ∧ nth (turnsR (bareC c) ((ib : Nat) : Int)).1.1 1 = nth (turnsR (lessC c ia) ((nowI ia ib : Nat) : Int)).1.1 1 ∧ (turnsR (bareC c) ((ib : Nat) : Int)).1.2 = (turnsR (lessC c ia) ((nowI ia ib : Nat) : Int)).1.2 := fun h => by rw [q4 h]; exact ⟨rfl, rfl, rfl⟩
      have hgp := HVD.out.gas.1
      have HQS : Hid (((nth c.lots ia).hold != (nth c.lots ib).hold) = true ∨ (c.gas == 0) = true → nth (turnsR (bareC c) ((ib : Nat) : Int)).1.1 0 = nth (turnsR (lessC c ia) ((nowI ia ib : Nat) : Int)).1.1 0 ∧ nth (turnsR (bareC c) ((ib : Nat) : Int)).1.1 1 = nth (turnsR (lessC c ia) ((nowI ia ib : Nat) : Int)).1.1 1 ∧ (turnsR (bareC c) ((ib : Nat) : Int)).1.2 = (turnsR (lessC c ia) ((nowI ia ib : Nat) : Int)).1.2) := hide (fun h => q4' (fun ⟨h1, h2⟩ => by
        rcases h with h | h
        · exact absurd h1 (by simpa using h)
        · have : c.gas = 0 := by simpa using h
          omega))
      rw [HHO.out, HG0.out] at HQS
      have HHE : Hid (((nth (bareC c).lots ia).hold == (nth (bareC c).lots ib).hold) = !((nth c.lots ia).hold != (nth c.lots ib).hold)) := hide (by simp [bne]; rfl)
      have HGE : Hid (decide ((bareC c).gas > 0) = !(c.gas == 0)) := hide (by
        show decide (c.gas > 0) = !(c.gas == 0)
        by_cases h : c.gas = 0
        · simp [h]
        · have h2 : c.gas > 0 := by omega
          rw [show (c.gas == 0) = false by simpa using h]; simp [h2])
      rw [HHO.out] at HHE
      rw [HG0.out] at HGE
      have hp1z : (ia : Int) < ((bareC c).lots.length : Int) := hp1
      have hp3z : (ib : Int) < ((bareC c).lots.length : Int) := hp3
      have hiaz : ia < (bareC c).lots.length := hia
      have hibz : ib < (bareC c).lots.length := hib
      have HL := hide q3'
      have hnn1 : ia < ib → ((nowI ia ib : Nat) : Int) = (ib : Int) - 1 := fun h => by rw [nowI, if_pos h]; omega
      have hnn2 : ¬ ia < ib → ((nowI ia ib : Nat) : Int) = (ib : Int) := fun h => by rw [nowI, if_neg h]
      clear q1 q2 q3 q3' q4 q4' HAO hgp HHO HG0
      generalize nth (turnsR (bareC c) ((ib : Nat) : Int)).1.1 0 = plo at *
      generalize nth (turnsR (bareC c) ((ib : Nat) : Int)).1.1 1 = phi at *
      generalize (turnsR (bareC c) ((ib : Nat) : Int)).1.2 = m at *
      generalize nth (turnsR (lessC c ia) ((nowI ia ib : Nat) : Int)).1.1 0 = qlo at *
      generalize nth (turnsR (lessC c ia) ((nowI ia ib : Nat) : Int)).1.1 1 = qhi at *
      generalize (turnsR (lessC c ia) ((nowI ia ib : Nat) : Int)).1.2 = n at *
      generalize ((nowI ia ib : Nat) : Int) = nn at *
      generalize bareC c = zc at *
      generalize lessC c ia = zl at *
      have hgt : Try.prog.eqGuardType Try.prog.depth 32 = false := by kernel_rfl
      have hcase : (ia < ib ∧ nn = (ib : Int) - 1) ∨ (¬ ia < ib ∧ nn = (ib : Int)) := by
        by_cases h : ia < ib
        · exact .inl ⟨h, hnn1 h⟩
        · exact .inr ⟨h, hnn2 h⟩
      clear hnn1 hnn2
      rcases hcase with ⟨hlt, rfl⟩ | ⟨hlt, rfl⟩
      all_goals
        have hib0 : (0 : Int) ≤ (ib : Int) := hp2
        have hwb : IntKind.i64.wrap ((ib : Int) - 1) = (ib : Int) - 1 := IntWalk.i64_in _ (by omega)
      all_goals
        obtain ⟨hv, z, x0, x1, x2, x3, x4⟩ := HK.out
        have HV := hide hv
        clear hv
        go_upto_region 17 with (go_at_call 18; refine (HT1.out _ _ _ _ _ _ _ _ _ HV.out).mono ?_; rintro e v8 ⟨rfl, hb⟩)
        have HK := hide (HK.out.next hb)
        have HKZ := hide (HKZ.out.next hb)
        have HB := hide (HB.out.trans (hb.mono (by have := HB.out.size; exact this)))
        clear hb
        clear z x0 x1 x2 x3 x4 HV
        have hb : Below v8.heap.size v8 (v8.alloc (.cells #[.int .i64 plo, .int .i64 phi] 32)) := (Below.refl _ _).alloc (Nat.le_refl _) _
        have HP : Hid (BoxS (v8.alloc (.cells #[.int .i64 plo, .int .i64 phi] 32)) v8.heap.size (plo) (phi)) := hide BoxS.made
        have HK := hide (HK.out.next hb)
        have HKZ := hide (HKZ.out.next hb)
        have HB := hide (HB.out.trans (hb.mono (by have := HB.out.size; exact this)))
        clear hb
        generalize (v8.alloc (.cells #[.int .i64 plo, .int .i64 phi] 32)) = u8 at *
        obtain ⟨hv, z, x0, x1, x2, x3, x4⟩ := HKZ.out
        have HV := hide hv
        clear hv
        go_upto_region 18 with (go_at_call 18; refine (HT2.out _ _ _ _ _ _ _ _ _ HV.out).mono ?_; rintro e v9 ⟨rfl, hb⟩)
        have HK := hide (HK.out.next hb)
        have HKZ := hide (HKZ.out.next hb)
        have HP := hide (HP.out.next hb)
        have HB := hide (HB.out.trans (hb.mono (by have := HB.out.size; exact this)))
        clear hb
        clear z x0 x1 x2 x3 x4 HV
        have hb : Below v9.heap.size v9 (v9.alloc (.cells #[.int .i64 qlo, .int .i64 qhi] 32)) := (Below.refl _ _).alloc (Nat.le_refl _) _
        have HQ : Hid (BoxS (v9.alloc (.cells #[.int .i64 qlo, .int .i64 qhi] 32)) v9.heap.size (qlo) (qhi)) := hide BoxS.made
        have HK := hide (HK.out.next hb)
        have HKZ := hide (HKZ.out.next hb)
        have HP := hide (HP.out.next hb)
        have HB := hide (HB.out.trans (hb.mono (by have := HB.out.size; exact this)))
        clear hb
        generalize (v9.alloc (.cells #[.int .i64 qlo, .int .i64 qhi] 32)) = u9 at *
        obtain ⟨zp, p0, p1⟩ := HP.out
        obtain ⟨zq, q0, q1⟩ := HQ.out
        go_wp2_with (go_at_call 54; refine (later_any _ _ _ _ _ _ _ HL.out).mono ?_; rintro e v10 ⟨rfl, hb⟩)
        have HB := hide (HB.out.trans (hb.mono HB.out.size))
        have HK := hide (HK.out.next hb)
        have HP := hide (HP.out.next hb)
        have HQ := hide (HQ.out.next hb)
        clear hb zp p0 p1 zq q0 q1 HKZ HT1 HT2 hwb
        obtain ⟨hv, z, x0, x1, x2, x3, x4⟩ := HK.out
        obtain ⟨_, _, he3, zb3, la, _⟩ := hv.lots.lots hiaz
        cases he3
        obtain ⟨_, _, he3, _, lb, _⟩ := hv.lots.lots hibz
        cases he3
        clear hv
        obtain ⟨zp, p0, p1⟩ := HP.out
        obtain ⟨zq, q0, q1⟩ := HQ.out
        have hhe := HHE.out
        have hge := HGE.out
        simp only [Bool.not_true, Bool.not_false] at hhe hge
        have HQT := HQS.out
      all_goals try replace HQT := HQT (.inl rfl)
      all_goals try replace HQT := HQT (.inl trivial)
      all_goals try replace HQT := HQT (.inr rfl)
      all_goals try replace HQT := HQT (.inr trivial)
      all_goals
        clear HL
        first | (obtain ⟨h1, h2, h3⟩ := HQT; subst h1; subst h2; subst h3) | skip
        go_wp2_with fail
        refine wp_region_grow (by kernel_rfl) (by kernel_rfl) ?_
        have hgc := @grow_cell
        repeat (first | go_big_quiet_step (((go_at_call 23; exact Calls.grow_of (awake_any _)))) | quiet_step (((go_at_call 23; exact Calls.grow_of (awake_any _)))))
        refine wpQuiet_nil ?_
        rintro _ ⟨t, rfl⟩
        go_wp2_with fail
        go_ret
        exact ⟨rfl, HB.out.trans ((grow_below (w := v10) (t := t)).mono HB.out.size)⟩
theorem turnAlone_any {A1 A2 A3 A4 : Option Addr} {c1 c2 c3 c4 : Nat} {c : Cargo} {w : World} (h : CargoV w w.heap.size c A1 A2 A3 A4 c1 c2 c3 c4) (xa xb : Int) (hw : (0 ≤ xa ∧ xa ≤ 255) ∧ (0 ≤ xb ∧ xb ≤ 255)) :
    Calls Try.prog 14 #[cargoVal c A1 A2 A3 A4 c1 c2 c3 c4, .agg #[.int .u8 xa, .int .u8 xb]] w fun e w' => e = .returned (.bool true) ∧ Below w.heap.size w w' := by
  by_cases hc : someL c = false ∨ c.lots.length < 2
  · exact alone_bad h xa xb hc
  · exact alone_ok_any h xa xb hw.1 hw.2 (by cases hs : someL c with | true => rfl | false => exact absurd (.inl hs) hc) (by omega)
end Go.Proofs.Ytbkknliggnhpcaa
