/- The law TurnOrder: for any cargo, hold and hour the statement's function returns true. -/
import Derived.Test.YtbkknliggnhpcaaRefV
import Derived.Test.YtbkknliggnhpcaaQt
import Derived.Test.YtbkknliggnhpcaaBlk
set_option linter.unusedVariables false
set_option linter.unusedSimpArgs false
namespace Go.Proofs.Ytbkknliggnhpcaa
open Go.RowKit
attribute [local go_sem ↓] Go.wp_at_zero Go.wp_at_succ

theorem Try.infoSeenX : (Try.prog.info? 80).map (fun i => (i.zero, i.size, i.bytes)) = some (some (.agg #[.int .i64 0, .int .i64 0, .bool false]), 3, 24) := by kernel_rfl
theorem seen_oneX (xs : List Seen) (j n : Nat) (_ : j < n) : (seenF xs j).oneCell' = true := by
  unfold seenF
  split <;> rfl
theorem oneX3 (a b : Int) (d : Bool) (j : Nat) (hj : j < 1 * 3) : (([Value.int .i64 a, .int .i64 b, .bool d] : List Value).getD j undef).oneCell' = true := by
  match j, hj with
  | 0, _ => rfl
  | 1, _ => rfl
  | 2, _ => rfl
theorem lots_snocN {xs : List Lot} {n : Nat} (h : xs.length = n) (a b d e : Int) : (List.range (n * 4)).map (lotsF xs) ++ (List.range (1 * 4)).map (fun j => ([Value.int .i64 a, .int .i64 b, .int .i64 d, .int .i64 e] : List Value).getD j undef) = (List.range ((n + 1) * 4)).map (lotsF (xs ++ [⟨a, b, ⟨d, e⟩⟩])) := by
  subst h; exact lots_snoc xs ⟨a, b, ⟨d, e⟩⟩
theorem seen_snocN {xs : List Seen} {n : Nat} (h : xs.length = n) (a b : Int) (d : Bool) : (List.range (n * 3)).map (seenF xs) ++ (List.range (1 * 3)).map (fun j => ([Value.int .i64 a, .int .i64 b, .bool d] : List Value).getD j undef) = (List.range ((n + 1) * 3)).map (seenF (xs ++ [⟨a, b, d⟩])) := by
  subst h
  have ea : ∀ j, j < xs.length * 3 → seenF (xs ++ [⟨a, b, d⟩]) j = seenF xs j := fun j h => by
    have e : nth (xs ++ [⟨a, b, d⟩]) (j / 3) = nth xs (j / 3) := by simp [nth, List.getElem?_append_left (show j / 3 < xs.length by omega)]
    rw [seenF, seenF, e]
  have e : nth (xs ++ [⟨a, b, d⟩]) xs.length = ⟨a, b, d⟩ := by simp [nth]
  rw [range3 xs.length, List.map_append]
  congr 1
  · exact List.map_congr_left fun j hj => (ea j (List.mem_range.1 hj)).symm
  · show _ = [_, _, _]
    rw [seenF, show xs.length * 3 % 3 = 0 by omega, show xs.length * 3 / 3 = xs.length by omega, e, seenF, show (xs.length * 3 + 1) % 3 = 1 by omega, show (xs.length * 3 + 1) / 3 = xs.length by omega, e, seenF, show (xs.length * 3 + 2) % 3 = 2 by omega, show (xs.length * 3 + 2) / 3 = xs.length by omega, e]
    rfl
theorem rev_take {xs : List Lot} {j : Nat} (h : j < xs.length) : xs.reverse.take (j + 1) = xs.reverse.take j ++ [nth xs (xs.length - 1 - j)] := by
  rw [take_nth (by simpa using h), nth_rev h]
theorem seens_take {xs : List Seen} {n j : Nat} (h : j < xs.length) : (xs.map (backS n)).take (j + 1) = (xs.map (backS n)).take j ++ [backS n (nth xs j)] := by
  rw [take_nth (by simpa using h)]
  congr 2
  rw [nth_eq (by simpa using h), nth_eq h, List.getElem_map]
set_option maxHeartbeats 2000000 in
set_option maxRecDepth 100000 in
theorem order_bad {A1 A2 A3 A4 : Option Addr} {c1 c2 c3 c4 : Nat} {c : Cargo} {w : World} (h : CargoV w w.heap.size c A1 A2 A3 A4 c1 c2 c3 c4) (xa xb : Int) (hc : someL c = false) :
    Calls Try.prog 15 #[cargoVal c A1 A2 A3 A4 c1 c2 c3 c4, .agg #[.int .u8 xa, .int .u8 xb]] w fun e w' => e = .returned (.bool true) ∧ Below w.heap.size w w' := by
  have hA1 : Below w.heap.size w (w.alloc (.cells #[.slice A1 c.heat.length c1, .int .i64 c.gas, .slice A2 c.holds.length c2, .slice A3 c.lots.length c3, .slice A4 c.seen.length c4] 27)) := (Below.refl _ _).alloc (Nat.le_refl _) _
  have hA2 : Below (w.alloc (.cells #[.slice A1 c.heat.length c1, .int .i64 c.gas, .slice A2 c.holds.length c2, .slice A3 c.lots.length c3, .slice A4 c.seen.length c4] 27)).heap.size (w.alloc (.cells #[.slice A1 c.heat.length c1, .int .i64 c.gas, .slice A2 c.holds.length c2, .slice A3 c.lots.length c3, .slice A4 c.seen.length c4] 27)) ((w.alloc (.cells #[.slice A1 c.heat.length c1, .int .i64 c.gas, .slice A2 c.holds.length c2, .slice A3 c.lots.length c3, .slice A4 c.seen.length c4] 27)).alloc (.cells #[.int .u8 xa, .int .u8 xb] 82)) := (Below.refl _ _).alloc (Nat.le_refl _) _
  have HK := hide ((BoxC.made h).next hA2)
  have HB := hide (hA1.trans (hA2.mono hA1.size))
  have bx : Blk ((w.alloc (.cells #[.slice A1 c.heat.length c1, .int .i64 c.gas, .slice A2 c.holds.length c2, .slice A3 c.lots.length c3, .slice A4 c.seen.length c4] 27)).alloc (.cells #[.int .u8 xa, .int .u8 xb] 82)) (w.heap.size + 1) 82 #[.int .u8 xa, .int .u8 xb] := Blk.made' (by simp)
  have HXB := hide bx
  clear hA1 hA2 bx
  have HS := hide hc
  clear h hc
  go_enter Try.func15, Try.ntmps15
  go_upto_region 1 with (fail)
  generalize ((w.alloc (.cells #[.slice A1 c.heat.length c1, .int .i64 c.gas, .slice A2 c.holds.length c2, .slice A3 c.lots.length c3, .slice A4 c.seen.length c4] 27)).alloc (.cells #[.int .u8 xa, .int .u8 xb] 82)) = v0 at *
  obtain ⟨hv, z, x0, x1, x2, x3, x4⟩ := HK.out
  have HV := hide hv
  clear hv
  go_wp2_with (first | (go_at_call 51; refine (someL_any HV.out).mono ?_; rintro e v1 ⟨rfl, hb⟩; rw [HS.out]; have HB := hide (HB.out.trans (hb.mono HB.out.size)); have HK := hide (HK.out.next hb); have HXB := hide (HXB.out.next hb); clear hb z x0 x1 x2 x3 x4 HV; obtain ⟨hv, z, x0, x1, x2, x3, x4⟩ := HK.out; have HV := hide hv; clear hv) | (go_at_call 23; refine (awake_any _).mono ?_; rintro e v10 ⟨rfl, hb⟩))
  go_ret
  exact ⟨rfl, HB.out.trans (hb.mono HB.out.size)⟩

set_option maxHeartbeats 12000000 in
set_option maxRecDepth 100000 in
theorem order_ok_any {A1 A2 A3 A4 : Option Addr} {c1 c2 c3 c4 : Nat} {c : Cargo} {w : World} (h : CargoV w w.heap.size c A1 A2 A3 A4 c1 c2 c3 c4) (xa xb : Int) (hxa : 0 ≤ xa ∧ xa ≤ 255) (hxb : 0 ≤ xb ∧ xb ≤ 255) (hs : someL c = true) :
    Calls Try.prog 15 #[cargoVal c A1 A2 A3 A4 c1 c2 c3 c4, .agg #[.int .u8 xa, .int .u8 xb]] w fun e w' => e = .returned (.bool true) ∧ Below w.heap.size w w' := by
  obtain ⟨i4, hI4, hz40, hz41, hz42⟩ := info_parts Try.infoLot
  obtain ⟨i3, hI3, hz30, hz31, hz32⟩ := info_parts Try.infoSeenX
  have hA1 : Below w.heap.size w (w.alloc (.cells #[.slice A1 c.heat.length c1, .int .i64 c.gas, .slice A2 c.holds.length c2, .slice A3 c.lots.length c3, .slice A4 c.seen.length c4] 27)) := (Below.refl _ _).alloc (Nat.le_refl _) _
  have hA2 : Below (w.alloc (.cells #[.slice A1 c.heat.length c1, .int .i64 c.gas, .slice A2 c.holds.length c2, .slice A3 c.lots.length c3, .slice A4 c.seen.length c4] 27)).heap.size (w.alloc (.cells #[.slice A1 c.heat.length c1, .int .i64 c.gas, .slice A2 c.holds.length c2, .slice A3 c.lots.length c3, .slice A4 c.seen.length c4] 27)) ((w.alloc (.cells #[.slice A1 c.heat.length c1, .int .i64 c.gas, .slice A2 c.holds.length c2, .slice A3 c.lots.length c3, .slice A4 c.seen.length c4] 27)).alloc (.cells #[.int .u8 xa, .int .u8 xb] 82)) := (Below.refl _ _).alloc (Nat.le_refl _) _
  have HK := hide ((BoxC.made h).next hA2)
  have HB := hide (hA1.trans (hA2.mono hA1.size))
  have bx : Blk ((w.alloc (.cells #[.slice A1 c.heat.length c1, .int .i64 c.gas, .slice A2 c.holds.length c2, .slice A3 c.lots.length c3, .slice A4 c.seen.length c4] 27)).alloc (.cells #[.int .u8 xa, .int .u8 xb] 82)) (w.heap.size + 1) 82 #[.int .u8 xa, .int .u8 xb] := Blk.made' (by simp)
  have HXB := hide bx
  clear hA1 hA2 bx
  have HS := hide hs
  obtain ⟨hv0, hso⟩ := someL_true hs
  have hl4 := hv0.lots
  have hh8 := hv0.hours
  have hs4 := hv0.seens
  have hhd1 := hv0.holds.1
  have hhd3 := hv0.holds.2
  have HVD := hide hv0
  have HSO := hide hso
  clear h hs hv0 hso
  go_enter Try.func15, Try.ntmps15
  go_upto_region 1 with (fail)
  generalize ((w.alloc (.cells #[.slice A1 c.heat.length c1, .int .i64 c.gas, .slice A2 c.holds.length c2, .slice A3 c.lots.length c3, .slice A4 c.seen.length c4] 27)).alloc (.cells #[.int .u8 xa, .int .u8 xb] 82)) = v0 at *
  obtain ⟨hv, z, x0, x1, x2, x3, x4⟩ := HK.out
  have HV := hide hv
  clear hv
  go_upto_region 3 with (go_at_call 51; refine (someL_any HV.out).mono ?_; rintro e v1 ⟨rfl, hb⟩; rw [HS.out]; have HB := hide (HB.out.trans (hb.mono HB.out.size)); have HK := hide (HK.out.next hb); have HXB := hide (HXB.out.next hb); clear hb z x0 x1 x2 x3 x4 HV; obtain ⟨hv, z, x0, x1, x2, x3, x4⟩ := HK.out; have HV := hide hv; clear hv)
  have hE : v1.heap.size ≤ v1.heap.size := Nat.le_refl _
  go_upto_region 6 with (fail)
  have hb3 : Below v1.heap.size v1 (v1.alloc (.cells #[.slice A1 c.heat.length c1, .int .i64 c.gas, .slice A2 c.holds.length c2, .slice none 0 0, .slice none 0 0] 27)) := (Below.refl _ _).alloc (Nat.le_refl _) _
  have bk3 : Blk (v1.alloc (.cells #[.slice A1 c.heat.length c1, .int .i64 c.gas, .slice A2 c.holds.length c2, .slice none 0 0, .slice none 0 0] 27)) v1.heap.size 27 #[.slice A1 c.heat.length c1, .int .i64 c.gas, .slice A2 c.holds.length c2, .slice none 0 0, .slice none 0 0] := Blk.made
  have HC1 := HV
  have HK1 := HK
  have HXB1 := HXB
  have HB0 := HB
  clear HK HXB HB HV z x0 x1 x2 x3 x4 hE
  generalize (v1.alloc (.cells #[.slice A1 c.heat.length c1, .int .i64 c.gas, .slice A2 c.holds.length c2, .slice none 0 0, .slice none 0 0] 27)) = v3 at *
  have HB1 := hide hb3
  have HBK := hide bk3
  clear hb3 bk3
  obtain ⟨gB, hgB⟩ : ∃ gB : Nat, v1.heap.size = gB := ⟨_, rfl⟩
  rw [hgB] at HBK ⊢
  have HGB : Hid (v1.heap.size ≤ gB) := hide (by omega)
  clear hgB
  have hw1 : IntKind.i64.wrap ((c.lots.length : Int) - 1) = (c.lots.length : Int) - 1 := IntWalk.i64_in _ (by omega)
  go_wp2_with fail
  clear hw1
  go_loopw [7] (fun v7 wr => ∃ (j : Nat) (A : Option Addr) (cp : Nat), j ≤ c.lots.length ∧ v7 = .int .i64 ((c.lots.length : Int) - 1 - (j : Int)) ∧ Hid (Below v1.heap.size v1 wr) ∧ Hid (Blk wr gB 27 #[.slice A1 c.heat.length c1, .int .i64 c.gas, .slice A2 c.holds.length c2, .slice A j cp, .slice none 0 0]) ∧ Hid (j ≤ cp ∧ cp ≤ maxLen ∧ Row wr wr.heap.size A (j * 4) (lotsF (c.lots.reverse.take j))) ∧ Hid (∀ b o, A = some ⟨b, o, none⟩ → 0 < j → b ≠ gB)) (fun v7 _ => (intOf v7 + 1).toNat)
  case atStart => exact ⟨0, none, 0, Nat.zero_le _, by simp, HB1, HBK, hide ⟨Nat.le_refl _, by simp [maxLen], Row.nil_⟩, hide (fun b o e => by cases e)⟩
  case round =>
    clear HB1 HBK
    obtain ⟨j, AL, cL, hj, rfl, HB1, HBK, HRW, HAL⟩ := hrel
    have hj0 : (0 : Int) ≤ (j : Int) := Int.natCast_nonneg _
    by_cases hlj : j < c.lots.length
    · have hj1 : (j : Int) < (c.lots.length : Int) := by omega
      obtain ⟨ix, hix⟩ : ∃ ix : Nat, (c.lots.length : Int) - 1 - (j : Int) = (ix : Int) := ⟨c.lots.length - 1 - j, by omega⟩
      rw [hix]
      have hxl : ix < c.lots.length := by omega
      have hx0 : (0 : Int) ≤ (ix : Int) := Int.natCast_nonneg _
      have hx1 : (ix : Int) < (c.lots.length : Int) := by omega
      have hcw : CargoV wr wr.heap.size c A1 A2 A3 A4 c1 c2 c3 c4 := HC1.out.next HB1.out
      obtain ⟨b3, o3, hA3, zb3, s0, s1, s2, s3⟩ := hcw.lots.lots hxl
      subst hA3
      clear hcw
      have HK := hide (HK1.out.next HB1.out)
      obtain ⟨hv, z, x0, x1, x2, x3, x4⟩ := HK.out
      clear hv HK
      obtain ⟨n5, n6, n7⟩ := HRW.out
      have HRW := hide n7
      have hjc : j ≤ maxLen := Nat.le_trans n5 n6
      clear n5 n6 n7
      have HLJ : Hid ((c.lots.reverse.take j).length = j) := hide (by simp; omega)
      have HLT := hide (rev_take hlj)
      have hxe : c.lots.length - 1 - j = ix := by omega
      rw [hxe, show nth c.lots ix = ⟨(nth c.lots ix).hold, (nth c.lots ix).frm, ⟨(nth c.lots ix).green.lo, (nth c.lots ix).green.hi⟩⟩ from rfl] at HLT
      clear hxe
      generalize (nth c.lots ix).hold = hd at *
      generalize (nth c.lots ix).frm = fr at *
      generalize (nth c.lots ix).green.lo = lo at *
      generalize (nth c.lots ix).green.hi = hi at *
      generalize c.lots.reverse.take j = LJ at *
      have pg3 : wr.cell? ⟨gB, 3, none⟩ = some (.slice AL j cL) := HBK.out.at_ 3
      have fg3 := HBK.out.free 3
      have zg := HBK.out.lt
      have HIX := hide hix
      clear hix
      go_wp2_with fail
      refine wp_post0 (fun act0 a W => ∃ vs : Nat → Value, a = { tmps := setAll (fun oi => [47, 48, 49, 50, 51, 52, 53, 54, 55, 56, 57, 58, 0].getD oi 0) vs [0, 1, 2, 3, 4, 5, 6, 7, 8, 9, 10, 11] act0.tmps, defers := act0.defers } ∧ ∃ (W1 : World) (A : Option Addr) (cp : Nat), W = W1.setCell ⟨gB, 3, none⟩ (.slice A (j + 1) cp) ∧ Below wr.heap.size wr W1 ∧ W1.ownsRow wr.heap.size 57 4 (.slice A (j + 1) cp) (j + 1) ((List.range ((j + 1) * 4)).map (lotsF (LJ ++ [⟨hd, fr, ⟨lo, hi⟩⟩])))) ?reg ?imp
      case reg =>
        have hST : Stab wr.heap.size (fun oi v W => match oi with | 0 => ∃ A cp, v = .slice A 0 cp ∧ W.ownsRow wr.heap.size 57 4 (.slice A 0 cp) 0 ([]) | 1 => v = .pointer (some ⟨gB, 3, none⟩) | 2 => v = .slice AL j cL | 3 => ∃ A cp, v = .slice A j cp ∧ W.ownsRow wr.heap.size 57 4 (.slice A j cp) j ((List.range (j * 4)).map (lotsF LJ)) | 4 => v = .pointer (some ⟨w.heap.size, 3, none⟩) | 5 => v = .slice (some ⟨b3, o3, none⟩) c.lots.length c3 | 6 => v = .int .i64 ix | 7 => v = .pointer (some ⟨b3, o3 + ix * 4, none⟩) | 8 => v = .agg #[.int .i64 hd, .int .i64 fr, .int .i64 lo, .int .i64 hi] | 9 => ∃ A cp, v = .slice A 1 cp ∧ W.ownsRow wr.heap.size 57 4 (.slice A 1 cp) 1 ([.int .i64 hd, .int .i64 fr, .int .i64 lo, .int .i64 hi]) | 10 => ∃ A cp, v = .slice A (j + 1) cp ∧ W.ownsRow wr.heap.size 57 4 (.slice A (j + 1) cp) (j + 1) ((List.range ((j + 1) * 4)).map (lotsF (LJ ++ [⟨hd, fr, ⟨lo, hi⟩⟩]))) | _ => True) (fun oi v b => match oi with | 0 => v.ownBlock = some b | 3 => v.ownBlock = some b | 9 => v.ownBlock = some b | 10 => v.ownBlock = some b | _ => False) := by
          intro oi v W W' h hbs hz hk
          match oi, h, hk with
          | 0, h, hk => obtain ⟨A, cp, rfl, h2⟩ := h; exact ⟨A, cp, rfl, own_stab h2 (fun b hb e => hk b hb (.inr e))⟩
          | 1, h, hk => exact h
          | 2, h, hk => exact h
          | 3, h, hk => obtain ⟨A, cp, rfl, h2⟩ := h; exact ⟨A, cp, rfl, own_stab h2 (fun b hb e => hk b hb (.inr e))⟩
          | 4, h, hk => exact h
          | 5, h, hk => exact h
          | 6, h, hk => exact h
          | 7, h, hk => exact h
          | 8, h, hk => exact h
          | 9, h, hk => obtain ⟨A, cp, rfl, h2⟩ := h; exact ⟨A, cp, rfl, own_stab h2 (fun b hb e => hk b hb (.inr e))⟩
          | 10, h, hk => obtain ⟨A, cp, rfl, h2⟩ := h; exact ⟨A, cp, rfl, own_stab h2 (fun b hb e => hk b hb (.inr e))⟩
          | oi + 11, h, hk => exact trivial
        refine wp_region_inv (dst := fun oi => [47, 48, 49, 50, 51, 52, 53, 54, 55, 56, 57, 58, 0].getD oi 0) (mono := fun oi => decide (oi < 11)) (pre := fun oi => decide (oi < 11)) (G := Loose 13 wr.heap.size (fun oi => match oi with | 0 => 3 | 3 => 10 | _ => 13) (fun oi v W => match oi with | 0 => ∃ A cp, v = .slice A 0 cp ∧ W.ownsRow wr.heap.size 57 4 (.slice A 0 cp) 0 ([]) | 1 => v = .pointer (some ⟨gB, 3, none⟩) | 2 => v = .slice AL j cL | 3 => ∃ A cp, v = .slice A j cp ∧ W.ownsRow wr.heap.size 57 4 (.slice A j cp) j ((List.range (j * 4)).map (lotsF LJ)) | 4 => v = .pointer (some ⟨w.heap.size, 3, none⟩) | 5 => v = .slice (some ⟨b3, o3, none⟩) c.lots.length c3 | 6 => v = .int .i64 ix | 7 => v = .pointer (some ⟨b3, o3 + ix * 4, none⟩) | 8 => v = .agg #[.int .i64 hd, .int .i64 fr, .int .i64 lo, .int .i64 hi] | 9 => ∃ A cp, v = .slice A 1 cp ∧ W.ownsRow wr.heap.size 57 4 (.slice A 1 cp) 1 ([.int .i64 hd, .int .i64 fr, .int .i64 lo, .int .i64 hi]) | 10 => ∃ A cp, v = .slice A (j + 1) cp ∧ W.ownsRow wr.heap.size 57 4 (.slice A (j + 1) cp) (j + 1) ((List.range ((j + 1) * 4)).map (lotsF (LJ ++ [⟨hd, fr, ⟨lo, hi⟩⟩]))) | _ => True) (fun oi v b => match oi with | 0 => v.ownBlock = some b | 3 => v.ownBlock = some b | 9 => v.ownBlock = some b | 10 => v.ownBlock = some b | _ => False)) (by kernel_rfl) (by kernel_rfl) (Loose.start (Nat.le_refl _)) ?hstep ?hend
        case hstep =>
          intro oi hoi hom listed vs a W hU hsz hG hcl hl haft K hK
          have hb := ((Below.refl wr.heap.size wr).drew).trans hU.below
          have hF := Loose.stepF hU hG hST hoi hK
          match oi, hoi, hom with
          | 0, hoi, hom =>
            refine wpOp_value (v := .slice (some ⟨W.heap.size, 0, none⟩) 0 0) (W' := (W.alloc (.cells #[] 57))) rfl rfl ?_ (hF _ _ ((Below.refl _ _).alloc (Nat.le_refl _) _) (own_lit hG.base #[] 0 rfl (by simp [maxLen])) (fun b h => by rw [← own_new h]; exact ⟨by simp, .inl (Nat.le_refl _)⟩))
            go_simp
          | 1, hoi, hom =>
            have z6 : a.tmps[6]?.getD undef = .pointer (some ⟨gB, 0, none⟩) := hU.same 6 (by decide)
            refine wpOp_value (v := .pointer (some ⟨gB, 3, none⟩)) (W' := W) rfl rfl ?_ (hF _ _ (Below.refl _ _) rfl (fun _ h => False.elim h))
            go_simp
          | 2, hoi, hom =>
            have l1 := haft _ rfl { on := 1, ground := .data } (by simp) rfl
            have p1 := hG.pv 1 (by decide) (live_end hsz rfl l1)
            have s1 : a.tmps[48]?.getD undef = vs 1 := hU.slot 1 (by decide) l1
            have hv1 : vs 1 = .pointer (some ⟨gB, 3, none⟩) := p1
            rw [hv1] at s1
            have y0 := (hb.cell (p := ⟨gB, 3, none⟩) (zg)).trans (pg3)
            refine wpOp_value (v := .slice AL j cL) (W' := W) rfl rfl ?_ (hF _ _ (Below.refl _ _) rfl (fun _ h => False.elim h))
            go_simp
          | 3, hoi, hom =>
            have l0 := haft _ rfl { on := 0, ground := .data } (by simp) rfl
            have p0 := hG.pv 0 (by decide) (⟨l0, hl⟩)
            have s0 : a.tmps[47]?.getD undef = vs 0 := hU.slot 0 (by decide) l0
            obtain ⟨PA0, kp0, hv0, hi0⟩ := p0
            rw [hv0] at s0
            have l2 := haft _ rfl { on := 2, ground := .data } (by simp) rfl
            have p2 := hG.pv 2 (by decide) (live_end hsz rfl l2)
            have s2 : a.tmps[49]?.getD undef = vs 2 := hU.slot 2 (by decide) l2
            have hv2 : vs 2 = .slice AL j cL := p2
            rw [hv2] at s2
            have hA := Loose.stepA (p := 0) hU hG rfl hST hoi hK (by decide) (by decide) rfl ⟨l0, hl⟩ (fun b h => h) (by rw [hv0]; exact hi0)
            obtain ⟨v', W', hrun, hown', hg, hblk⟩ := run_app_row (P := Try.prog) W wr.heap.size 24 24 57 i4 (.agg #[.int .i64 0, .int .i64 0, .int .i64 0, .int .i64 0]) 4 32 Try.underlying24 hI4 hz40 hz41 hz42 rfl (by decide) hi0 (HRW.out.below hb) (fun _ _ => rfl) (by simp only [maxLen]; omega) (by omega) hG.base
            rw [Nat.zero_add, List.nil_append] at hown'
            exact wpOp_append (s := 47) (x := 49) (v' := v') (W' := W') rfl rfl rfl s0 s2 hrun (hA _ _ _ _ (by rw [hv0]; exact hg) hown' (by rw [hv0]; exact hblk) (own_ex hown') (fun b h => h))
          | 4, hoi, hom =>
            have z2 : a.tmps[2]?.getD undef = .pointer (some ⟨w.heap.size, 0, none⟩) := hU.same 2 (by decide)
            refine wpOp_value (v := .pointer (some ⟨w.heap.size, 3, none⟩)) (W' := W) rfl rfl ?_ (hF _ _ (Below.refl _ _) rfl (fun _ h => False.elim h))
            go_simp
          | 5, hoi, hom =>
            have l4 := haft _ rfl { on := 4, ground := .data } (by simp) rfl
            have p4 := hG.pv 4 (by decide) (live_end hsz rfl l4)
            have s4 : a.tmps[51]?.getD undef = vs 4 := hU.slot 4 (by decide) l4
            have hv4 : vs 4 = .pointer (some ⟨w.heap.size, 3, none⟩) := p4
            rw [hv4] at s4
            have y0 := (hb.cell (p := ⟨w.heap.size, 3, none⟩) (z)).trans (x3)
            refine wpOp_value (v := .slice (some ⟨b3, o3, none⟩) c.lots.length c3) (W' := W) rfl rfl ?_ (hF _ _ (Below.refl _ _) rfl (fun _ h => False.elim h))
            go_simp
          | 6, hoi, hom =>
            have z7 : a.tmps[7]?.getD undef = .int .i64 ix := hU.same 7 (by decide)
            refine wpOp_value (v := .int .i64 ix) (W' := W) rfl rfl ?_ (hF _ _ (Below.refl _ _) rfl (fun _ h => False.elim h))
            go_simp
          | 7, hoi, hom =>
            have l5 := haft _ rfl { on := 5, ground := .data } (by simp) rfl
            have p5 := hG.pv 5 (by decide) (live_end hsz rfl l5)
            have s5 : a.tmps[52]?.getD undef = vs 5 := hU.slot 5 (by decide) l5
            have hv5 : vs 5 = .slice (some ⟨b3, o3, none⟩) c.lots.length c3 := p5
            rw [hv5] at s5
            have l6 := haft _ rfl { on := 6, ground := .data } (by simp) rfl
            have p6 := hG.pv 6 (by decide) (live_end hsz rfl l6)
            have s6 : a.tmps[53]?.getD undef = vs 6 := hU.slot 6 (by decide) l6
            have hv6 : vs 6 = .int .i64 ix := p6
            rw [hv6] at s6
            refine wpOp_value (v := .pointer (some ⟨b3, o3 + ix * 4, none⟩)) (W' := W) rfl rfl ?_ (hF _ _ (Below.refl _ _) rfl (fun _ h => False.elim h))
            go_simp
          | 8, hoi, hom =>
            have l7 := haft _ rfl { on := 7, ground := .data } (by simp) rfl
            have p7 := hG.pv 7 (by decide) (live_end hsz rfl l7)
            have s7 : a.tmps[54]?.getD undef = vs 7 := hU.slot 7 (by decide) l7
            have hv7 : vs 7 = .pointer (some ⟨b3, o3 + ix * 4, none⟩) := p7
            rw [hv7] at s7
            have y0 := (hb.cell (p := ⟨b3, o3 + ix * 4, none⟩) (zb3)).trans (s0)
            have y1 := (hb.cell (p := ⟨b3, o3 + ix * 4 + 1, none⟩) (zb3)).trans (s1)
            have y2 := (hb.cell (p := ⟨b3, o3 + ix * 4 + 2, none⟩) (zb3)).trans (s2)
            have y3 := (hb.cell (p := ⟨b3, o3 + ix * 4 + 3, none⟩) (zb3)).trans (s3)
            refine wpOp_value (v := .agg #[.int .i64 hd, .int .i64 fr, .int .i64 lo, .int .i64 hi]) (W' := W) rfl rfl ?_ (hF _ _ (Below.refl _ _) rfl (fun _ h => False.elim h))
            go_simp
          | 9, hoi, hom =>
            have l8 := haft _ rfl { on := 8, ground := .data } (by simp) rfl
            have p8 := hG.pv 8 (by decide) (live_end hsz rfl l8)
            have s8 : a.tmps[55]?.getD undef = vs 8 := hU.slot 8 (by decide) l8
            have hv8 : vs 8 = .agg #[.int .i64 hd, .int .i64 fr, .int .i64 lo, .int .i64 hi] := p8
            rw [hv8] at s8
            refine wpOp_value (v := .slice (some ⟨W.heap.size, 0, none⟩) 1 1) (W' := (W.alloc (.cells #[.int .i64 hd, .int .i64 fr, .int .i64 lo, .int .i64 hi] 57))) rfl rfl ?_ (hF _ _ ((Below.refl _ _).alloc (Nat.le_refl _) _) (own_lit hG.base #[.int .i64 hd, .int .i64 fr, .int .i64 lo, .int .i64 hi] 1 rfl (by simp [maxLen])) (fun b h => by rw [← own_new h]; exact ⟨by simp, .inl (Nat.le_refl _)⟩))
            go_simp
          | 10, hoi, hom =>
            have l3 := haft _ rfl { on := 3, ground := .data } (by simp) rfl
            have p3 := hG.pv 3 (by decide) (⟨l3, hl⟩)
            have s3 : a.tmps[50]?.getD undef = vs 3 := hU.slot 3 (by decide) l3
            obtain ⟨PA3, kp3, hv3, hi3⟩ := p3
            rw [hv3] at s3
            have l9 := haft _ rfl { on := 9, ground := .data } (by simp) rfl
            have p9 := hG.pv 9 (by decide) (live_end hsz rfl l9)
            have s9 : a.tmps[56]?.getD undef = vs 9 := hU.slot 9 (by decide) l9
            obtain ⟨PA9, kp9, hv9, hi9⟩ := p9
            rw [hv9] at s9
            obtain ⟨_, _, e9, _, _, hr9⟩ := row_own hi9
            obtain ⟨rfl, rfl⟩ : _ = PA9 ∧ _ = kp9 := by simp only [Value.slice.injEq, true_and] at e9; exact ⟨e9.1.symm, e9.2.symm⟩
            have hA := Loose.stepA (p := 3) hU hG rfl hST hoi hK (by decide) (by decide) rfl ⟨l3, hl⟩ (fun b h => h) (by rw [hv3]; exact hi3)
            obtain ⟨v', W', hrun, hown', hg, hblk⟩ := run_app_row (P := Try.prog) W wr.heap.size 24 24 57 i4 (.agg #[.int .i64 0, .int .i64 0, .int .i64 0, .int .i64 0]) 4 32 Try.underlying24 hI4 hz40 hz41 hz42 rfl (by decide) hi3 hr9 (one4 _ _ _ _) (by simp only [maxLen]; omega) (by omega) hG.base
            rw [lots_snocN HLJ.out] at hown'
            exact wpOp_append (s := 50) (x := 56) (v' := v') (W' := W') rfl rfl rfl s3 s9 hrun (hA _ _ _ _ (by rw [hv3]; exact hg) hown' (by rw [hv3]; exact hblk) (own_ex hown') (fun b h => h))
          | oi + 11, hoi, hom => exact absurd (of_decide_eq_true hom) (by omega)
        case hend =>
          intro listed vs a W hG0 hG hpre
          have hb := ((Below.refl wr.heap.size wr).drew).trans hG0.below
          have hact := hG0.act
          have hT := hG0.lst hpre 0 #[true, true, true, true, true, true, true, true, true, true, true, false, false] rfl (by kernel_rfl) (hpre 0 (by decide) (by decide))
          rw [hG0.ix hT (l := [0, 1, 2, 3, 4, 5, 6, 7, 8, 9, 10]) (by kernel_rfl)] at hact
          rw [hG0.lo hT (k := 2) (by kernel_rfl)]
          have p10 := hG.pv 10 (by decide) (live_end hG.size rfl (hpre 10 (by decide) (by decide)))
          clear hpre hG hST
          obtain rfl : a = _ := hact
          subst hT
          obtain ⟨A, cp, hv10, hi10⟩ := p10
          have y4 := (hb.cell (p := ⟨gB, 3, none⟩) zg).trans pg3
          have f4 := (hb.frozen (p := ⟨gB, 3, none⟩) zg).trans fg3
          simp only [setAll, List.setIfInBounds_toArray, List.set_cons_succ, List.set_cons_zero, List.getD_cons_succ, List.getD_cons_zero]
          refine wpAny_all (rs := [11]) (by kernel_rfl) (by simp) ?_
          intro i2 hi2
          obtain rfl : i2 = 11 := by simpa using hi2
          refine wpOp_value (v := .pointer (some ⟨gB, 3, none⟩)) (W' := W) rfl rfl ?_ ?_
          · go_simp
          refine wpAny_all (rs := [12]) (by kernel_rfl) (by simp) ?_
          intro i2 hi2
          obtain rfl : i2 = 12 := by simpa using hi2
          refine wpOp_skip (W' := W.setCell ⟨gB, 3, none⟩ (.slice A (j + 1) cp)) rfl rfl ?_ ?_
          · rw [hv10]; go_simp
          refine wpAny_done (by kernel_rfl) ?_ _
          exact ⟨rfl, fun q => if q = 11 then .pointer (some ⟨gB, 3, none⟩) else vs q, rfl, W, A, cp, rfl, hb, hi10⟩
      case imp =>
      rintro a9 w2 ⟨vs, rfl, W1, A, cp, rfl, hb1, hown⟩
      simp only [setAll, List.setIfInBounds_toArray, List.set_cons_succ, List.set_cons_zero, List.getD_cons_succ, List.getD_cons_zero]
      have b0 := (HBK.out.next hb1).store 3 (.slice A (j + 1) cp)
      have hk1 : Keep (fun q => q = gB) W1 (W1.setCell ⟨gB, 3, none⟩ (.slice A (j + 1) cp)) := Keep.setCell _ _ _ _ rfl
      have ho := own_kept hown hk1 (fun b hb hS => by omega)
      have hal : ∀ b o, A = some ⟨b, o, none⟩ → 0 < j + 1 → b ≠ gB := fun b o e _ hS => by
        have h1 : (Value.slice A (j + 1) cp).ownBlock = some b := by rw [e]; rfl
        have := (hown.lt b h1).1
        omega
      have hb2 := (HB1.out.trans (hb1.mono HB1.out.size)).setCell (p := ⟨gB, 3, none⟩) HGB.out (.slice A (j + 1) cp)
      obtain ⟨m1, m2, hr5⟩ := row_fun ho
      have b2 : Blk (W1.setCell ⟨gB, 3, none⟩ (.slice A (j + 1) cp)) gB 27 #[.slice A1 c.heat.length c1, .int .i64 c.gas, .slice A2 c.holds.length c2, .slice A (j + 1) cp, .slice none 0 0] := b0
      clear ho hk1 hown hb1 b0 HB1 HBK HRW pg3 fg3 zg z x0 x1 x2 x3 x4 s0 s1 s2 s3
      generalize W1.setCell ⟨gB, 3, none⟩ (.slice A (j + 1) cp) = w3 at *
      go_wp2_with fail
      go_roundw
      case rel => exact ⟨j + 1, A, cp, by omega, by rw [show (c.lots.length : Int) - 1 - ((j + 1 : Nat) : Int) = (ix : Int) - 1 by have := HIX.out; omega], hide hb2, hide b2, hide ⟨m1, m2, by rw [HLT.out]; exact hr5⟩, hide hal⟩
      case measure => have := HIX.out; simp [intOf] <;> omega
    · have hj2 : (c.lots.length : Int) - 1 - (j : Int) = -1 := by omega
      rw [hj2]
      clear hj2
      have hjj : j = c.lots.length := by omega
      subst hjj
      obtain ⟨n5, n6, n7⟩ := HRW.out
      rw [List.take_of_length_le (by simp)] at n7
      have HML := hide (And.intro n5 n6)
      have HRL := hide n7
      have HAL := hide (HAL.out)
      clear n5 n6 n7 HRW
      have HK := hide (HK1.out.next HB1.out)
      obtain ⟨hv, z, x0, x1, x2, x3, x4⟩ := HK.out
      clear hv
      go_wp2_with fail
      clear z x0 x1 x2 x3 x4 HK
      go_loopw [8, 9] (fun v8 _ wr => ∃ (j : Nat) (A : Option Addr) (cp : Nat), j ≤ c.seen.length ∧ v8 = .int .i64 j ∧ Hid (Below v1.heap.size v1 wr) ∧ Hid (Blk wr gB 27 #[.slice A1 c.heat.length c1, .int .i64 c.gas, .slice A2 c.holds.length c2, .slice AL c.lots.length cL, .slice A j cp]) ∧ Hid (Row wr wr.heap.size AL (c.lots.length * 4) (lotsF c.lots.reverse)) ∧ Hid (j ≤ cp ∧ cp ≤ maxLen ∧ Row wr wr.heap.size A (j * 3) (seenF ((c.seen.map (backS c.lots.length)).take j)))) (fun v8 _ _ => c.seen.length - (intOf v8).toNat)
      case atStart => exact ⟨0, none, 0, Nat.zero_le _, rfl, HB1, HBK, HRL, hide ⟨Nat.le_refl _, by simp [maxLen], Row.nil_⟩⟩
      case round =>
        clear HB1 HBK HRL
        obtain ⟨j, AS, cS, hj, rfl, HB1, HBK, HRL, HRS⟩ := hrel
        obtain ⟨wr2, hwr2⟩ : ∃ wr2 : World, wr2 = wr := ⟨_, rfl⟩
        subst hwr2
        have hj0 : (0 : Int) ≤ (j : Int) := Int.natCast_nonneg _
        have HK := hide (HK1.out.next HB1.out)
        obtain ⟨hv, z, x0, x1, x2, x3, x4⟩ := HK.out
        clear hv
        by_cases hlj : j < c.seen.length
        · clear z x0 x1 x2 x3 x4 HK
          have hj1 : (j : Int) < (c.seen.length : Int) := by omega
          have hcw : CargoV wr2 wr2.heap.size c A1 A2 A3 A4 c1 c2 c3 c4 := HC1.out.next HB1.out
          obtain ⟨b4, o4, hA4, zb4, s0, s1, s2⟩ := hcw.seen.seen hlj
          subst hA4
          clear hcw
          have HK := hide (HK1.out.next HB1.out)
          obtain ⟨hv, z, x0, x1, x2, x3, x4⟩ := HK.out
          clear hv
          have hsn := HVD.out.seen j hlj
          have HBS := hide (show backS c.lots.length (nth c.seen j) = ⟨(c.lots.length : Int) - 1 - (nth c.seen j).lot, (nth c.seen j).hour, (nth c.seen j).turned⟩ from rfl)
          generalize (nth c.seen j).lot = lq at *
          generalize (nth c.seen j).hour = hr at *
          generalize (nth c.seen j).turned = tu at *
          go_upto_region 14 with (fail)
          have hbn : Below wr2.heap.size wr2 (wr2.alloc (.cells #[.int .i64 lq, .int .i64 hr, .bool tu] 80)) := (Below.refl _ _).alloc (Nat.le_refl _) _
          have bn : Blk (wr2.alloc (.cells #[.int .i64 lq, .int .i64 hr, .bool tu] 80)) wr2.heap.size 80 #[.int .i64 lq, .int .i64 hr, .bool tu] := Blk.made
          clear s0 s1 s2 z x0 x1 x2 x3 x4 zb4
          generalize (wr2.alloc (.cells #[.int .i64 lq, .int .i64 hr, .bool tu] 80)) = wq at *
          have s0 : wq.cell? ⟨wr2.heap.size, 0, none⟩ = some (.int .i64 lq) := bn.at_ 0
          have f0 := bn.free 0
          have hw1 : IntKind.i64.wrap ((c.lots.length : Int) - 1) = (c.lots.length : Int) - 1 := IntWalk.i64_in _ (by omega)
          have hw2 : IntKind.i64.wrap ((c.lots.length : Int) - 1 - lq) = (c.lots.length : Int) - 1 - lq := IntWalk.i64_in _ (by omega)
          go_upto_region 15 with (fail)
          generalize (c.lots.length : Int) - 1 - lq = lt at *
          have bn2 : Blk (wq.setCell ⟨wr2.heap.size, 0, none⟩ (.int .i64 lt)) wr2.heap.size 80 #[.int .i64 lt, .int .i64 hr, .bool tu] := bn.store 0 _
          have hbw : Below wr2.heap.size wr2 (wq.setCell ⟨wr2.heap.size, 0, none⟩ (.int .i64 lt)) := hbn.setCell (p := ⟨wr2.heap.size, 0, none⟩) (Nat.le_refl _) _
          clear bn hbn s0 f0 hw1 hw2
          generalize (wq.setCell ⟨wr2.heap.size, 0, none⟩ (.int .i64 lt)) = wa at *
          have s0 : wa.cell? ⟨wr2.heap.size, 0, none⟩ = some (.int .i64 lt) := bn2.at_ 0
          have s1 : wa.cell? ⟨wr2.heap.size, 1, none⟩ = some (.int .i64 hr) := bn2.at_ 1
          have s2 : wa.cell? ⟨wr2.heap.size, 2, none⟩ = some (.bool tu) := bn2.at_ 2
          have zs := bn2.lt
          have HBK := hide (HBK.out.next hbw)
          have HB1 := hide (HB1.out.trans (hbw.mono HB1.out.size))
          have HRL := hide ((HRL.out.below hbw).more hbw.size)
          obtain ⟨n5, n6, n7⟩ := HRS.out
          have HRS := hide ((n7.below hbw).more hbw.size)
          have hjc : j ≤ maxLen := Nat.le_trans n5 n6
          clear n5 n6 n7 hbw
          have HSJ : Hid (((c.seen.map (backS c.lots.length)).take j).length = j) := hide (by simp; omega)
          have HST := hide (seens_take (n := c.lots.length) hlj)
          rw [HBS.out] at HST
          generalize (c.seen.map (backS c.lots.length)).take j = SJ at *
          have pg4 : wa.cell? ⟨gB, 4, none⟩ = some (.slice AS j cS) := HBK.out.at_ 4
          have fg4 := HBK.out.free 4
          have zg := HBK.out.lt
          refine wp_post0 (fun act0 a W => ∃ vs : Nat → Value, a = { tmps := setAll (fun oi => [77, 78, 79, 80, 81, 82, 83, 84, 0].getD oi 0) vs [0, 1, 2, 3, 4, 5, 6, 7] act0.tmps, defers := act0.defers } ∧ ∃ (W1 : World) (A : Option Addr) (cp : Nat), W = W1.setCell ⟨gB, 4, none⟩ (.slice A (j + 1) cp) ∧ Below wa.heap.size wa W1 ∧ W1.ownsRow wa.heap.size 80 3 (.slice A (j + 1) cp) (j + 1) ((List.range ((j + 1) * 3)).map (seenF (SJ ++ [⟨lt, hr, tu⟩])))) ?reg ?imp
          case reg =>
            have hST : Stab wa.heap.size (fun oi v W => match oi with | 0 => ∃ A cp, v = .slice A 0 cp ∧ W.ownsRow wa.heap.size 80 3 (.slice A 0 cp) 0 ([]) | 1 => v = .pointer (some ⟨gB, 4, none⟩) | 2 => v = .slice AS j cS | 3 => ∃ A cp, v = .slice A j cp ∧ W.ownsRow wa.heap.size 80 3 (.slice A j cp) j ((List.range (j * 3)).map (seenF SJ)) | 4 => v = .agg #[.int .i64 lt, .int .i64 hr, .bool tu] | 5 => ∃ A cp, v = .slice A 1 cp ∧ W.ownsRow wa.heap.size 80 3 (.slice A 1 cp) 1 ([.int .i64 lt, .int .i64 hr, .bool tu]) | 6 => ∃ A cp, v = .slice A (j + 1) cp ∧ W.ownsRow wa.heap.size 80 3 (.slice A (j + 1) cp) (j + 1) ((List.range ((j + 1) * 3)).map (seenF (SJ ++ [⟨lt, hr, tu⟩]))) | _ => True) (fun oi v b => match oi with | 0 => v.ownBlock = some b | 3 => v.ownBlock = some b | 5 => v.ownBlock = some b | 6 => v.ownBlock = some b | _ => False) := by
              intro oi v W W' h hbs hz hk
              match oi, h, hk with
              | 0, h, hk => obtain ⟨A, cp, rfl, h2⟩ := h; exact ⟨A, cp, rfl, own_stab h2 (fun b hb e => hk b hb (.inr e))⟩
              | 1, h, hk => exact h
              | 2, h, hk => exact h
              | 3, h, hk => obtain ⟨A, cp, rfl, h2⟩ := h; exact ⟨A, cp, rfl, own_stab h2 (fun b hb e => hk b hb (.inr e))⟩
              | 4, h, hk => exact h
              | 5, h, hk => obtain ⟨A, cp, rfl, h2⟩ := h; exact ⟨A, cp, rfl, own_stab h2 (fun b hb e => hk b hb (.inr e))⟩
              | 6, h, hk => obtain ⟨A, cp, rfl, h2⟩ := h; exact ⟨A, cp, rfl, own_stab h2 (fun b hb e => hk b hb (.inr e))⟩
              | oi + 7, h, hk => exact trivial
            refine wp_region_inv (dst := fun oi => [77, 78, 79, 80, 81, 82, 83, 84, 0].getD oi 0) (mono := fun oi => decide (oi < 7)) (pre := fun oi => decide (oi < 7)) (G := Loose 9 wa.heap.size (fun oi => match oi with | 0 => 3 | 3 => 6 | _ => 9) (fun oi v W => match oi with | 0 => ∃ A cp, v = .slice A 0 cp ∧ W.ownsRow wa.heap.size 80 3 (.slice A 0 cp) 0 ([]) | 1 => v = .pointer (some ⟨gB, 4, none⟩) | 2 => v = .slice AS j cS | 3 => ∃ A cp, v = .slice A j cp ∧ W.ownsRow wa.heap.size 80 3 (.slice A j cp) j ((List.range (j * 3)).map (seenF SJ)) | 4 => v = .agg #[.int .i64 lt, .int .i64 hr, .bool tu] | 5 => ∃ A cp, v = .slice A 1 cp ∧ W.ownsRow wa.heap.size 80 3 (.slice A 1 cp) 1 ([.int .i64 lt, .int .i64 hr, .bool tu]) | 6 => ∃ A cp, v = .slice A (j + 1) cp ∧ W.ownsRow wa.heap.size 80 3 (.slice A (j + 1) cp) (j + 1) ((List.range ((j + 1) * 3)).map (seenF (SJ ++ [⟨lt, hr, tu⟩]))) | _ => True) (fun oi v b => match oi with | 0 => v.ownBlock = some b | 3 => v.ownBlock = some b | 5 => v.ownBlock = some b | 6 => v.ownBlock = some b | _ => False)) (by kernel_rfl) (by kernel_rfl) (Loose.start (Nat.le_refl _)) ?hstep ?hend
            case hstep =>
              intro oi hoi hom listed vs a W hU hsz hG hcl hl haft K hK
              have hb := ((Below.refl wa.heap.size wa).drew).trans hU.below
              have hF := Loose.stepF hU hG hST hoi hK
              match oi, hoi, hom with
              | 0, hoi, hom =>
                refine wpOp_value (v := .slice (some ⟨W.heap.size, 0, none⟩) 0 0) (W' := (W.alloc (.cells #[] 80))) rfl rfl ?_ (hF _ _ ((Below.refl _ _).alloc (Nat.le_refl _) _) (own_lit hG.base #[] 0 rfl (by simp [maxLen])) (fun b h => by rw [← own_new h]; exact ⟨by simp, .inl (Nat.le_refl _)⟩))
                go_simp
              | 1, hoi, hom =>
                have z6 : a.tmps[6]?.getD undef = .pointer (some ⟨gB, 0, none⟩) := hU.same 6 (by decide)
                refine wpOp_value (v := .pointer (some ⟨gB, 4, none⟩)) (W' := W) rfl rfl ?_ (hF _ _ (Below.refl _ _) rfl (fun _ h => False.elim h))
                go_simp
              | 2, hoi, hom =>
                have l1 := haft _ rfl { on := 1, ground := .data } (by simp) rfl
                have p1 := hG.pv 1 (by decide) (live_end hsz rfl l1)
                have s1 : a.tmps[78]?.getD undef = vs 1 := hU.slot 1 (by decide) l1
                have hv1 : vs 1 = .pointer (some ⟨gB, 4, none⟩) := p1
                rw [hv1] at s1
                have y0 := (hb.cell (p := ⟨gB, 4, none⟩) (zg)).trans (pg4)
                refine wpOp_value (v := .slice AS j cS) (W' := W) rfl rfl ?_ (hF _ _ (Below.refl _ _) rfl (fun _ h => False.elim h))
                go_simp
              | 3, hoi, hom =>
                have l0 := haft _ rfl { on := 0, ground := .data } (by simp) rfl
                have p0 := hG.pv 0 (by decide) (⟨l0, hl⟩)
                have s0 : a.tmps[77]?.getD undef = vs 0 := hU.slot 0 (by decide) l0
                obtain ⟨PA0, kp0, hv0, hi0⟩ := p0
                rw [hv0] at s0
                have l2 := haft _ rfl { on := 2, ground := .data } (by simp) rfl
                have p2 := hG.pv 2 (by decide) (live_end hsz rfl l2)
                have s2 : a.tmps[79]?.getD undef = vs 2 := hU.slot 2 (by decide) l2
                have hv2 : vs 2 = .slice AS j cS := p2
                rw [hv2] at s2
                have hA := Loose.stepA (p := 0) hU hG rfl hST hoi hK (by decide) (by decide) rfl ⟨l0, hl⟩ (fun b h => h) (by rw [hv0]; exact hi0)
                obtain ⟨v', W', hrun, hown', hg, hblk⟩ := run_app_row (P := Try.prog) W wa.heap.size 25 25 80 i3 (.agg #[.int .i64 0, .int .i64 0, .bool false]) 3 24 Try.underlying25 hI3 hz30 hz31 hz32 rfl (by decide) hi0 (HRS.out.below hb) (fun q h => seen_oneX _ q _ h) (by simp only [maxLen]; omega) (by omega) hG.base
                rw [Nat.zero_add, List.nil_append] at hown'
                exact wpOp_append (s := 77) (x := 79) (v' := v') (W' := W') rfl rfl rfl s0 s2 hrun (hA _ _ _ _ (by rw [hv0]; exact hg) hown' (by rw [hv0]; exact hblk) (own_ex hown') (fun b h => h))
              | 4, hoi, hom =>
                have z9 : a.tmps[9]?.getD undef = .pointer (some ⟨wr2.heap.size, 0, none⟩) := hU.same 9 (by decide)
                have y0 := (hb.cell (p := ⟨wr2.heap.size, 0, none⟩) (zs)).trans (s0)
                have y1 := (hb.cell (p := ⟨wr2.heap.size, 1, none⟩) (zs)).trans (s1)
                have y2 := (hb.cell (p := ⟨wr2.heap.size, 2, none⟩) (zs)).trans (s2)
                refine wpOp_value (v := .agg #[.int .i64 lt, .int .i64 hr, .bool tu]) (W' := W) rfl rfl ?_ (hF _ _ (Below.refl _ _) rfl (fun _ h => False.elim h))
                go_simp
              | 5, hoi, hom =>
                have l4 := haft _ rfl { on := 4, ground := .data } (by simp) rfl
                have p4 := hG.pv 4 (by decide) (live_end hsz rfl l4)
                have s4 : a.tmps[81]?.getD undef = vs 4 := hU.slot 4 (by decide) l4
                have hv4 : vs 4 = .agg #[.int .i64 lt, .int .i64 hr, .bool tu] := p4
                rw [hv4] at s4
                refine wpOp_value (v := .slice (some ⟨W.heap.size, 0, none⟩) 1 1) (W' := (W.alloc (.cells #[.int .i64 lt, .int .i64 hr, .bool tu] 80))) rfl rfl ?_ (hF _ _ ((Below.refl _ _).alloc (Nat.le_refl _) _) (own_lit hG.base #[.int .i64 lt, .int .i64 hr, .bool tu] 1 rfl (by simp [maxLen])) (fun b h => by rw [← own_new h]; exact ⟨by simp, .inl (Nat.le_refl _)⟩))
                go_simp
              | 6, hoi, hom =>
                have l3 := haft _ rfl { on := 3, ground := .data } (by simp) rfl
                have p3 := hG.pv 3 (by decide) (⟨l3, hl⟩)
                have s3 : a.tmps[80]?.getD undef = vs 3 := hU.slot 3 (by decide) l3
                obtain ⟨PA3, kp3, hv3, hi3⟩ := p3
                rw [hv3] at s3
                have l5 := haft _ rfl { on := 5, ground := .data } (by simp) rfl
                have p5 := hG.pv 5 (by decide) (live_end hsz rfl l5)
                have s5 : a.tmps[82]?.getD undef = vs 5 := hU.slot 5 (by decide) l5
                obtain ⟨PA5, kp5, hv5, hi5⟩ := p5
                rw [hv5] at s5
                obtain ⟨_, _, e5, _, _, hr5⟩ := row_own hi5
                obtain ⟨rfl, rfl⟩ : _ = PA5 ∧ _ = kp5 := by simp only [Value.slice.injEq, true_and] at e5; exact ⟨e5.1.symm, e5.2.symm⟩
                have hA := Loose.stepA (p := 3) hU hG rfl hST hoi hK (by decide) (by decide) rfl ⟨l3, hl⟩ (fun b h => h) (by rw [hv3]; exact hi3)
                obtain ⟨v', W', hrun, hown', hg, hblk⟩ := run_app_row (P := Try.prog) W wa.heap.size 25 25 80 i3 (.agg #[.int .i64 0, .int .i64 0, .bool false]) 3 24 Try.underlying25 hI3 hz30 hz31 hz32 rfl (by decide) hi3 hr5 (oneX3 _ _ _) (by simp only [maxLen]; omega) (by omega) hG.base
                rw [seen_snocN HSJ.out] at hown'
                exact wpOp_append (s := 80) (x := 82) (v' := v') (W' := W') rfl rfl rfl s3 s5 hrun (hA _ _ _ _ (by rw [hv3]; exact hg) hown' (by rw [hv3]; exact hblk) (own_ex hown') (fun b h => h))
              | oi + 7, hoi, hom => exact absurd (of_decide_eq_true hom) (by omega)
            case hend =>
              intro listed vs a W hG0 hG hpre
              have hb := ((Below.refl wa.heap.size wa).drew).trans hG0.below
              have hact := hG0.act
              have hT := hG0.lst hpre 0 #[true, true, true, true, true, true, true, false, false] rfl (by kernel_rfl) (hpre 0 (by decide) (by decide))
              rw [hG0.ix hT (l := [0, 1, 2, 3, 4, 5, 6]) (by kernel_rfl)] at hact
              rw [hG0.lo hT (k := 2) (by kernel_rfl)]
              have p6 := hG.pv 6 (by decide) (live_end hG.size rfl (hpre 6 (by decide) (by decide)))
              clear hpre hG hST
              obtain rfl : a = _ := hact
              subst hT
              obtain ⟨A, cp, hv6, hi6⟩ := p6
              have y4 := (hb.cell (p := ⟨gB, 4, none⟩) zg).trans pg4
              have f4 := (hb.frozen (p := ⟨gB, 4, none⟩) zg).trans fg4
              simp only [setAll, List.setIfInBounds_toArray, List.set_cons_succ, List.set_cons_zero, List.getD_cons_succ, List.getD_cons_zero]
              refine wpAny_all (rs := [7]) (by kernel_rfl) (by simp) ?_
              intro i2 hi2
              obtain rfl : i2 = 7 := by simpa using hi2
              refine wpOp_value (v := .pointer (some ⟨gB, 4, none⟩)) (W' := W) rfl rfl ?_ ?_
              · go_simp
              refine wpAny_all (rs := [8]) (by kernel_rfl) (by simp) ?_
              intro i2 hi2
              obtain rfl : i2 = 8 := by simpa using hi2
              refine wpOp_skip (W' := W.setCell ⟨gB, 4, none⟩ (.slice A (j + 1) cp)) rfl rfl ?_ ?_
              · rw [hv6]; go_simp
              refine wpAny_done (by kernel_rfl) ?_ _
              exact ⟨rfl, fun q => if q = 7 then .pointer (some ⟨gB, 4, none⟩) else vs q, rfl, W, A, cp, rfl, hb, hi6⟩
          case imp =>
          rintro a9 w2 ⟨vs, rfl, W1, A, cp, rfl, hb1, hown⟩
          simp only [setAll, List.setIfInBounds_toArray, List.set_cons_succ, List.set_cons_zero, List.getD_cons_succ, List.getD_cons_zero]
          have b0 := (HBK.out.next hb1).store 4 (.slice A (j + 1) cp)
          have hk1 : Keep (fun q => q = gB) W1 (W1.setCell ⟨gB, 4, none⟩ (.slice A (j + 1) cp)) := Keep.setCell _ _ _ _ rfl
          have ho := own_kept hown hk1 (fun b hb hS => by omega)
          have hb2 := (HB1.out.trans (hb1.mono HB1.out.size)).setCell (p := ⟨gB, 4, none⟩) HGB.out (.slice A (j + 1) cp)
          obtain ⟨m1, m2, hr5⟩ := row_fun ho
          have hrl : Row (W1.setCell ⟨gB, 4, none⟩ (.slice A (j + 1) cp)) (W1.setCell ⟨gB, 4, none⟩ (.slice A (j + 1) cp)).heap.size AL (c.lots.length * 4) (lotsF c.lots.reverse) := Row.stab ((HRL.out.below hb1).more hb1.size) (by simp) (fun b o hb e hn => Below.heap_setCell _ ⟨gB, 4, none⟩ _ b (HAL.out b o e (by omega)))
          have b2 : Blk (W1.setCell ⟨gB, 4, none⟩ (.slice A (j + 1) cp)) gB 27 #[.slice A1 c.heat.length c1, .int .i64 c.gas, .slice A2 c.holds.length c2, .slice AL c.lots.length cL, .slice A (j + 1) cp] := b0
          clear ho hk1 hown hb1 b0 HB1 HBK HRS HRL pg4 fg4 zg s0 s1 s2 zs
          generalize W1.setCell ⟨gB, 4, none⟩ (.slice A (j + 1) cp) = w3 at *
          go_wp2_with fail
          go_roundw
          case rel => exact ⟨j + 1, A, cp, by omega, by go_num, hide hb2, hide b2, hide hrl, hide ⟨m1, m2, by rw [HST.out]; exact hr5⟩⟩
          case measure => simp [intOf]; omega
        · clear z x0 x1 x2 x3 x4 HK
          have hjj : j = c.seen.length := by omega
          subst hjj
          have hcw : CargoV wr2 wr2.heap.size c A1 A2 A3 A4 c1 c2 c3 c4 := HC1.out.next HB1.out
          have hbn := HBK.out
          have hll : (backC c).lots.length = c.lots.length := by simp [backC]
          have hsl : (backC c).seen.length = c.seen.length := by simp [backC]
          obtain ⟨n5, n6, n7⟩ := HRS.out
          rw [List.take_of_length_le (by simp)] at n7
          have HKZ : Hid (BoxC wr2 gB (backC c) A1 A2 AL AS c1 c2 cL cS) := hide ⟨⟨hcw.heat, hcw.holds, by rw [hll]; exact HRL.out, by rw [hsl]; exact n7, hcw.m1, hcw.m2, by rw [hll]; exact HML.out, by rw [hsl]; exact ⟨n5, n6⟩⟩, hbn.lt, hbn.at_ 0, hbn.at_ 1, hbn.at_ 2, by rw [hll]; exact hbn.at_ 3, by rw [hsl]; exact hbn.at_ 4⟩
          have HK := hide (HK1.out.next HB1.out)
          have HXB := hide (HXB1.out.next HB1.out)
          have HB := hide (HB0.out.trans (HB1.out.mono HB0.out.size))
          clear hcw hbn hll hsl n5 n6 n7 HRS HRL HML HBK HB1 HB0 HK1 HXB1 HC1
          obtain ⟨wr3, hwr3⟩ : ∃ wr3 : World, wr3 = wr2 := ⟨_, rfl⟩
          subst hwr3
          obtain ⟨hv, z, x0, x1, x2, x3, x4⟩ := HK.out
          clear hv
          have yx0 : wr3.cell? ⟨w.heap.size + 1, 0, none⟩ = some (.int .u8 xa) := HXB.out.at_ 0
          have yx1 : wr3.cell? ⟨w.heap.size + 1, 1, none⟩ = some (.int .u8 xb) := HXB.out.at_ 1
          have zx : w.heap.size + 1 < wr3.heap.size := HXB.out.lt
          have hp0 := Int.emod_nonneg xa (show (c.holds.length : Int) ≠ 0 by omega)
          have hp1 := Int.emod_lt_of_pos xa (show 0 < (c.holds.length : Int) by omega)
          have hp2 := Int.emod_nonneg xb (show ((c.heat.length : Int) + 1) ≠ 0 by omega)
          have hp3 := Int.emod_lt_of_pos xb (show 0 < ((c.heat.length : Int) + 1) by omega)
          have hm1 : xa.tmod (c.holds.length : Int) = xa % (c.holds.length : Int) := Int.tmod_eq_emod_of_nonneg hxa.1
          have hm2 : xb.tmod ((c.heat.length : Int) + 1) = xb % ((c.heat.length : Int) + 1) := Int.tmod_eq_emod_of_nonneg hxb.1
          have hz1 : (((c.heat.length : Int) + 1) == 0) = false := by rw [beq_eq_false_iff_ne]; omega
          have hz2 : ((c.heat.length : Int) + 1) ≠ 0 := by omega
          have hz3 : ((c.holds.length : Int) == 0) = false := by rw [beq_eq_false_iff_ne]; omega
          have hz4 : (c.holds.length : Int) ≠ 0 := by omega
          have hz5 : ¬ c.holds = [] := fun h => by rw [h] at hhd1; simp at hhd1
          have hw1 : IntKind.i64.wrap ((c.heat.length : Int) + 1) = ((c.heat.length : Int) + 1) := IntWalk.i64_in _ (by omega)
          have hw2 : IntKind.i64.wrap (xb % ((c.heat.length : Int) + 1)) = xb % ((c.heat.length : Int) + 1) := IntWalk.i64_in _ (by omega)
          have hw3 : IntKind.i64.wrap (xa % (c.holds.length : Int)) = xa % (c.holds.length : Int) := IntWalk.i64_in _ (by omega)
          have hw4 : IntKind.i64.wrap xa = xa := IntWalk.i64_in _ (by omega)
          have hw5 : IntKind.i64.wrap xb = xb := IntWalk.i64_in _ (by omega)
          go_upto_region 16 with (fail)
          refine wp_post0 (fun act0 a W => ∃ vs : Nat → Value, a = { tmps := setAll (fun oi => [85, 86, 87, 88, 89, 90, 91, 92, 93, 94, 95, 96, 97, 98, 99, 10, 11].getD oi 0) vs [0, 1, 2, 3, 4, 5, 6, 7, 8, 9, 10, 11, 12, 13, 14, 15, 16] act0.tmps, defers := act0.defers } ∧ Below wr3.heap.size wr3 W ∧ vs 15 = .int .i64 (xa % (c.holds.length : Int)) ∧ vs 16 = .int .i64 (xb % ((c.heat.length : Int) + 1))) ?regY ?impY
          case regY =>
            have hST : Stab wr3.heap.size (fun oi v W => match oi with | 0 => v = .pointer (some ⟨w.heap.size + 1, 0, none⟩) | 1 => v = .int .u8 xa | 2 => v = .int .i64 xa | 3 => v = .pointer (some ⟨w.heap.size, 2, none⟩) | 4 => v = .slice A2 c.holds.length c2 | 5 => v = .int .i64 (c.holds.length : Nat) | 6 => v = .int .i64 (xa % (c.holds.length : Int)) | 7 => v = .pointer (some ⟨w.heap.size + 1, 1, none⟩) | 8 => v = .int .u8 xb | 9 => v = .int .i64 xb | 10 => v = .pointer (some ⟨w.heap.size, 0, none⟩) | 11 => v = .slice A1 c.heat.length c1 | 12 => v = .int .i64 (c.heat.length : Nat) | 13 => v = .int .i64 ((c.heat.length : Int) + 1) | 14 => v = .int .i64 (xb % ((c.heat.length : Int) + 1)) | 15 => v = .int .i64 (xa % (c.holds.length : Int)) | 16 => v = .int .i64 (xb % ((c.heat.length : Int) + 1)) | _ => True) (fun oi v b => match oi with  | _ => False) := by
              intro oi v W W' h hbs hz hk
              match oi, h, hk with
              | 0, h, hk => exact h
              | 1, h, hk => exact h
              | 2, h, hk => exact h
              | 3, h, hk => exact h
              | 4, h, hk => exact h
              | 5, h, hk => exact h
              | 6, h, hk => exact h
              | 7, h, hk => exact h
              | 8, h, hk => exact h
              | 9, h, hk => exact h
              | 10, h, hk => exact h
              | 11, h, hk => exact h
              | 12, h, hk => exact h
              | 13, h, hk => exact h
              | 14, h, hk => exact h
              | 15, h, hk => exact h
              | 16, h, hk => exact h
              | oi + 17, h, hk => exact trivial
            refine wp_region_inv (dst := fun oi => [85, 86, 87, 88, 89, 90, 91, 92, 93, 94, 95, 96, 97, 98, 99, 10, 11].getD oi 0) (mono := fun oi => decide (oi < 17)) (pre := fun oi => decide (oi < 17)) (G := Loose 17 wr3.heap.size (fun oi => match oi with  | _ => 17) (fun oi v W => match oi with | 0 => v = .pointer (some ⟨w.heap.size + 1, 0, none⟩) | 1 => v = .int .u8 xa | 2 => v = .int .i64 xa | 3 => v = .pointer (some ⟨w.heap.size, 2, none⟩) | 4 => v = .slice A2 c.holds.length c2 | 5 => v = .int .i64 (c.holds.length : Nat) | 6 => v = .int .i64 (xa % (c.holds.length : Int)) | 7 => v = .pointer (some ⟨w.heap.size + 1, 1, none⟩) | 8 => v = .int .u8 xb | 9 => v = .int .i64 xb | 10 => v = .pointer (some ⟨w.heap.size, 0, none⟩) | 11 => v = .slice A1 c.heat.length c1 | 12 => v = .int .i64 (c.heat.length : Nat) | 13 => v = .int .i64 ((c.heat.length : Int) + 1) | 14 => v = .int .i64 (xb % ((c.heat.length : Int) + 1)) | 15 => v = .int .i64 (xa % (c.holds.length : Int)) | 16 => v = .int .i64 (xb % ((c.heat.length : Int) + 1)) | _ => True) (fun oi v b => match oi with  | _ => False)) (by kernel_rfl) (by kernel_rfl) (Loose.start (Nat.le_refl _)) ?hstepY ?hendY
            case hstepY =>
              intro oi hoi hom listed vs a W hU hsz hG hcl hl haft K hK
              have hb := ((Below.refl wr3.heap.size wr3).drew).trans hU.below
              have hF := Loose.stepF hU hG hST hoi hK
              match oi, hoi, hom with
              | 0, hoi, hom =>
                have z3 : a.tmps[3]?.getD undef = .pointer (some ⟨w.heap.size + 1, 0, none⟩) := hU.same 3 (by decide)
                refine wpOp_value (v := .pointer (some ⟨w.heap.size + 1, 0, none⟩)) (W' := W) rfl rfl ?_ (hF _ _ (Below.refl _ _) rfl (fun _ h => False.elim h))
                go_simp
              | 1, hoi, hom =>
                have l0 := haft _ rfl { on := 0, ground := .data } (by simp) rfl
                have p0 := hG.pv 0 (by decide) (live_end hsz rfl l0)
                have s0 : a.tmps[85]?.getD undef = vs 0 := hU.slot 0 (by decide) l0
                have hv0 : vs 0 = .pointer (some ⟨w.heap.size + 1, 0, none⟩) := p0
                rw [hv0] at s0
                have y0 := (hb.cell (p := ⟨w.heap.size + 1, 0, none⟩) (zx)).trans (yx0)
                refine wpOp_value (v := .int .u8 xa) (W' := W) rfl rfl ?_ (hF _ _ (Below.refl _ _) rfl (fun _ h => False.elim h))
                go_simp
              | 2, hoi, hom =>
                have l1 := haft _ rfl { on := 1, ground := .data } (by simp) rfl
                have p1 := hG.pv 1 (by decide) (live_end hsz rfl l1)
                have s1 : a.tmps[86]?.getD undef = vs 1 := hU.slot 1 (by decide) l1
                have hv1 : vs 1 = .int .u8 xa := p1
                rw [hv1] at s1
                refine wpOp_value (v := .int .i64 xa) (W' := W) rfl rfl ?_ (hF _ _ (Below.refl _ _) rfl (fun _ h => False.elim h))
                go_simp
              | 3, hoi, hom =>
                have z2 : a.tmps[2]?.getD undef = .pointer (some ⟨w.heap.size, 0, none⟩) := hU.same 2 (by decide)
                refine wpOp_value (v := .pointer (some ⟨w.heap.size, 2, none⟩)) (W' := W) rfl rfl ?_ (hF _ _ (Below.refl _ _) rfl (fun _ h => False.elim h))
                go_simp
              | 4, hoi, hom =>
                have l3 := haft _ rfl { on := 3, ground := .data } (by simp) rfl
                have p3 := hG.pv 3 (by decide) (live_end hsz rfl l3)
                have s3 : a.tmps[88]?.getD undef = vs 3 := hU.slot 3 (by decide) l3
                have hv3 : vs 3 = .pointer (some ⟨w.heap.size, 2, none⟩) := p3
                rw [hv3] at s3
                have y0 := (hb.cell (p := ⟨w.heap.size, 2, none⟩) (z)).trans (x2)
                refine wpOp_value (v := .slice A2 c.holds.length c2) (W' := W) rfl rfl ?_ (hF _ _ (Below.refl _ _) rfl (fun _ h => False.elim h))
                go_simp
              | 5, hoi, hom =>
                have l4 := haft _ rfl { on := 4, ground := .data } (by simp) rfl
                have p4 := hG.pv 4 (by decide) (live_end hsz rfl l4)
                have s4 : a.tmps[89]?.getD undef = vs 4 := hU.slot 4 (by decide) l4
                have hv4 : vs 4 = .slice A2 c.holds.length c2 := p4
                rw [hv4] at s4
                refine wpOp_value (v := .int .i64 (c.holds.length : Nat)) (W' := W) rfl rfl ?_ (hF _ _ (Below.refl _ _) rfl (fun _ h => False.elim h))
                go_simp
              | 6, hoi, hom =>
                have l2 := haft _ rfl { on := 2, ground := .data } (by simp) rfl
                have p2 := hG.pv 2 (by decide) (live_end hsz rfl l2)
                have s2 : a.tmps[87]?.getD undef = vs 2 := hU.slot 2 (by decide) l2
                have hv2 : vs 2 = .int .i64 xa := p2
                rw [hv2] at s2
                have l5 := haft _ rfl { on := 5, ground := .data } (by simp) rfl
                have p5 := hG.pv 5 (by decide) (live_end hsz rfl l5)
                have s5 : a.tmps[90]?.getD undef = vs 5 := hU.slot 5 (by decide) l5
                have hv5 : vs 5 = .int .i64 (c.holds.length : Nat) := p5
                rw [hv5] at s5
                refine wpOp_value (v := .int .i64 (xa % (c.holds.length : Int))) (W' := W) rfl rfl ?_ (hF _ _ (Below.refl _ _) rfl (fun _ h => False.elim h))
                go_simp
              | 7, hoi, hom =>
                have z3 : a.tmps[3]?.getD undef = .pointer (some ⟨w.heap.size + 1, 0, none⟩) := hU.same 3 (by decide)
                refine wpOp_value (v := .pointer (some ⟨w.heap.size + 1, 1, none⟩)) (W' := W) rfl rfl ?_ (hF _ _ (Below.refl _ _) rfl (fun _ h => False.elim h))
                go_simp
              | 8, hoi, hom =>
                have l7 := haft _ rfl { on := 7, ground := .data } (by simp) rfl
                have p7 := hG.pv 7 (by decide) (live_end hsz rfl l7)
                have s7 : a.tmps[92]?.getD undef = vs 7 := hU.slot 7 (by decide) l7
                have hv7 : vs 7 = .pointer (some ⟨w.heap.size + 1, 1, none⟩) := p7
                rw [hv7] at s7
                have y0 := (hb.cell (p := ⟨w.heap.size + 1, 1, none⟩) (zx)).trans (yx1)
                refine wpOp_value (v := .int .u8 xb) (W' := W) rfl rfl ?_ (hF _ _ (Below.refl _ _) rfl (fun _ h => False.elim h))
                go_simp
              | 9, hoi, hom =>
                have l8 := haft _ rfl { on := 8, ground := .data } (by simp) rfl
                have p8 := hG.pv 8 (by decide) (live_end hsz rfl l8)
                have s8 : a.tmps[93]?.getD undef = vs 8 := hU.slot 8 (by decide) l8
                have hv8 : vs 8 = .int .u8 xb := p8
                rw [hv8] at s8
                refine wpOp_value (v := .int .i64 xb) (W' := W) rfl rfl ?_ (hF _ _ (Below.refl _ _) rfl (fun _ h => False.elim h))
                go_simp
              | 10, hoi, hom =>
                have z2 : a.tmps[2]?.getD undef = .pointer (some ⟨w.heap.size, 0, none⟩) := hU.same 2 (by decide)
                refine wpOp_value (v := .pointer (some ⟨w.heap.size, 0, none⟩)) (W' := W) rfl rfl ?_ (hF _ _ (Below.refl _ _) rfl (fun _ h => False.elim h))
                go_simp
              | 11, hoi, hom =>
                have l10 := haft _ rfl { on := 10, ground := .data } (by simp) rfl
                have p10 := hG.pv 10 (by decide) (live_end hsz rfl l10)
                have s10 : a.tmps[95]?.getD undef = vs 10 := hU.slot 10 (by decide) l10
                have hv10 : vs 10 = .pointer (some ⟨w.heap.size, 0, none⟩) := p10
                rw [hv10] at s10
                have y0 := (hb.cell (p := ⟨w.heap.size, 0, none⟩) (z)).trans (x0)
                refine wpOp_value (v := .slice A1 c.heat.length c1) (W' := W) rfl rfl ?_ (hF _ _ (Below.refl _ _) rfl (fun _ h => False.elim h))
                go_simp
              | 12, hoi, hom =>
                have l11 := haft _ rfl { on := 11, ground := .data } (by simp) rfl
                have p11 := hG.pv 11 (by decide) (live_end hsz rfl l11)
                have s11 : a.tmps[96]?.getD undef = vs 11 := hU.slot 11 (by decide) l11
                have hv11 : vs 11 = .slice A1 c.heat.length c1 := p11
                rw [hv11] at s11
                refine wpOp_value (v := .int .i64 (c.heat.length : Nat)) (W' := W) rfl rfl ?_ (hF _ _ (Below.refl _ _) rfl (fun _ h => False.elim h))
                go_simp
              | 13, hoi, hom =>
                have l12 := haft _ rfl { on := 12, ground := .data } (by simp) rfl
                have p12 := hG.pv 12 (by decide) (live_end hsz rfl l12)
                have s12 : a.tmps[97]?.getD undef = vs 12 := hU.slot 12 (by decide) l12
                have hv12 : vs 12 = .int .i64 (c.heat.length : Nat) := p12
                rw [hv12] at s12
                refine wpOp_value (v := .int .i64 ((c.heat.length : Int) + 1)) (W' := W) rfl rfl ?_ (hF _ _ (Below.refl _ _) rfl (fun _ h => False.elim h))
                go_simp
              | 14, hoi, hom =>
                have l9 := haft _ rfl { on := 9, ground := .data } (by simp) rfl
                have p9 := hG.pv 9 (by decide) (live_end hsz rfl l9)
                have s9 : a.tmps[94]?.getD undef = vs 9 := hU.slot 9 (by decide) l9
                have hv9 : vs 9 = .int .i64 xb := p9
                rw [hv9] at s9
                have l13 := haft _ rfl { on := 13, ground := .data } (by simp) rfl
                have p13 := hG.pv 13 (by decide) (live_end hsz rfl l13)
                have s13 : a.tmps[98]?.getD undef = vs 13 := hU.slot 13 (by decide) l13
                have hv13 : vs 13 = .int .i64 ((c.heat.length : Int) + 1) := p13
                rw [hv13] at s13
                refine wpOp_value (v := .int .i64 (xb % ((c.heat.length : Int) + 1))) (W' := W) rfl rfl ?_ (hF _ _ (Below.refl _ _) rfl (fun _ h => False.elim h))
                go_simp
              | 15, hoi, hom =>
                have l6 := haft _ rfl { on := 6, ground := .data } (by simp) rfl
                have p6 := hG.pv 6 (by decide) (live_end hsz rfl l6)
                have s6 : a.tmps[91]?.getD undef = vs 6 := hU.slot 6 (by decide) l6
                have hv6 : vs 6 = .int .i64 (xa % (c.holds.length : Int)) := p6
                rw [hv6] at s6
                refine wpOp_value (v := .int .i64 (xa % (c.holds.length : Int))) (W' := W) rfl rfl ?_ (hF _ _ (Below.refl _ _) rfl (fun _ h => False.elim h))
                go_simp
              | 16, hoi, hom =>
                have l14 := haft _ rfl { on := 14, ground := .data } (by simp) rfl
                have p14 := hG.pv 14 (by decide) (live_end hsz rfl l14)
                have s14 : a.tmps[99]?.getD undef = vs 14 := hU.slot 14 (by decide) l14
                have hv14 : vs 14 = .int .i64 (xb % ((c.heat.length : Int) + 1)) := p14
                rw [hv14] at s14
                refine wpOp_value (v := .int .i64 (xb % ((c.heat.length : Int) + 1))) (W' := W) rfl rfl ?_ (hF _ _ (Below.refl _ _) rfl (fun _ h => False.elim h))
                go_simp
              | oi + 17, hoi, hom => exact absurd (of_decide_eq_true hom) (by omega)
            case hendY =>
              intro listed vs a W hG0 hG hpre
              have hb := ((Below.refl wr3.heap.size wr3).drew).trans hG0.below
              have hact := hG0.act
              have hT := hG0.lst hpre 0 #[true, true, true, true, true, true, true, true, true, true, true, true, true, true, true, true, true] rfl (by kernel_rfl) (hpre 0 (by decide) (by decide))
              rw [hG0.ix hT (l := [0, 1, 2, 3, 4, 5, 6, 7, 8, 9, 10, 11, 12, 13, 14, 15, 16]) (by kernel_rfl)] at hact
              rw [hG0.lo hT (k := 0) (by kernel_rfl)]
              have p15 := hG.pv 15 (by decide) (live_end hG.size rfl (hpre 15 (by decide) (by decide)))
              have p16 := hG.pv 16 (by decide) (live_end hG.size rfl (hpre 16 (by decide) (by decide)))
              subst hT
              refine wpAny_done (by kernel_rfl) ?_ _
              exact ⟨rfl, vs, hact, hb, p15, p16⟩
          case impY =>
          rintro a9 u0 ⟨vs, rfl, hb, hv15, hv16⟩
          simp only [setAll, List.setIfInBounds_toArray, List.set_cons_succ, List.set_cons_zero, List.getD_cons_succ, List.getD_cons_zero]
          rw [hv15, hv16]
          have HK := hide (HK.out.next hb)
          have HKZ := hide (HKZ.out.next hb)
          have HB := hide (HB.out.trans (hb.mono HB.out.size))
          clear hb hv15 hv16 yx0 yx1 zx hm1 hm2 hz1 hz2 hz3 hz4 hz5 hw1 hw2 hw3 hw4 hw5 z x0 x1 x2 x3 x4 HXB
          generalize xb % ((c.heat.length : Int) + 1) = at_ at *
          obtain ⟨hd, hdd⟩ : ∃ hd : Nat, xa % (c.holds.length : Int) = (hd : Int) := ⟨(xa % (c.holds.length : Int)).toNat, by omega⟩
          rw [hdd] at hp0 hp1 ⊢
          clear hdd
          have HO := hide (order_ok HVD.out HSO.out (show hd < c.holds.length by omega) (at_ := at_) ⟨hp2, by omega⟩)
          have HS3 := hide (fun (W : World) A1 A2 A3 A4 c1 c2 c3 c4 (h : CargoV W W.heap.size (c) A1 A2 A3 A4 c1 c2 c3 c4) => (show Calls Try.prog 20 #[cargoVal (c) A1 A2 A3 A4 c1 c2 c3 c4, .int .i64 at_] W fun e w' => ∃ A cp, e = .returned (.tuple #[.slice A (safeR c at_).length cp, .int .i64 0]) ∧ IntsS w' w'.heap.size A (safeR c at_).length cp (natInts (safeR c at_)) ∧ Below W.heap.size W w' from by have := safeW_any h at_; rw [HO.out.safe0] at this; exact this))
          have HS4 := hide (fun (W : World) A1 A2 A3 A4 c1 c2 c3 c4 (h : CargoV W W.heap.size (backC c) A1 A2 A3 A4 c1 c2 c3 c4) => (show Calls Try.prog 20 #[cargoVal (backC c) A1 A2 A3 A4 c1 c2 c3 c4, .int .i64 at_] W fun e w' => ∃ A cp, e = .returned (.tuple #[.slice A (safeR c at_).length cp, .int .i64 0]) ∧ IntsS w' w'.heap.size A (safeR c at_).length cp (natInts (safeR (backC c) at_)) ∧ Below W.heap.size W w' from by have := safeW_any h at_; rw [HO.out.safe1, HO.out.safeN] at this; exact this))
          have HS5 := hide (fun (W : World) A1 A2 A3 A4 c1 c2 c3 c4 (h : CargoV W W.heap.size (c) A1 A2 A3 A4 c1 c2 c3 c4) => (show Calls Try.prog 24 #[cargoVal (c) A1 A2 A3 A4 c1 c2 c3 c4, .int .i64 (hd : Int)] W fun e w' => ∃ A cp, e = .returned (.tuple #[.slice A (firstR c (hd : Int)).length cp, .int .i64 0]) ∧ IntsS w' w'.heap.size A (firstR c (hd : Int)).length cp (natInts (firstR c (hd : Int))) ∧ Below W.heap.size W w' from by have := firstW_any h (hd : Int); rw [HO.out.first0] at this; exact this))
          have HS6 := hide (fun (W : World) A1 A2 A3 A4 c1 c2 c3 c4 (h : CargoV W W.heap.size (backC c) A1 A2 A3 A4 c1 c2 c3 c4) => (show Calls Try.prog 24 #[cargoVal (backC c) A1 A2 A3 A4 c1 c2 c3 c4, .int .i64 (hd : Int)] W fun e w' => ∃ A cp, e = .returned (.tuple #[.slice A (firstR c (hd : Int)).length cp, .int .i64 0]) ∧ IntsS w' w'.heap.size A (firstR c (hd : Int)).length cp (natInts (firstR (backC c) (hd : Int))) ∧ Below W.heap.size W w' from by have := firstW_any h (hd : Int); rw [HO.out.first1, HO.out.firstN] at this; exact this))
          have HS7 := hide (fun (W : World) A1 A2 A3 A4 c1 c2 c3 c4 (h : CargoV W W.heap.size (c) A1 A2 A3 A4 c1 c2 c3 c4) => (show Calls Try.prog 30 #[cargoVal (c) A1 A2 A3 A4 c1 c2 c3 c4, .int .i64 (hd : Int), .int .i64 at_] W fun e w' => ∃ A cp, e = .returned (.tuple #[.slice A (outV c (hd : Int) at_).1.length cp, .int .i64 0]) ∧ IntsS w' w'.heap.size A (outV c (hd : Int) at_).1.length cp (natInts ((outV c (hd : Int) at_).1)) ∧ Below W.heap.size W w' from by have := out_any h (hd : Int) at_; rw [HO.out.out0] at this; exact this))
          have HS8 := hide (fun (W : World) A1 A2 A3 A4 c1 c2 c3 c4 (h : CargoV W W.heap.size (backC c) A1 A2 A3 A4 c1 c2 c3 c4) => (show Calls Try.prog 30 #[cargoVal (backC c) A1 A2 A3 A4 c1 c2 c3 c4, .int .i64 (hd : Int), .int .i64 at_] W fun e w' => ∃ A cp, e = .returned (.tuple #[.slice A (outV c (hd : Int) at_).1.length cp, .int .i64 0]) ∧ IntsS w' w'.heap.size A (outV c (hd : Int) at_).1.length cp (natInts ((outV (backC c) (hd : Int) at_).1)) ∧ Below W.heap.size W w' from by have := out_any h (hd : Int) at_; rw [HO.out.out1, HO.out.outN] at this; exact this))
          have HEA := hide (show ∀ i, i < c.lots.length → ∃ r : Nat, (c.lots.length : Int) - 1 - (i : Int) = (r : Int) ∧ turnsR (backC c) (r : Int) = turnsR c (i : Int) ∧ hasInt (natInts (safeR c at_)) (i : Int) = hasInt (natInts (safeR (backC c) at_)) (r : Int) ∧ hasInt (natInts (firstR c (hd : Int))) (i : Int) = hasInt (natInts (firstR (backC c) (hd : Int))) (r : Int) from fun i hi => by
            obtain ⟨h1, h2, h3⟩ := HO.out.each i hi
            exact ⟨rvI c i, by rw [rvI]; omega, h1, h2, h3⟩)
          clear HO HVD HSO hp0 hp1 hp2 hp3
          generalize safeR (backC c) at_ = sb at *
          generalize firstR (backC c) (hd : Int) = fb at *
          generalize (safeR c at_).length = n1 at *
          generalize safeR c at_ = sa at *
          generalize (firstR c (hd : Int)).length = n2 at *
          generalize firstR c (hd : Int) = fa at *
          generalize (outV c (hd : Int) at_).1.length = n3 at *
          obtain ⟨hv, z, x0, x1, x2, x3, x4⟩ := HK.out
          have HV := hide hv
          clear hv
          go_upto_region 18 with (go_at_call 20; refine (HS3.out _ _ _ _ _ _ _ _ _ HV.out).mono ?_; rintro e v41 ⟨R1, r1, rfl, hi, hb⟩)
          have HK := hide (HK.out.next hb)
          have HKZ := hide (HKZ.out.next hb)
          have HB := hide (HB.out.trans (hb.mono (by have := HB.out.size; exact this)))
          clear hb
          have HI1 := hide hi
          clear hi
          clear z x0 x1 x2 x3 x4 HV
          obtain ⟨hv, z, x0, x1, x2, x3, x4⟩ := HKZ.out
          have HV := hide hv
          clear hv
          go_upto_region 19 with (go_at_call 20; refine (HS4.out _ _ _ _ _ _ _ _ _ HV.out).mono ?_; rintro e v42 ⟨R2, r2, rfl, hi, hb⟩)
          have HK := hide (HK.out.next hb)
          have HKZ := hide (HKZ.out.next hb)
          have HI1 := hide (HI1.out.next hb)
          have HB := hide (HB.out.trans (hb.mono (by have := HB.out.size; exact this)))
          clear hb
          have HI2 := hide hi
          clear hi
          clear z x0 x1 x2 x3 x4 HV
          obtain ⟨hv, z, x0, x1, x2, x3, x4⟩ := HK.out
          have HV := hide hv
          clear hv
          go_upto_region 20 with (go_at_call 24; refine (HS5.out _ _ _ _ _ _ _ _ _ HV.out).mono ?_; rintro e v43 ⟨R3, r3, rfl, hi, hb⟩)
          have HK := hide (HK.out.next hb)
          have HKZ := hide (HKZ.out.next hb)
          have HI1 := hide (HI1.out.next hb)
          have HI2 := hide (HI2.out.next hb)
          have HB := hide (HB.out.trans (hb.mono (by have := HB.out.size; exact this)))
          clear hb
          have HI3 := hide hi
          clear hi
          clear z x0 x1 x2 x3 x4 HV
          obtain ⟨hv, z, x0, x1, x2, x3, x4⟩ := HKZ.out
          have HV := hide hv
          clear hv
          go_upto_region 21 with (go_at_call 24; refine (HS6.out _ _ _ _ _ _ _ _ _ HV.out).mono ?_; rintro e v44 ⟨R4, r4, rfl, hi, hb⟩)
          have HK := hide (HK.out.next hb)
          have HKZ := hide (HKZ.out.next hb)
          have HI1 := hide (HI1.out.next hb)
          have HI2 := hide (HI2.out.next hb)
          have HI3 := hide (HI3.out.next hb)
          have HB := hide (HB.out.trans (hb.mono (by have := HB.out.size; exact this)))
          clear hb
          have HI4 := hide hi
          clear hi
          clear z x0 x1 x2 x3 x4 HV
          obtain ⟨hv, z, x0, x1, x2, x3, x4⟩ := HK.out
          have HV := hide hv
          clear hv
          go_upto_region 22 with (go_at_call 30; refine (HS7.out _ _ _ _ _ _ _ _ _ HV.out).mono ?_; rintro e v45 ⟨R5, r5, rfl, hi, hb⟩)
          have HK := hide (HK.out.next hb)
          have HKZ := hide (HKZ.out.next hb)
          have HI1 := hide (HI1.out.next hb)
          have HI2 := hide (HI2.out.next hb)
          have HI3 := hide (HI3.out.next hb)
          have HI4 := hide (HI4.out.next hb)
          have HB := hide (HB.out.trans (hb.mono (by have := HB.out.size; exact this)))
          clear hb
          clear z x0 x1 x2 x3 x4 HV
          obtain ⟨hv, z, x0, x1, x2, x3, x4⟩ := HKZ.out
          have HV := hide hv
          clear hv
          go_upto_region 23 with (go_at_call 30; refine (HS8.out _ _ _ _ _ _ _ _ _ HV.out).mono ?_; rintro e v46 ⟨R6, r6, rfl, hi, hb⟩)
          have HK := hide (HK.out.next hb)
          have HKZ := hide (HKZ.out.next hb)
          have HI1 := hide (HI1.out.next hb)
          have HI2 := hide (HI2.out.next hb)
          have HI3 := hide (HI3.out.next hb)
          have HI4 := hide (HI4.out.next hb)
          have HB := hide (HB.out.trans (hb.mono (by have := HB.out.size; exact this)))
          clear hb
          clear z x0 x1 x2 x3 x4 HV
          clear HS3 HS4 HS5 HS6 HS7 HS8
          generalize backC c = zc at *
          go_wp2_with fail
          go_loopw [24, 25, 26, 27, 28, 29, 30] (fun v24 _ _ _ _ _ _ wr => ∃ i : Nat, i ≤ c.lots.length ∧ v24 = .int .i64 i ∧ Hid (BoxC wr w.heap.size c A1 A2 A3 A4 c1 c2 c3 c4) ∧ Hid (BoxC wr gB zc A1 A2 AL AS c1 c2 cL cS) ∧ Hid (IntsS wr wr.heap.size R1 n1 r1 (natInts sa)) ∧ Hid (IntsS wr wr.heap.size R2 n1 r2 (natInts sb)) ∧ Hid (IntsS wr wr.heap.size R3 n2 r3 (natInts fa)) ∧ Hid (IntsS wr wr.heap.size R4 n2 r4 (natInts fb)) ∧ Hid (Below w.heap.size w wr)) (fun v24 _ _ _ _ _ _ _ => c.lots.length - (intOf v24).toNat)
          case atStart => exact ⟨0, by omega, rfl, HK, HKZ, HI1, HI2, HI3, HI4, HB⟩
          case round =>
            clear HK HKZ HI1 HI2 HI3 HI4 HB
            obtain ⟨i, hi, rfl, HK, HKZ, HI1, HI2, HI3, HI4, HB⟩ := hrel
            have hi0 : (0 : Int) ≤ (i : Int) := Int.natCast_nonneg _
            by_cases hli : i < c.lots.length
            · have hi1 : (i : Int) < (c.lots.length : Int) := by omega
              obtain ⟨r, e0, e1, e2, e3⟩ := HEA.out i hli
              have hr0 : (0 : Int) ≤ (r : Int) := Int.natCast_nonneg _
              have HT1 := hide (fun (W : World) A1 A2 A3 A4 c1 c2 c3 c4 (h : CargoV W W.heap.size (c) A1 A2 A3 A4 c1 c2 c3 c4) => (show Calls Try.prog 18 #[cargoVal (c) A1 A2 A3 A4 c1 c2 c3 c4, .int .i64 (i : Int)] W fun e w' => e = .returned (.tuple #[.agg #[.int .i64 (nth (turnsR c i).1.1 0), .int .i64 (nth (turnsR c i).1.1 1)], .int .i64 (turnsR c i).1.2, .int .i64 (turnsR c i).2]) ∧ Below W.heap.size W w' from by have := turnsW_any h (i : Int); exact this))
              have HT2 := hide (fun (W : World) A1 A2 A3 A4 c1 c2 c3 c4 (h : CargoV W W.heap.size (zc) A1 A2 A3 A4 c1 c2 c3 c4) => (show Calls Try.prog 18 #[cargoVal (zc) A1 A2 A3 A4 c1 c2 c3 c4, .int .i64 (r : Int)] W fun e w' => e = .returned (.tuple #[.agg #[.int .i64 (nth (turnsR c i).1.1 0), .int .i64 (nth (turnsR c i).1.1 1)], .int .i64 (turnsR c i).1.2, .int .i64 (turnsR c i).2]) ∧ Below W.heap.size W w' from by have := turnsW_any h (r : Int); rw [e1] at this; exact this))
              generalize nth (turnsR c i).1.1 0 = plo at *
              generalize nth (turnsR c i).1.1 1 = phi at *
              generalize (turnsR c i).1.2 = m at *
              generalize (turnsR c i).2 = er at *
              have HH1 := hide e2
              have HH2 := hide e3
              clear e1 e2 e3
              have hw7 : IntKind.i64.wrap ((c.lots.length : Int) - 1 - (i : Int)) = (r : Int) := by rw [← e0]; exact IntWalk.i64_in _ (by omega)
              obtain ⟨hv, z, x0, x1, x2, x3, x4⟩ := HK.out
              have HV := hide hv
              clear hv
              go_upto_region 29 with (go_at_call 18; refine (HT1.out _ _ _ _ _ _ _ _ _ HV.out).mono ?_; rintro e v51 ⟨rfl, hb⟩)
              have HK := hide (HK.out.next hb)
              have HKZ := hide (HKZ.out.next hb)
              have HI1 := hide (HI1.out.next hb)
              have HI2 := hide (HI2.out.next hb)
              have HI3 := hide (HI3.out.next hb)
              have HI4 := hide (HI4.out.next hb)
              have HB := hide (HB.out.trans (hb.mono (by have := HB.out.size; exact this)))
              clear hb
              clear z x0 x1 x2 x3 x4 HV
              have hb : Below v51.heap.size v51 (v51.alloc (.cells #[.int .i64 plo, .int .i64 phi] 32)) := (Below.refl _ _).alloc (Nat.le_refl _) _
              have HP : Hid (BoxS (v51.alloc (.cells #[.int .i64 plo, .int .i64 phi] 32)) v51.heap.size (plo) (phi)) := hide BoxS.made
              have HK := hide (HK.out.next hb)
              have HKZ := hide (HKZ.out.next hb)
              have HI1 := hide (HI1.out.next hb)
              have HI2 := hide (HI2.out.next hb)
              have HI3 := hide (HI3.out.next hb)
              have HI4 := hide (HI4.out.next hb)
              have HB := hide (HB.out.trans (hb.mono (by have := HB.out.size; exact this)))
              clear hb
              generalize (v51.alloc (.cells #[.int .i64 plo, .int .i64 phi] 32)) = u51 at *
              obtain ⟨hv, z, x0, x1, x2, x3, x4⟩ := HKZ.out
              have HV := hide hv
              clear hv
              go_upto_region 30 with (go_at_call 18; refine (HT2.out _ _ _ _ _ _ _ _ _ HV.out).mono ?_; rintro e v52 ⟨rfl, hb⟩)
              have HK := hide (HK.out.next hb)
              have HKZ := hide (HKZ.out.next hb)
              have HI1 := hide (HI1.out.next hb)
              have HI2 := hide (HI2.out.next hb)
              have HI3 := hide (HI3.out.next hb)
              have HI4 := hide (HI4.out.next hb)
              have HP := hide (HP.out.next hb)
              have HB := hide (HB.out.trans (hb.mono (by have := HB.out.size; exact this)))
              clear hb
              clear z x0 x1 x2 x3 x4 HV
              have hb : Below v52.heap.size v52 (v52.alloc (.cells #[.int .i64 plo, .int .i64 phi] 32)) := (Below.refl _ _).alloc (Nat.le_refl _) _
              have HQ : Hid (BoxS (v52.alloc (.cells #[.int .i64 plo, .int .i64 phi] 32)) v52.heap.size (plo) (phi)) := hide BoxS.made
              have HK := hide (HK.out.next hb)
              have HKZ := hide (HKZ.out.next hb)
              have HI1 := hide (HI1.out.next hb)
              have HI2 := hide (HI2.out.next hb)
              have HI3 := hide (HI3.out.next hb)
              have HI4 := hide (HI4.out.next hb)
              have HP := hide (HP.out.next hb)
              have HB := hide (HB.out.trans (hb.mono (by have := HB.out.size; exact this)))
              clear hb
              generalize (v52.alloc (.cells #[.int .i64 plo, .int .i64 phi] 32)) = u52 at *
              clear HT1 HT2
              obtain ⟨zp, p0, p1⟩ := HP.out
              obtain ⟨zq, q0, q1⟩ := HQ.out
              generalize hx1 : hasInt (natInts sa) (i : Int) = y1 at *
              generalize hx2 : hasInt (natInts fa) (i : Int) = y2 at *
              have HX1 := hide hx1
              have HX2 := hide hx2
              clear hx1 hx2
              have hgt : Try.prog.eqGuardType Try.prog.depth 32 = false := by kernel_rfl
              go_wp2_with (go_at_call 38; refine (has_any (by first | with_reducible exact HI1.out | with_reducible exact HI2.out | with_reducible exact HI3.out | with_reducible exact HI4.out) _).mono ?_; rintro e v60 ⟨rfl, rfl⟩; (first | rw [HX1.out] | rw [HX2.out] | rw [← HH1.out] | rw [← HH2.out]))
              go_roundw
              case rel => exact ⟨i + 1, by omega, by go_num, HK, HKZ, HI1, HI2, HI3, HI4, HB⟩
              case measure => simp [intOf]; omega
            · have hii : i = c.lots.length := by omega
              subst hii
              go_wp2_with (go_at_call 23; refine (awake_any _).mono ?_; rintro e v70 ⟨rfl, hb⟩)
              go_ret
              exact ⟨rfl, HB.out.trans (hb.mono HB.out.size)⟩

theorem turnOrder_any {A1 A2 A3 A4 : Option Addr} {c1 c2 c3 c4 : Nat} {c : Cargo} {w : World} (h : CargoV w w.heap.size c A1 A2 A3 A4 c1 c2 c3 c4) (xa xb : Int) (hw : (0 ≤ xa ∧ xa ≤ 255) ∧ (0 ≤ xb ∧ xb ≤ 255)) :
    Calls Try.prog 15 #[cargoVal c A1 A2 A3 A4 c1 c2 c3 c4, .agg #[.int .u8 xa, .int .u8 xb]] w fun e w' => e = .returned (.bool true) ∧ Below w.heap.size w w' := by
  cases hs : someL c with
  | false => exact order_bad h xa xb hs
  | true => exact order_ok_any h xa xb hw.1 hw.2 hs
end Go.Proofs.Ytbkknliggnhpcaa
