/- Contract of the inner question of Out. -/
import Derived.Test.YtbkknliggnhpcaaGG
import Derived.Test.YtbkknliggnhpcaaGH
import Derived.Test.YtbkknliggnhpcaaGA
set_option linter.unusedVariables false
set_option linter.unusedSimpArgs false
namespace Go.Proofs.Ytbkknliggnhpcaa
open Go.RowKit
attribute [local go_sem ↓] Go.wp_at_zero Go.wp_at_succ

set_option maxRecDepth 100000 in
theorem bits_andNot2 {m n : Nat} (hm : m < 32) (hn : n < 32) : bits BinOp.andNot .i64 (m : Int) (n : Int) = ((m &&& (31 - n) : Nat) : Int) := by
  have h : ∀ m : Fin 32, ∀ n : Fin 32, bits BinOp.andNot .i64 ((m : Nat) : Int) ((n : Nat) : Int) = (((m : Nat) &&& (31 - (n : Nat)) : Nat) : Int) := of_decide_eq_true (by kernel_rfl)
  exact h ⟨m, hm⟩ ⟨n, hn⟩
/-- A state without some lots. -/
def dropSet (s : St) (set : Nat) : St := { s with there := (s.there.toNat &&& (31 - set) : Nat) }
theorem and31 (a b : Nat) : a &&& (31 - b) ≤ 31 := Nat.le_trans Nat.and_le_right (Nat.sub_le _ _)
theorem dropSet_ok {s : St} (h : StB s) (set : Nat) : StB (dropSet s set) :=
  ⟨h.len, h.gb, h.wb, h.hb, by
    show 0 ≤ ((s.there.toNat &&& (31 - set) : Nat) : Int) ∧ ((s.there.toNat &&& (31 - set) : Nat) : Int) < 32
    have := and31 s.there.toNat set
    generalize s.there.toNat &&& (31 - set) = x at *
    omega⟩
def lotBad (c : Cargo) (until' : Int) (t : List Int) (i : Nat) : Bool := decide ((nth c.lots i).frm ≤ until') && decide (nth t i ≤ until')
def outAns (c : Cargo) (until' : Int) (set : Nat) (s : St) : Bool := (listN (s.there.toNat &&& (31 - set)) c.lots.length).all fun i => !lotBad c until' (timesV c (dropSet s set)) i
theorem all_nth {l : List Nat} {p : Nat → Bool} (h : ∀ j, j < l.length → p (nth l j) = true) : l.all p = true := by
  rw [List.all_eq_true]
  intro x hx
  obtain ⟨i, hi, rfl⟩ := List.getElem_of_mem hx
  have := h i hi
  rwa [nth_eq hi] at this
theorem all_not {l : List Nat} {p : Nat → Bool} {j : Nat} (hj : j < l.length) (h : p (nth l j) = false) : l.all p = false := by
  rw [List.all_eq_false]
  exact ⟨nth l j, by rw [nth_eq hj]; exact List.getElem_mem hj, by simp [h]⟩
theorem nth_listN {set many j : Nat} (h : j < (listN set many).length) : nth (listN set many) j < many := by
  have : nth (listN set many) j ∈ listN set many := by rw [nth_eq h]; exact List.getElem_mem h
  exact List.mem_range.1 (List.mem_filter.1 this).1
set_option maxHeartbeats 4000000 in
set_option maxRecDepth 100000 in
theorem out11_any {w : World} {L b bm : Nat} {c : Cargo} {A1 A2 A3 A4 : Option Addr} {c1 c2 c3 c4 but : Nat} {set bs g x bu : Nat} {until' : Int} {s : St} (h : LookL w L b bm c A1 A2 A3 A4 c1 c2 c3 c4 but (timesV c)) (hsm : Small c) (hn : c.lots.length ≤ 4) (hs : StB s) {t : List Int}
    (hset : set < 32) (hb : w.cell? ⟨bs, 0, none⟩ = some (.int .i64 set)) (hg : w.cell? ⟨g, 0, none⟩ = some (.pointer (some ⟨b, 0, none⟩))) (hx : w.cell? ⟨x, 3, none⟩ = some (.slice A3 c.lots.length c3)) (hu : w.cell? ⟨bu, 0, none⟩ = some (.int .i64 until')) :
    Calls Try.prog 93 #[stVal s, lotsVal t, .pointer (some ⟨bs, 0, none⟩), .pointer (some ⟨g, 0, none⟩), .pointer (some ⟨x, 0, none⟩), .pointer (some ⟨bu, 0, none⟩)] w fun e w' => e = .returned (.bool (outAns c until' set s)) ∧ Keep (fun q => q = bm) w w' ∧ Known w' bm (timesV c) := by
  have z1 := cell_lt hb
  have z2 := cell_lt hg
  have z3 := cell_lt hx
  have z4 := cell_lt hu
  have zb := h.hb
  have zm := h.hm
  have n1 := h.k.ne hx
  have n2 := h.k.ne hu
  have hm3 := h.v.m3
  unfold maxLen at hm3
  have hs0 : (0 : Int) ≤ (set : Int) := Int.natCast_nonneg _
  have htb := hs.tb
  have hbn := bits_andNot2 (m := s.there.toNat) (n := set) (by omega) hset
  rw [show ((s.there.toNat : Nat) : Int) = s.there by omega] at hbn
  have h31 := and31 s.there.toNat set
  have HOA := hide (show outAns c until' set s = (listN (s.there.toNat &&& (31 - set)) c.lots.length).all fun i => !lotBad c until' (timesV c (dropSet s set)) i from rfl)
  simp only [stVal, lotsVal, iv]
  go_enter Try.func93, Try.ntmps93
  go_upto_region 1 with (fail)
  have hB : Below w.heap.size w ((w.alloc (.cells #[.int .i64 s.hold, .int .i64 s.warm, .int .i64 (nth s.greens 0), .int .i64 (nth s.greens 1), .int .i64 (nth s.greens 2), .int .i64 (nth s.greens 3), .int .i64 (nth s.greens 4), .int .i64 s.there] 110)).alloc (.cells #[.int .i64 (nth t 0), .int .i64 (nth t 1), .int .i64 (nth t 2), .int .i64 (nth t 3), .int .i64 (nth t 4)] 108)) := ((Below.refl _ _).alloc (Nat.le_refl _) _).alloc (by simp) _
  have hS0 : OwnE 110 ((w.alloc (.cells #[.int .i64 s.hold, .int .i64 s.warm, .int .i64 (nth s.greens 0), .int .i64 (nth s.greens 1), .int .i64 (nth s.greens 2), .int .i64 (nth s.greens 3), .int .i64 (nth s.greens 4), .int .i64 s.there] 110)).alloc (.cells #[.int .i64 (nth t 0), .int .i64 (nth t 1), .int .i64 (nth t 2), .int .i64 (nth t 3), .int .i64 (nth t 4)] 108)) w.heap.size w.heap.size 8 (stRow s) := (OwnE.made8 w 110 _ _ _ _ _ _ _ _).block ((Below.refl (w.alloc (.cells #[.int .i64 s.hold, .int .i64 s.warm, .int .i64 (nth s.greens 0), .int .i64 (nth s.greens 1), .int .i64 (nth s.greens 2), .int .i64 (nth s.greens 3), .int .i64 (nth s.greens 4), .int .i64 s.there] 110)).heap.size (w.alloc (.cells #[.int .i64 s.hold, .int .i64 s.warm, .int .i64 (nth s.greens 0), .int .i64 (nth s.greens 1), .int .i64 (nth s.greens 2), .int .i64 (nth s.greens 3), .int .i64 (nth s.greens 4), .int .i64 s.there] 110))).alloc (Nat.le_refl _) (.cells #[.int .i64 (nth t 0), .int .i64 (nth t 1), .int .i64 (nth t 2), .int .i64 (nth t 3), .int .i64 (nth t 4)] 108) |>.block w.heap.size (by simp))
  have hR0 : OwnE 108 ((w.alloc (.cells #[.int .i64 s.hold, .int .i64 s.warm, .int .i64 (nth s.greens 0), .int .i64 (nth s.greens 1), .int .i64 (nth s.greens 2), .int .i64 (nth s.greens 3), .int .i64 (nth s.greens 4), .int .i64 s.there] 110)).alloc (.cells #[.int .i64 (nth t 0), .int .i64 (nth t 1), .int .i64 (nth t 2), .int .i64 (nth t 3), .int .i64 (nth t 4)] 108)) w.heap.size (w.heap.size + 1) 5 [nth t 0, nth t 1, nth t 2, nth t 3, nth t 4] := by
    have := (OwnE.made5 (w.alloc (.cells #[.int .i64 s.hold, .int .i64 s.warm, .int .i64 (nth s.greens 0), .int .i64 (nth s.greens 1), .int .i64 (nth s.greens 2), .int .i64 (nth s.greens 3), .int .i64 (nth s.greens 4), .int .i64 s.there] 110)) 108 (nth t 0) (nth t 1) (nth t 2) (nth t 3) (nth t 4)).base (base' := w.heap.size) (by simp)
    simpa using this
  have hzz : ((w.alloc (.cells #[.int .i64 s.hold, .int .i64 s.warm, .int .i64 (nth s.greens 0), .int .i64 (nth s.greens 1), .int .i64 (nth s.greens 2), .int .i64 (nth s.greens 3), .int .i64 (nth s.greens 4), .int .i64 s.there] 110)).alloc (.cells #[.int .i64 (nth t 0), .int .i64 (nth t 1), .int .i64 (nth t 2), .int .i64 (nth t 3), .int .i64 (nth t 4)] 108)).heap.size = w.heap.size + 1 + 1 := by simp
  generalize ((w.alloc (.cells #[.int .i64 s.hold, .int .i64 s.warm, .int .i64 (nth s.greens 0), .int .i64 (nth s.greens 1), .int .i64 (nth s.greens 2), .int .i64 (nth s.greens 3), .int .i64 (nth s.greens 4), .int .i64 s.there] 110)).alloc (.cells #[.int .i64 (nth t 0), .int .i64 (nth t 1), .int .i64 (nth t 2), .int .i64 (nth t 3), .int .i64 (nth t 4)] 108)) = w1 at *
  have l1 := (hB.cell (p := ⟨bs, 0, none⟩) z1).trans hb
  have l2 := (hB.cell (p := ⟨g, 0, none⟩) z2).trans hg
  have l3 := (hB.cell (p := ⟨x, 3, none⟩) z3).trans hx
  have l4 := (hB.cell (p := ⟨bu, 0, none⟩) z4).trans hu
  have s7 := hS0.cell (i := 7) (by omega)
  have f7 := hS0.frozen 7
  rw [stRow, nth8_7] at s7
  have HB := hide hB
  have HS0 := hide hS0
  have HH := hide h
  clear hB hS0 hR0 hg hb hx hu h
  go_upto_region 2 with (fail)
  have hs2 := HS0.out.set 7 (s.there.toNat &&& (31 - set) : Nat)
  have hkA : Keep (fun q => q = w.heap.size) w1 (w1.setCell ⟨w.heap.size, 7, none⟩ (.int .i64 (s.there.toNat &&& (31 - set) : Nat))) := Keep.setCell _ _ _ (fun q => q = w.heap.size) rfl
  have hs3 : OwnE 110 (w1.setCell ⟨w.heap.size, 7, none⟩ (.int .i64 (s.there.toNat &&& (31 - set) : Nat))) w.heap.size w.heap.size 8 (stRow (dropSet s set)) := hs2
  generalize (w1.setCell ⟨w.heap.size, 7, none⟩ (.int .i64 (s.there.toNat &&& (31 - set) : Nat))) = w2 at *
  have hz2 := hkA.size
  have hz1 := HB.out.size
  have l1 := (hkA.cell (cell_lt l1) (by omega)).trans l1
  have l2 := (hkA.cell (cell_lt l2) (by omega)).trans l2
  have l3 := (hkA.cell (cell_lt l3) (by omega)).trans l3
  have l4 := (hkA.cell (cell_lt l4) (by omega)).trans l4
  have hL2 := HH.out.keep' ((Keep.of_below' HB.out (fun q => w.heap.size ≤ q)).trans (hkA.mono (fun q _ e => by omega))) (fun q e => by have := HH.out.hL; omega)
  have hT := times_L hL2 hsm (dropSet s set) (dropSet_ok hs set)
  have hKK : Keep (fun q => q = bm) w w2 := (Keep.mono ((Keep.of_below' HB.out (fun q => w.heap.size ≤ q)).trans (hkA.mono (fun q _ e => by omega))) (fun q hq e => by omega))
  have hl := fun V => list_any (set := s.there.toNat &&& (31 - set)) (many := c.lots.length) (by omega) (by omega) V
  have s0 := hs3.cell (i := 0) (by omega)
  have s1 := hs3.cell (i := 1) (by omega)
  have s2 := hs3.cell (i := 2) (by omega)
  have s3 := hs3.cell (i := 3) (by omega)
  have s4 := hs3.cell (i := 4) (by omega)
  have s5 := hs3.cell (i := 5) (by omega)
  have s6 := hs3.cell (i := 6) (by omega)
  have s7 := hs3.cell (i := 7) (by omega)
  simp only [stRow, nth8_0, nth8_1, nth8_2, nth8_3, nth8_4, nth8_5, nth8_6, nth8_7] at s0 s1 s2 s3 s4 s5 s6 s7
  have s7 : w2.cell? ⟨w.heap.size, 7, none⟩ = some (.int .i64 (s.there.toNat &&& (31 - set) : Nat)) := s7
  have HT := hide hT
  have HKK := hide hKK
  have HL := hide hl
  have HL2 := hide hL2
  have HS3 := hide hs3
  clear hs2 hkA hs3 hT hKK HS0 HB hl f7 hL2 HH
  go_wp2_with (first
    | (go_at_call 87
       refine HT.out.mono ?_
       rintro e w3 ⟨rfl, hk3, hn3⟩
       simp only [lotsVal, iv]
       have hz3 := hk3.size
       have l3 := (hk3.cell (cell_lt l3) n1).trans l3
       have l4 := (hk3.cell (cell_lt l4) n2).trans l4
       have s7 := (hk3.cell (b := w.heap.size) (o := 7) (by omega) (by omega)).trans s7
       have hzw : w.heap.size < w3.heap.size := by omega
       have hzx : x < w3.heap.size := by omega
       have hzu : bu < w3.heap.size := by omega)
    | (go_at_call 94
       refine (HL.out _).mono ?_
       rintro e w4 ⟨Al, cl, rfl, hil, -, hb4⟩))
  have hA3 : Below w3.heap.size w3 w4 := (((Below.refl _ _).alloc (Nat.le_refl _) _).trans (hb4.mono (by simp)))
  have hlc : ∀ i, i < 5 → w4.cell? ⟨w3.heap.size, i, none⟩ = some (.int .i64 (nth (timesV c (dropSet s set)) i)) := fun i hi => (hb4.cell (p := ⟨w3.heap.size, i, none⟩) (by simp)).trans (lots_cell hi)
  have HLC := hide hlc
  have l3 := (hA3.cell (p := ⟨x, 3, none⟩) (by show x < _; omega)).trans l3
  have l4 := (hA3.cell (p := ⟨bu, 0, none⟩) (by show bu < _; omega)).trans l4
  have HK4 := hide ((HKK.out.trans hk3).trans' ((Keep.of_below hA3).mono (fun k _ h => by omega)) (by omega))
  have HN4 := hide (hn3.keep (Keep.of_below' hA3 (fun _ => False)) (fun h => h))
  have HL4 := hide (((HL2.out.keep hk3 (fun k h => .inl h) hn3)).keep' (Keep.of_below' hA3 (fun _ => False)) (fun _ h => h.elim))
  have HIL := hide hil
  have hll := listN_le (s.there.toNat &&& (31 - set)) c.lots.length
  have hb3 : w3.heap.size < w4.heap.size := by have := hb4.size; simp at this; omega
  clear hil hb4 hlc hk3 hn3 hA3
  go_loopw [11, 27] (fun _ i wr => ∃ j : Nat, j ≤ (listN (s.there.toNat &&& (31 - set)) c.lots.length).length ∧ i = .int .i64 j ∧ Dr w4 wr ∧ Hid (∀ k, k < j → (!lotBad c until' (timesV c (dropSet s set)) (nth (listN (s.there.toNat &&& (31 - set)) c.lots.length) k)) = true)) (fun _ i _ => (listN (s.there.toNat &&& (31 - set)) c.lots.length).length - (intOf i).toNat)
  case atStart => exact ⟨0, Nat.zero_le _, rfl, Dr.refl _, hide (fun k hk => absurd hk (Nat.not_lt_zero _))⟩
  case round =>
    obtain ⟨j, hj, rfl, ⟨nd, rfl⟩, HJ⟩ := hrel
    have hj0 : (0 : Int) ≤ (j : Int) := Int.natCast_nonneg _
    by_cases hlt : j < (listN (s.there.toNat &&& (31 - set)) c.lots.length).length
    · have hj1 : (j : Int) < ((listN (s.there.toNat &&& (31 - set)) c.lots.length).length : Int) := by omega
      have hin := nth_listN hlt
      obtain ⟨ba, oa, rfl, hba, h0⟩ := HIL.out.row.ints (by exact hlt)
      rw [nth_natInts hlt] at h0
      generalize hi' : nth (listN (s.there.toNat &&& (31 - set)) c.lots.length) j = i at *
      have HI := hide hi'
      clear hi'
      obtain ⟨bl, ol, rfl, hbl, t0, t1, t2, t3⟩ := HL4.out.v.lots.lots hin
      have hti := HLC.out i (by omega)
      have hi0 : (0 : Int) ≤ (i : Int) := Int.natCast_nonneg _
      have hi1 : (i : Int) < (c.lots.length : Int) := by omega
      have hi5 : (i : Int) < 5 := by omega
      have HLB := hide (show lotBad c until' (timesV c (dropSet s set)) i = (decide ((nth c.lots i).frm ≤ until') && decide (nth (timesV c (dropSet s set)) i ≤ until')) from rfl)
      clear t0 t2 t3
      cases hc1 : decide ((nth c.lots i).frm ≤ until') with
      | true =>
        cases hc2 : decide (nth (timesV c (dropSet s set)) i ≤ until') with
        | true =>
          have HR := hide (show outAns c until' set s = false by rw [HOA.out]; exact all_not hlt (by rw [HI.out, HLB.out, hc1, hc2]; rfl))
          have hd1 : (nth c.lots i).frm ≤ until' := by simpa using hc1
          have hd2 : nth (timesV c (dropSet s set)) i ≤ until' := by simpa using hc2
          go_upto_region 6 with (fail)
          go_quiet (fail)
          go_wp2_with fail
          go_ret
          exact ⟨by rw [HR.out]; rfl, HK4.out.trans (Keep.of_below' (Dr.below ⟨_, by first | rfl | exact World.drewN_drewN _ _ _⟩ _) _), HN4.out⟩
        | false =>
          have HJ2 := hide (show ∀ k, k < j + 1 → (!lotBad c until' (timesV c (dropSet s set)) (nth (listN (s.there.toNat &&& (31 - set)) c.lots.length) k)) = true from fun k hk => by
            rcases Nat.lt_or_ge k j with h | h
            · exact HJ.out k h
            · obtain rfl : k = j := by omega
              rw [HI.out, HLB.out, hc1, hc2]; rfl)
          have hd1 : (nth c.lots i).frm ≤ until' := by simpa using hc1
          have hd2 : ¬ nth (timesV c (dropSet s set)) i ≤ until' := by simpa using hc2
          go_upto_region 6 with (fail)
          go_quiet (fail)
          go_wp2_with fail
          go_roundw
          case rel => exact ⟨j + 1, by omega, by go_num, ⟨_, rfl⟩, HJ2⟩
          case measure => simp [intOf]; omega
      | false =>
        have HJ2 := hide (show ∀ k, k < j + 1 → (!lotBad c until' (timesV c (dropSet s set)) (nth (listN (s.there.toNat &&& (31 - set)) c.lots.length) k)) = true from fun k hk => by
          rcases Nat.lt_or_ge k j with h | h
          · exact HJ.out k h
          · obtain rfl : k = j := by omega
            rw [HI.out, HLB.out, hc1]; rfl)
        have hd1 : ¬ (nth c.lots i).frm ≤ until' := by simpa using hc1
        go_upto_region 6 with (fail)
        go_quiet (fail)
        go_wp2_with fail
        go_roundw
        case rel => exact ⟨j + 1, by omega, by go_num, ⟨_, rfl⟩, HJ2⟩
        case measure => simp [intOf]; omega
    · obtain rfl : j = (listN (s.there.toNat &&& (31 - set)) c.lots.length).length := by omega
      have HR := hide (show outAns c until' set s = true by rw [HOA.out]; exact all_nth HJ.out)
      have hj1 : ¬ ((listN (s.there.toNat &&& (31 - set)) c.lots.length).length : Int) < ((listN (s.there.toNat &&& (31 - set)) c.lots.length).length : Int) := by omega
      go_wp2_with fail
      go_ret
      exact ⟨by rw [HR.out]; rfl, HK4.out.trans (Keep.of_below' (Dr.below ⟨_, by first | rfl | exact World.drewN_drewN _ _ _⟩ _) _), HN4.out⟩
end Go.Proofs.Ytbkknliggnhpcaa
/- Contracts of the outer question of Out, and of turn's Out. -/
namespace Go.Proofs.Ytbkknliggnhpcaa
open Go.RowKit
attribute [local go_sem ↓] Go.wp_at_zero Go.wp_at_succ

/-- The memory of the inner question. -/
def OutK (W : World) (b bs g x bu set : Nat) (c : Cargo) (A3 : Option Addr) (c3 : Nat) (until' : Int) : Prop :=
  W.cell? ⟨bs, 0, none⟩ = some (.int .i64 set) ∧ W.cell? ⟨g, 0, none⟩ = some (.pointer (some ⟨b, 0, none⟩)) ∧ W.cell? ⟨x, 3, none⟩ = some (.slice A3 c.lots.length c3) ∧ W.cell? ⟨bu, 0, none⟩ = some (.int .i64 until')
theorem OutK.keep {W W' : World} {b bs g x bu set : Nat} {c : Cargo} {A3 : Option Addr} {c3 : Nat} {until' : Int} {S : Nat → Prop} (h : OutK W b bs g x bu set c A3 c3 until') (hk : Keep S W W') (hS : ¬ S bs ∧ ¬ S g ∧ ¬ S x ∧ ¬ S bu) : OutK W' b bs g x bu set c A3 c3 until' := by
  obtain ⟨h1, h2, h3, h4⟩ := h
  exact ⟨(hk.cell (cell_lt h1) hS.1).trans h1, (hk.cell (cell_lt h2) hS.2.1).trans h2, (hk.cell (cell_lt h3) hS.2.2.1).trans h3, (hk.cell (cell_lt h4) hS.2.2.2).trans h4⟩
theorem out_q {w : World} {L b bm : Nat} {c : Cargo} {A1 A2 A3 A4 : Option Addr} {c1 c2 c3 c4 but : Nat} {bs g x bu set hold : Nat} {until' : Int} (hv : Valid c) (hh : hold < c.holds.length) (hset : set < 32) (h0 : OutK w b bs g x bu set c A3 c3 until') (hm : bs ≠ bm ∧ g ≠ bm ∧ x ≠ bm ∧ bu ≠ bm) :
    QOk Try.prog 93 #[.pointer (some ⟨bs, 0, none⟩), .pointer (some ⟨g, 0, none⟩), .pointer (some ⟨x, 0, none⟩), .pointer (some ⟨bu, 0, none⟩)] (outAns c until' set) (fun k => k = bm) (fun _ V => OutK V b bs g x bu set c A3 c3 until' ∧ w.heap.size ≤ V.heap.size) w L bm b c A1 A2 A3 A4 c1 c2 c3 c4 but hold := by
  have z1 := cell_lt h0.1
  have z2 := cell_lt h0.2.1
  have z3 := cell_lt h0.2.2.1
  have z4 := cell_lt h0.2.2.2
  refine qok_simple (C := fun V => OutK V b bs g x bu set c A3 c3 until' ∧ w.heap.size ≤ V.heap.size) (enters_of Try.func93 (by kernel_rfl) rfl) ?_ ⟨h0, Nat.le_refl _⟩ ?_
  · rintro V V' ⟨h1, h2⟩ hk
    exact ⟨h1.keep hk (by omega), Nat.le_trans h2 hk.size⟩
  · rintro s W hs hL ⟨⟨h1, h2, h3, h4⟩, _⟩
    have hsx := (statesS_ok hv hh (List.mem_filter.1 hs).1).1
    refine (out11_any (s := s) (t := timesV c s) hL hv.small hv.lots hsx hset h1 h2 h3 h4).mono ?_
    rintro e W' ⟨rfl, hb, hn⟩
    exact ⟨rfl, hb, hn⟩

def outDo (c : Cargo) (until' : Int) (all hold set : Nat) : Bool := ((set &&& (31 - all)) == 0) && (settledM (cntB (outAns c until' set) (truthsS c hold 0)) (truthsS c hold 0).length == 1)
/-- The memory of the outer question. -/
structure OutO (W : World) (L b bm ba g bh x bu all hold : Nat) (c : Cargo) (A1 A2 A3 A4 : Option Addr) (c1 c2 c3 c4 : Nat) (until' : Int) : Prop where
  look : LookL W L b bm c A1 A2 A3 A4 c1 c2 c3 c4 (0 : Nat) (timesV c)
  ca : W.cell? ⟨ba, 0, none⟩ = some (.int .i64 all)
  cg : W.cell? ⟨g, 0, none⟩ = some (.pointer (some ⟨b, 0, none⟩))
  ch : W.cell? ⟨bh, 0, none⟩ = some (.int .i64 hold)
  cx : W.cell? ⟨x, 3, none⟩ = some (.slice A3 c.lots.length c3)
  cu : W.cell? ⟨bu, 0, none⟩ = some (.int .i64 until')
theorem OutO.keep {W W' : World} {L b bm ba g bh x bu all hold : Nat} {c : Cargo} {A1 A2 A3 A4 : Option Addr} {c1 c2 c3 c4 : Nat} {until' : Int} (h : OutO W L b bm ba g bh x bu all hold c A1 A2 A3 A4 c1 c2 c3 c4 until') (hk : Keep (fun k => k = bm) W W') (hn : Known W' bm (timesV c)) : OutO W' L b bm ba g bh x bu all hold c A1 A2 A3 A4 c1 c2 c3 c4 until' :=
  ⟨h.look.keep hk (fun k h => .inl h) hn, (hk.cell (cell_lt h.ca) (h.look.k.ne h.ca)).trans h.ca, (hk.cell (cell_lt h.cg) (h.look.k.ne h.cg)).trans h.cg, (hk.cell (cell_lt h.ch) (h.look.k.ne h.ch)).trans h.ch, (hk.cell (cell_lt h.cx) (h.look.k.ne h.cx)).trans h.cx, (hk.cell (cell_lt h.cu) (h.look.k.ne h.cu)).trans h.cu⟩
set_option maxHeartbeats 1600000 in
set_option maxRecDepth 100000 in
theorem out1_any {w : World} {L b bm ba g bh x bu all hold set : Nat} {c : Cargo} {A1 A2 A3 A4 : Option Addr} {c1 c2 c3 c4 : Nat} {until' : Int} (h : OutO w L b bm ba g bh x bu all hold c A1 A2 A3 A4 c1 c2 c3 c4 until') (hv : Valid c) (hh : hold < c.holds.length) (hall : all < 32) (hset : set < 32) :
    Calls Try.prog 92 #[.int .i64 set, .pointer (some ⟨ba, 0, none⟩), .pointer (some ⟨g, 0, none⟩), .pointer (some ⟨bh, 0, none⟩), .pointer (some ⟨x, 0, none⟩), .pointer (some ⟨bu, 0, none⟩)] w fun e w' => e = .returned (.bool (outDo c until' all hold set)) ∧ Keep (fun k => k = bm) w w' ∧ Known w' bm (timesV c) := by
  have hbn := bits_andNot2 hset hall
  have hA : Below w.heap.size w (w.alloc (.cells #[.int .i64 set] 3)) := (Below.refl _ _).alloc (Nat.le_refl _) _
  have hn1 : Known (w.alloc (.cells #[.int .i64 set] 3)) bm (timesV c) := h.look.k.keep (Keep.of_below' hA (fun _ => False)) (fun h => h)
  have hO := h.keep (Keep.of_below' hA _) hn1
  have d0 : (w.alloc (.cells #[.int .i64 set] 3)).cell? ⟨w.heap.size, 0, none⟩ = some (.int .i64 set) := by rw [World.cell?_alloc_at _ _ _ _ rfl]; rfl
  have zm := h.look.hm
  have z1 := h.look.k.ne h.cg
  have z2 := h.look.k.ne h.cx
  have z3 := h.look.k.ne h.cu
  go_enter Try.func92, Try.ntmps92
  go_upto_region 1 with (fail)
  generalize (w.alloc (.cells #[.int .i64 set] 3)) = w1 at *
  have ca := hO.ca
  have cg := hO.cg
  have ch := hO.ch
  have hask := ask_any hO.look hv (by omega) hh (out_q (L := L) (b := b) (bm := bm) (A1 := A1) (A2 := A2) (A4 := A4) (c1 := c1) (c2 := c2) (c4 := c4) (but := 0) hv hh hset ⟨d0, hO.cg, hO.cx, hO.cu⟩ ⟨by omega, z1, z2, z3⟩)
  have HASK := hide hask
  have HA := hide hA
  have HN1 := hide hn1
  have HD := hide (show outDo c until' all hold set = (((set &&& (31 - all)) == 0) && (settledM (cntB (outAns c until' set) (truthsS c hold 0)) (truthsS c hold 0).length == 1)) from rfl)
  clear hask hA hn1 hO h
  generalize settledM (cntB (outAns c until' set) (truthsS c hold 0)) (truthsS c hold 0).length = sv at *
  generalize set &&& (31 - all) = sa at *
  by_cases hz : sa = 0
  · subst hz
    cases hs : (sv == 1) with
    | true =>
      have HR := hide (show outDo c until' all hold set = true by rw [HD.out, hs]; rfl)
      go_wp2_with (go_at_call 70; refine HASK.out.mono ?_; rintro e w3 ⟨rfl, hk3, hn3, -⟩)
      go_ret
      exact ⟨by rw [HR.out]; rfl, (Keep.of_below' HA.out _).trans (hk3.mono (fun k _ h => by rcases h with h | h <;> exact h)), hn3⟩
    | false =>
      have HR := hide (show outDo c until' all hold set = false by rw [HD.out, hs]; rfl)
      go_wp2_with (go_at_call 70; refine HASK.out.mono ?_; rintro e w3 ⟨rfl, hk3, hn3, -⟩)
      go_ret
      exact ⟨by rw [HR.out]; rfl, (Keep.of_below' HA.out _).trans (hk3.mono (fun k _ h => by rcases h with h | h <;> exact h)), hn3⟩
  · have hz1 : ((sa : Int) == 0) = false := by simp; omega
    have HR := hide (show outDo c until' all hold set = false by rw [HD.out]; simp [hz])
    go_wp2_with fail
    go_ret
    exact ⟨by rw [HR.out]; rfl, Keep.of_below' HA.out _, HN1.out⟩
theorem out_f {w : World} {L b bm ba g bh x bu all hold many : Nat} {c : Cargo} {A1 A2 A3 A4 : Option Addr} {c1 c2 c3 c4 : Nat} {until' : Int} (h : OutO w L b bm ba g bh x bu all hold c A1 A2 A3 A4 c1 c2 c3 c4 until') (hv : Valid c) (hh : hold < c.holds.length) (hall : all < 32) (hm : many ≤ 4) :
    FOk Try.prog 92 #[.pointer (some ⟨ba, 0, none⟩), .pointer (some ⟨g, 0, none⟩), .pointer (some ⟨bh, 0, none⟩), .pointer (some ⟨x, 0, none⟩), .pointer (some ⟨bu, 0, none⟩)] (outDo c until' all hold) (fun k => k = bm) (fun V => OutO V L b bm ba g bh x bu all hold c A1 A2 A3 A4 c1 c2 c3 c4 until') many w where
  enter := enters_of Try.func92 (by kernel_rfl) rfl
  cd k hk := by subst hk; exact h.look.hm
  keep V V' hK hb _ := hK.keep (Keep.of_below' hb _) (hK.look.k.keep (Keep.of_below' hb (fun _ => False)) (fun h => h))
  start := h
  call set W hs hz hK := by
    have h16 : 2 ^ many ≤ 16 := Nat.pow_le_pow_right (by omega) hm
    refine (out1_any (set := set) hK hv hh hall (by omega)).mono ?_
    rintro e W' ⟨rfl, hk, hn⟩
    exact ⟨rfl, hk, hK.keep hk hn⟩

def outV (c : Cargo) (hold until' : Int) : List Nat × Int := if enterE c [(noneQ c.holds.length [hold], (4 : Int)), (noneQ (c.heat.length + 1) [until'], (7 : Int))] ≠ 0 then ([], enterE c [(noneQ c.holds.length [hold], (4 : Int)), (noneQ (c.heat.length + 1) [until'], (7 : Int))]) else
  ((fwTo c.lots.length (outDo c until' (ofB c hold c.lots.length) hold.toNat) (2 ^ c.lots.length)).getD [], 0)

set_option maxHeartbeats 4000000 in
set_option maxRecDepth 100000 in
theorem out_any {A1 A2 A3 A4 : Option Addr} {c1 c2 c3 c4 : Nat} {c : Cargo} {w : World} (h : CargoV w w.heap.size c A1 A2 A3 A4 c1 c2 c3 c4) (hold until' : Int) :
    Calls Try.prog 30 #[cargoVal c A1 A2 A3 A4 c1 c2 c3 c4, .int .i64 hold, .int .i64 until'] w fun e w' => ∃ A cp, e = .returned (.tuple #[.slice A (outV c hold until').1.length cp, .int .i64 (outV c hold until').2]) ∧ IntsS w' w'.heap.size A (outV c hold until').1.length cp (natInts (outV c hold until').1) ∧ Below w.heap.size w w' := by
  have hm1 := h.m1
  have hm2 := h.m2
  have hm3 := h.m3
  unfold maxLen at hm1 hm2 hm3
  go_enter Try.func30, Try.ntmps30
  go_wp2_with fail
  have hB0 : Below w.heap.size w (((w.alloc (.cells #[.slice A1 c.heat.length c1, .int .i64 c.gas, .slice A2 c.holds.length c2, .slice A3 c.lots.length c3, .slice A4 c.seen.length c4] 27)).alloc (.cells #[.int .i64 hold] 3)).alloc (.cells #[.int .i64 until'] 3)) := (((Below.refl _ _).alloc (Nat.le_refl _) _).alloc (by simp) _).alloc (by simp; omega) _
  have hcl : ∀ o : Nat, (((w.alloc (.cells #[.slice A1 c.heat.length c1, .int .i64 c.gas, .slice A2 c.holds.length c2, .slice A3 c.lots.length c3, .slice A4 c.seen.length c4] 27)).alloc (.cells #[.int .i64 hold] 3)).alloc (.cells #[.int .i64 until'] 3)).cell? ⟨w.heap.size, o, none⟩ = (#[Value.slice A1 c.heat.length c1, .int .i64 c.gas, .slice A2 c.holds.length c2, .slice A3 c.lots.length c3, .slice A4 c.seen.length c4])[o]? := fun o => by
    rw [World.cell?_alloc_past _ _ _ (by simp; omega), World.cell?_alloc_past _ _ _ (by simp), World.cell?_alloc_at _ _ _ _ rfl]
  have pl1 : (((w.alloc (.cells #[.slice A1 c.heat.length c1, .int .i64 c.gas, .slice A2 c.holds.length c2, .slice A3 c.lots.length c3, .slice A4 c.seen.length c4] 27)).alloc (.cells #[.int .i64 hold] 3)).alloc (.cells #[.int .i64 until'] 3)).cell? ⟨w.heap.size + 1, 0, none⟩ = some (.int .i64 hold) := by
    rw [World.cell?_alloc_past _ _ _ (by simp), World.cell?_alloc_at _ _ _ _ (by simp)]; rfl
  have pl2 : (((w.alloc (.cells #[.slice A1 c.heat.length c1, .int .i64 c.gas, .slice A2 c.holds.length c2, .slice A3 c.lots.length c3, .slice A4 c.seen.length c4] 27)).alloc (.cells #[.int .i64 hold] 3)).alloc (.cells #[.int .i64 until'] 3)).cell? ⟨w.heap.size + 1 + 1, 0, none⟩ = some (.int .i64 until') := by
    rw [World.cell?_alloc_at _ _ _ _ (by simp)]; rfl
  have hz0 : (((w.alloc (.cells #[.slice A1 c.heat.length c1, .int .i64 c.gas, .slice A2 c.holds.length c2, .slice A3 c.lots.length c3, .slice A4 c.seen.length c4] 27)).alloc (.cells #[.int .i64 hold] 3)).alloc (.cells #[.int .i64 until'] 3)).heap.size = w.heap.size + 1 + 1 + 1 := by simp
  generalize (((w.alloc (.cells #[.slice A1 c.heat.length c1, .int .i64 c.gas, .slice A2 c.holds.length c2, .slice A3 c.lots.length c3, .slice A4 c.seen.length c4] 27)).alloc (.cells #[.int .i64 hold] 3)).alloc (.cells #[.int .i64 until'] 3)) = w0 at *
  have pb0 := hcl 0
  have pb1 := hcl 1
  have pb2 := hcl 2
  have pb3 := hcl 3
  have pb4 := hcl 4
  simp only [List.getElem?_toArray, List.getElem?_cons_succ, List.getElem?_cons_zero] at pb0 pb1 pb2 pb3 pb4
  have HB0 := hide hB0
  have HCV := hide h
  clear hcl h hB0
  refine wp_post (fun a W => ∃ (g : Nat) (p : Option Addr) (x0 x1 x2 x3 x4 x5 x6 x7 x8 x9 x10 x11 x12 x13 x14 x15 : Value), a = ⟨#[cargoVal c A1 A2 A3 A4 c1 c2 c3 c4, .int .i64 hold, .int .i64 until', .pointer (some ⟨w.heap.size, 0, none⟩), .pointer (some ⟨w.heap.size + 1, 0, none⟩), .pointer (some ⟨w.heap.size + 1 + 1, 0, none⟩), .slice none 0 0, .int .i64 0, .pointer (some ⟨g, 0, none⟩), .int .i64 (enterE c [(noneQ c.holds.length [hold], (4 : Int)), (noneQ (c.heat.length + 1) [until'], (7 : Int))]), undef, x13, x0, x1, x2, x3, x4, x5, x6, x7, x8, x9, x10, x11, x12, x14, x15, undef, undef, undef, undef, undef, undef, undef, undef, undef, undef, undef], []⟩ ∧ Below w0.heap.size w0 W ∧ EntryP W w.heap.size c A1 A2 A3 A4 c1 c2 c3 c4 [(noneQ c.holds.length [hold], (4 : Int)), (noneQ (c.heat.length + 1) [until'], (7 : Int))] p ∧ w0.heap.size ≤ g ∧ g < W.heap.size ∧ W.cell? ⟨g, 0, none⟩ = some (.pointer p) ∧ W.frozen? ⟨g, 0, none⟩ = false) ?reg ?imp
  case reg =>
    refine wp_region_grow2 (dst := fun i => [12, 13, 14, 15, 16, 17, 18, 19, 20, 21, 22, 23, 24, 11, 25, 26, 8].getD i 0) (mono := fun i => decide (i < 17)) (pre := fun i => decide (i < 17) && i != 15)
      (Pv := fun i v W => match i with
        | 0 => v = (.agg #[.slice A1 c.heat.length c1, .int .i64 c.gas, .slice A2 c.holds.length c2, .slice A3 c.lots.length c3, .slice A4 c.seen.length c4])
        | 1 => v = .pointer (some ⟨w.heap.size, 2, none⟩)
        | 2 => v = .slice A2 c.holds.length c2
        | 3 => v = .int .i64 (c.holds.length : Nat)
        | 4 => v = .int .i64 hold
        | 5 => ∃ A cp, v = .slice A 1 cp ∧ IntsS W W.heap.size A 1 cp [hold]
        | 6 => v = .agg #[.bool (noneQ c.holds.length [hold]), .int .i64 4]
        | 7 => v = (.agg #[.slice A1 c.heat.length c1, .int .i64 c.gas, .slice A2 c.holds.length c2, .slice A3 c.lots.length c3, .slice A4 c.seen.length c4])
        | 8 => v = .int .i64 until'
        | 9 => ∃ A cp, v = .slice A 1 cp ∧ IntsS W W.heap.size A 1 cp [until']
        | 10 => v = .agg #[.bool (noneQ (c.heat.length + 1) [until']), .int .i64 7]
        | 11 => ∃ A cp, v = .slice A 2 cp ∧ Row W W.heap.size A (2 * 2) (askedF [(noneQ c.holds.length [hold], (4 : Int)), (noneQ (c.heat.length + 1) [until'], (7 : Int))])
        | 12 => ∃ p, v = .tuple #[.pointer p, .int .i64 (enterE c [(noneQ c.holds.length [hold], (4 : Int)), (noneQ (c.heat.length + 1) [until'], (7 : Int))])] ∧ EntryP W w.heap.size c A1 A2 A3 A4 c1 c2 c3 c4 [(noneQ c.holds.length [hold], (4 : Int)), (noneQ (c.heat.length + 1) [until'], (7 : Int))] p
        | 13 => ∃ p, v = .tuple #[.pointer p, .int .i64 (enterE c [(noneQ c.holds.length [hold], (4 : Int)), (noneQ (c.heat.length + 1) [until'], (7 : Int))])] ∧ EntryP W w.heap.size c A1 A2 A3 A4 c1 c2 c3 c4 [(noneQ c.holds.length [hold], (4 : Int)), (noneQ (c.heat.length + 1) [until'], (7 : Int))] p
        | 14 => ∃ p, v = .pointer p ∧ EntryP W w.heap.size c A1 A2 A3 A4 c1 c2 c3 c4 [(noneQ c.holds.length [hold], (4 : Int)), (noneQ (c.heat.length + 1) [until'], (7 : Int))] p
        | 15 => v = .int .i64 (enterE c [(noneQ c.holds.length [hold], (4 : Int)), (noneQ (c.heat.length + 1) [until'], (7 : Int))])
        | 16 => ∃ g, v = .pointer (some ⟨g, 0, none⟩) ∧ w0.heap.size ≤ g ∧ g < W.heap.size ∧ W.cell? ⟨g, 0, none⟩ = some (.pointer none) ∧ W.frozen? ⟨g, 0, none⟩ = false
        | _ => True) (by kernel_rfl) (by kernel_rfl) ?hst ?hstep ?hend
    case hst =>
      intro i v W W' h hb
      match i, h with
      | 0, h => exact h
      | 1, h => exact h
      | 2, h => exact h
      | 3, h => exact h
      | 4, h => exact h
      | 5, h => (obtain ⟨A, cp, h1, h2⟩ := h; exact ⟨A, cp, h1, h2.next hb⟩)
      | 6, h => exact h
      | 7, h => exact h
      | 8, h => exact h
      | 9, h => (obtain ⟨A, cp, h1, h2⟩ := h; exact ⟨A, cp, h1, h2.next hb⟩)
      | 10, h => exact h
      | 11, h => (obtain ⟨A, cp, h1, h2⟩ := h; exact ⟨A, cp, h1, (h2.below hb).more hb.size⟩)
      | 12, h => (obtain ⟨p, h1, h2⟩ := h; exact ⟨p, h1, h2.below hb⟩)
      | 13, h => (obtain ⟨p, h1, h2⟩ := h; exact ⟨p, h1, h2.below hb⟩)
      | 14, h => (obtain ⟨p, h1, h2⟩ := h; exact ⟨p, h1, h2.below hb⟩)
      | 15, h => exact h
      | 16, h => (obtain ⟨g, h1, h2, h3, h4, h5⟩ := h; exact ⟨g, h1, h2, by have := hb.size; omega, (hb.cell (p := ⟨g, 0, none⟩) h3).trans h4, (hb.frozen (p := ⟨g, 0, none⟩) h3).trans h5⟩)
      | i + 17, h => exact trivial
    case hstep =>
      intro i hi hm listed vs a W hU haft K hK
      have hb := ((Below.refl w0.heap.size w0).drew).trans hU.below
      have hz : w.heap.size < w0.heap.size := by omega
      match i, hi, hm with
      | 0, hi, hm =>
        have z3 : a.tmps[3]?.getD undef = .pointer (some ⟨w.heap.size, 0, none⟩) := hU.same 3 (by decide)
        have y0 := (hb.cell (p := ⟨w.heap.size, 0, none⟩) hz).trans pb0
        have y1 := (hb.cell (p := ⟨w.heap.size, 1, none⟩) hz).trans pb1
        have y2 := (hb.cell (p := ⟨w.heap.size, 2, none⟩) hz).trans pb2
        have y3 := (hb.cell (p := ⟨w.heap.size, 3, none⟩) hz).trans pb3
        have y4 := (hb.cell (p := ⟨w.heap.size, 4, none⟩) hz).trans pb4
        refine wpOp_value (v := (.agg #[.slice A1 c.heat.length c1, .int .i64 c.gas, .slice A2 c.holds.length c2, .slice A3 c.lots.length c3, .slice A4 c.seen.length c4])) (W' := W) rfl rfl ?_ (hK _ _ (Below.refl _ _) rfl)
        go_simp
      | 1, hi, hm =>
        have z3 : a.tmps[3]?.getD undef = .pointer (some ⟨w.heap.size, 0, none⟩) := hU.same 3 (by decide)
        refine wpOp_value (v := .pointer (some ⟨w.heap.size, 2, none⟩)) (W' := W) rfl rfl ?_ (hK _ _ (Below.refl _ _) rfl)
        go_simp
      | 2, hi, hm =>
        have l1 := haft _ rfl { on := 1, ground := .data } (by simp) rfl
        have p1 := hU.pv 1 l1
        have s1 : a.tmps[13]?.getD undef = vs 1 := hU.slot 1 (by decide) l1
        have hv1 : vs 1 = .pointer (some ⟨w.heap.size, 2, none⟩) := p1
        rw [hv1] at s1
        have y2 := (hb.cell (p := ⟨w.heap.size, 2, none⟩) hz).trans pb2
        refine wpOp_value (v := .slice A2 c.holds.length c2) (W' := W) rfl rfl ?_ (hK _ _ (Below.refl _ _) rfl)
        go_simp
      | 3, hi, hm =>
        have l2 := haft _ rfl { on := 2, ground := .data } (by simp) rfl
        have p2 := hU.pv 2 l2
        have s2 : a.tmps[14]?.getD undef = vs 2 := hU.slot 2 (by decide) l2
        have hv2 : vs 2 = .slice A2 c.holds.length c2 := p2
        rw [hv2] at s2
        refine wpOp_value (v := .int .i64 (c.holds.length : Nat)) (W' := W) rfl rfl ?_ (hK _ _ (Below.refl _ _) rfl)
        go_simp
      | 4, hi, hm =>
        have z4 : a.tmps[4]?.getD undef = .pointer (some ⟨w.heap.size + 1, 0, none⟩) := hU.same 4 (by decide)
        have cl := (hb.cell (p := ⟨w.heap.size + 1, 0, none⟩) (by show w.heap.size + 1 < _; omega)).trans pl1
        refine wpOp_value (v := .int .i64 hold) (W' := W) rfl rfl ?_ (hK _ _ (Below.refl _ _) rfl)
        go_simp
      | 5, hi, hm =>
        have l4 := haft _ rfl { on := 4, ground := .data } (by simp) rfl
        have p4 := hU.pv 4 l4
        have s4 : a.tmps[16]?.getD undef = vs 4 := hU.slot 4 (by decide) l4
        have hv4 : vs 4 = .int .i64 hold := p4
        rw [hv4] at s4
        refine wpOp_value (v := .slice (some ⟨W.heap.size, 0, none⟩) 1 1) (W' := W.alloc (.cells #[.int .i64 hold] 3)) rfl rfl ?_ (hK _ _ ((Below.refl _ _).alloc (Nat.le_refl _) _) ⟨_, _, rfl, (IntsS.lit1 rfl hold).more (by simp)⟩)
        go_simp
      | 6, hi, hm =>
        have l3 := haft _ rfl { on := 3, ground := .data } (by simp) rfl
        have p3 := hU.pv 3 l3
        have s3 : a.tmps[15]?.getD undef = vs 3 := hU.slot 3 (by decide) l3
        have hv3 : vs 3 = .int .i64 (c.holds.length : Nat) := p3
        rw [hv3] at s3
        have l5 := haft _ rfl { on := 5, ground := .data } (by simp) rfl
        have p5 := hU.pv 5 l5
        have s5 : a.tmps[17]?.getD undef = vs 5 := hU.slot 5 (by decide) l5
        obtain ⟨A, cp, hv5, hi⟩ := p5
        rw [hv5] at s5
        refine wpOp_enter (f := 69) (args := #[.int .i64 (c.holds.length : Nat), .slice A 1 cp]) (W' := W) rfl rfl ?_ ((none_any hi (c.holds.length : Nat) (by omega)).mono (fun e w'' h => ?_))
        · go_simp
        · obtain ⟨he, hbw⟩ := h
          exact ⟨_, he, hK _ _ hbw rfl⟩
      | 7, hi, hm =>
        have z3 : a.tmps[3]?.getD undef = .pointer (some ⟨w.heap.size, 0, none⟩) := hU.same 3 (by decide)
        have y0 := (hb.cell (p := ⟨w.heap.size, 0, none⟩) hz).trans pb0
        have y1 := (hb.cell (p := ⟨w.heap.size, 1, none⟩) hz).trans pb1
        have y2 := (hb.cell (p := ⟨w.heap.size, 2, none⟩) hz).trans pb2
        have y3 := (hb.cell (p := ⟨w.heap.size, 3, none⟩) hz).trans pb3
        have y4 := (hb.cell (p := ⟨w.heap.size, 4, none⟩) hz).trans pb4
        refine wpOp_value (v := (.agg #[.slice A1 c.heat.length c1, .int .i64 c.gas, .slice A2 c.holds.length c2, .slice A3 c.lots.length c3, .slice A4 c.seen.length c4])) (W' := W) rfl rfl ?_ (hK _ _ (Below.refl _ _) rfl)
        go_simp
      | 8, hi, hm =>
        have z5 : a.tmps[5]?.getD undef = .pointer (some ⟨w.heap.size + 1 + 1, 0, none⟩) := hU.same 5 (by decide)
        have cl := (hb.cell (p := ⟨w.heap.size + 1 + 1, 0, none⟩) (by show w.heap.size + 1 + 1 < _; omega)).trans pl2
        refine wpOp_value (v := .int .i64 until') (W' := W) rfl rfl ?_ (hK _ _ (Below.refl _ _) rfl)
        go_simp
      | 9, hi, hm =>
        have l8 := haft _ rfl { on := 8, ground := .data } (by simp) rfl
        have p8 := hU.pv 8 l8
        have s8 : a.tmps[20]?.getD undef = vs 8 := hU.slot 8 (by decide) l8
        have hv8 : vs 8 = .int .i64 until' := p8
        rw [hv8] at s8
        refine wpOp_value (v := .slice (some ⟨W.heap.size, 0, none⟩) 1 1) (W' := W.alloc (.cells #[.int .i64 until'] 3)) rfl rfl ?_ (hK _ _ ((Below.refl _ _).alloc (Nat.le_refl _) _) ⟨_, _, rfl, (IntsS.lit1 rfl until').more (by simp)⟩)
        go_simp
      | 10, hi, hm =>
        have l7 := haft _ rfl { on := 7, ground := .data } (by simp) rfl
        have p7 := hU.pv 7 l7
        have s7 : a.tmps[19]?.getD undef = vs 7 := hU.slot 7 (by decide) l7
        have hv7 : vs 7 = (.agg #[.slice A1 c.heat.length c1, .int .i64 c.gas, .slice A2 c.holds.length c2, .slice A3 c.lots.length c3, .slice A4 c.seen.length c4]) := p7
        rw [hv7] at s7
        have l9 := haft _ rfl { on := 9, ground := .data } (by simp) rfl
        have p9 := hU.pv 9 l9
        have s9 : a.tmps[21]?.getD undef = vs 9 := hU.slot 9 (by decide) l9
        obtain ⟨A, cp, hv9, hi⟩ := p9
        rw [hv9] at s9
        refine wpOp_enter (f := 78) (args := #[(.agg #[.slice A1 c.heat.length c1, .int .i64 c.gas, .slice A2 c.holds.length c2, .slice A3 c.lots.length c3, .slice A4 c.seen.length c4]), .slice A 1 cp]) (W' := W) rfl rfl ?_ ((hoursQ_any hi (by omega)).mono (fun e w'' h => ?_))
        · go_simp
        · obtain ⟨he, hbw⟩ := h
          exact ⟨_, he, hK _ _ hbw rfl⟩
      | 11, hi, hm =>
        have l6 := haft _ rfl { on := 6, ground := .data } (by simp) rfl
        have p6 := hU.pv 6 l6
        have s6 : a.tmps[18]?.getD undef = vs 6 := hU.slot 6 (by decide) l6
        have hv6 : vs 6 = .agg #[.bool (noneQ c.holds.length [hold]), .int .i64 4] := p6
        rw [hv6] at s6
        have l10 := haft _ rfl { on := 10, ground := .data } (by simp) rfl
        have p10 := hU.pv 10 l10
        have s10 : a.tmps[22]?.getD undef = vs 10 := hU.slot 10 (by decide) l10
        have hv10 : vs 10 = .agg #[.bool (noneQ (c.heat.length + 1) [until']), .int .i64 7] := p10
        rw [hv10] at s10
        refine wpOp_value (v := .slice (some ⟨W.heap.size, 0, none⟩) 2 2) (W' := W.alloc (.cells #[.bool (noneQ c.holds.length [hold]), .int .i64 4, .bool (noneQ (c.heat.length + 1) [until']), .int .i64 7] 104)) rfl rfl ?_ (hK _ _ ((Below.refl _ _).alloc (Nat.le_refl _) _) ⟨_, _, rfl, askedRow2 (noneQ c.holds.length [hold], (4 : Int)) (noneQ (c.heat.length + 1) [until'], (7 : Int))⟩)
        go_simp
      | 12, hi, hm =>
        have l0 := haft _ rfl { on := 0, ground := .data } (by simp) rfl
        have p0 := hU.pv 0 l0
        have s0 : a.tmps[12]?.getD undef = vs 0 := hU.slot 0 (by decide) l0
        have hv0 : vs 0 = (.agg #[.slice A1 c.heat.length c1, .int .i64 c.gas, .slice A2 c.holds.length c2, .slice A3 c.lots.length c3, .slice A4 c.seen.length c4]) := p0
        rw [hv0] at s0
        have l11 := haft _ rfl { on := 11, ground := .data } (by simp) rfl
        have p11 := hU.pv 11 l11
        have s11 : a.tmps[23]?.getD undef = vs 11 := hU.slot 11 (by decide) l11
        obtain ⟨A, cp, hv11, hr⟩ := p11
        rw [hv11] at s11
        refine wpOp_enter (f := 68) (args := #[(.agg #[.slice A1 c.heat.length c1, .int .i64 c.gas, .slice A2 c.holds.length c2, .slice A3 c.lots.length c3, .slice A4 c.seen.length c4]), .slice A 2 cp]) (W' := W) rfl rfl ?_ ((enter_entry HCV.out (HB0.out.trans (hb.mono (by omega))) hr rfl (by omega) (fun j hj => match j, hj with | 0, _ => by simp [nth] | 1, _ => by simp [nth] | j + 2, hj => absurd hj (by omega))).mono (fun e w'' h => ?_))
        · go_simp
        · obtain ⟨p, he, h1, h2⟩ := h
          exact ⟨_, he, hK _ _ h2 ⟨p, rfl, h1⟩⟩
      | 13, hi, hm =>
        have l12 := haft _ rfl { on := 12, ground := .data } (by simp) rfl
        have p12 := hU.pv 12 l12
        have s12 : a.tmps[24]?.getD undef = vs 12 := hU.slot 12 (by decide) l12
        obtain ⟨p, hv12, hp⟩ := p12
        rw [hv12] at s12
        refine wpOp_value (v := .tuple #[.pointer p, .int .i64 (enterE c [(noneQ c.holds.length [hold], (4 : Int)), (noneQ (c.heat.length + 1) [until'], (7 : Int))])]) (W' := W) rfl rfl ?_ (hK _ _ (Below.refl _ _) ⟨p, rfl, hp⟩)
        go_simp
      | 14, hi, hm =>
        have l13 := haft _ rfl { on := 13, ground := .data } (by simp) rfl
        have p13 := hU.pv 13 l13
        have s13 : a.tmps[11]?.getD undef = vs 13 := hU.slot 13 (by decide) l13
        obtain ⟨p, hv13, hp⟩ := p13
        rw [hv13] at s13
        refine wpOp_value (v := .pointer p) (W' := W) rfl rfl ?_ (hK _ _ (Below.refl _ _) ⟨p, rfl, hp⟩)
        go_simp
      | 15, hi, hm =>
        have l13 := haft _ rfl { on := 13, ground := .data } (by simp) rfl
        have p13 := hU.pv 13 l13
        have s13 : a.tmps[11]?.getD undef = vs 13 := hU.slot 13 (by decide) l13
        obtain ⟨p, hv13, hp⟩ := p13
        rw [hv13] at s13
        refine wpOp_value (v := .int .i64 (enterE c [(noneQ c.holds.length [hold], (4 : Int)), (noneQ (c.heat.length + 1) [until'], (7 : Int))])) (W' := W) rfl rfl ?_ (hK _ _ (Below.refl _ _) rfl)
        go_simp
      | 16, hi, hm =>
        refine wpOp_value (v := .pointer (some ⟨W.heap.size, 0, none⟩)) (W' := W.alloc (.cells #[.pointer none] 100)) rfl rfl ?_ (hK _ _ ((Below.refl _ _).alloc (Nat.le_refl _) _) ⟨_, rfl, hb.size, by simp, by rw [World.cell?_alloc_at _ _ _ _ rfl]; rfl, World.frozen?_alloc_at _ _ _ _ rfl⟩)
        go_simp
      | i + 17, hi, hm => exact absurd (of_decide_eq_true hm) (by omega)
    case hend =>
      intro listed vs a W hG hpre
      have hb := ((Below.refl w0.heap.size w0).drew).trans hG.below
      obtain ⟨p, hvP, hp⟩ := hG.pv 14 (hpre 14 (by decide) (by decide))
      obtain ⟨g, hvC, g1, g2, g3, g4⟩ := hG.pv 16 (hpre 16 (by decide) (by decide))
      have hact := hG.act
      cases hl : listed.getD 15 false with
      | true =>
        have hvE : vs 15 = .int .i64 (enterE c [(noneQ c.holds.length [hold], (4 : Int)), (noneQ (c.heat.length + 1) [until'], (7 : Int))]) := hG.pv 15 hl
        have hT := hG.lst hpre 15 #[true, true, true, true, true, true, true, true, true, true, true, true, true, true, true, true, true, false, false] rfl (by kernel_rfl) (by rw [hl]; rfl)
        have hlo := hG.lo hT (k := 2) (by kernel_rfl)
        have hix := hG.ix hT (l := [0, 1, 2, 3, 4, 5, 6, 7, 8, 9, 10, 11, 12, 13, 14, 15, 16]) (by kernel_rfl)
        rw [hix] at hact
        obtain rfl : a = _ := hact
        rw [hlo]
        subst hT
        simp only [setAll, List.setIfInBounds_toArray, List.set_cons_succ, List.set_cons_zero, List.getD_cons_succ, List.getD_cons_zero, hvP, hvC, hvE]
        refine wpAny_all (rs := [17]) (by kernel_rfl) (by simp) ?_
        intro i hi
        obtain rfl : i = 17 := by simpa using hi
        refine wpOp_skip (W' := W.setCell ⟨g, 0, none⟩ (.pointer p)) rfl rfl ?_ ?_
        · go_simp
        refine wpAny_all (rs := [18]) (by kernel_rfl) (by simp) ?_
        intro i hi
        obtain rfl : i = 18 := by simpa using hi
        refine wpOp_value (v := .int .i64 (enterE c [(noneQ c.holds.length [hold], (4 : Int)), (noneQ (c.heat.length + 1) [until'], (7 : Int))])) (W' := W.setCell ⟨g, 0, none⟩ (.pointer p)) rfl rfl ?_ ?_
        · go_simp
        refine wpAny_done (by kernel_rfl) ?_ _
        refine ⟨rfl, g, p, _, _, _, _, _, _, _, _, _, _, _, _, _, _, _, _, rfl, hb.setCell g1 _, hp.store (by omega) g3 (fun _ _ _ h => by cases h), g1, by simpa using g2, ?_, ?_⟩
        · go_simp
        · go_simp
      | false =>
        have hT := hG.lst hpre 15 #[true, true, true, true, true, true, true, true, true, true, true, true, true, true, true, false, true, false, false] rfl (by kernel_rfl) (by rw [hl]; rfl)
        have hlo := hG.lo hT (k := 2 + 1) (by kernel_rfl)
        have hix := hG.ix hT (l := [0, 1, 2, 3, 4, 5, 6, 7, 8, 9, 10, 11, 12, 13, 14, 16]) (by kernel_rfl)
        rw [hix] at hact
        obtain rfl : a = _ := hact
        rw [hlo]
        subst hT
        obtain ⟨p', hv9, _⟩ := hG.pv 13 (hpre 13 (by decide) (by decide))
        simp only [setAll, List.setIfInBounds_toArray, List.set_cons_succ, List.set_cons_zero, List.getD_cons_succ, List.getD_cons_zero, hvP, hvC, hv9]
        refine wpAny_take (i := 15) (v := .int .i64 (enterE c [(noneQ c.holds.length [hold], (4 : Int)), (noneQ (c.heat.length + 1) [until'], (7 : Int))])) rfl (by kernel_rfl) (by kernel_rfl) (by kernel_rfl) (fun _ _ _ h => by cases h.1) (Or.inl ⟨by rfl, fun W => ?_⟩) ?_
        · go_simp
        try simp only [Act.put, List.setIfInBounds_toArray, List.set_cons_zero, List.set_cons_succ]
        refine wpAny_all (rs := [17]) (by kernel_rfl) (by simp) ?_
        intro i hi
        obtain rfl : i = 17 := by simpa using hi
        refine wpOp_skip (W' := W.setCell ⟨g, 0, none⟩ (.pointer p)) rfl rfl ?_ ?_
        · go_simp
        refine wpAny_all (rs := [18]) (by kernel_rfl) (by simp) ?_
        intro i hi
        obtain rfl : i = 18 := by simpa using hi
        refine wpOp_value (v := .int .i64 (enterE c [(noneQ c.holds.length [hold], (4 : Int)), (noneQ (c.heat.length + 1) [until'], (7 : Int))])) (W' := W.setCell ⟨g, 0, none⟩ (.pointer p)) rfl rfl ?_ ?_
        · go_simp
        refine wpAny_done (by kernel_rfl) ?_ _
        refine ⟨rfl, g, p, _, _, _, _, _, _, _, _, _, _, _, _, _, _, _, _, rfl, hb.setCell g1 _, hp.store (by omega) g3 (fun _ _ _ h => by cases h), g1, by simpa using g2, ?_, ?_⟩
        · go_simp
        · go_simp
  case imp =>
  rintro a w1 ⟨g, p, x0, x1, x2, x3, x4, x5, x6, x7, x8, x9, x10, x11, x12, x13, x14, x15, rfl, hB1, HP, hg1, hg2, hgc, hgf⟩
  have hz1 := hB1.size
  have HB1 := hide (HB0.out.trans (hB1.mono (by omega)))
  have pl1 := (hB1.cell (p := ⟨w.heap.size + 1, 0, none⟩) (by show w.heap.size + 1 < _; omega)).trans pl1
  have pl2 := (hB1.cell (p := ⟨w.heap.size + 1 + 1, 0, none⟩) (by show w.heap.size + 1 + 1 < _; omega)).trans pl2
  have pb3 := (hB1.cell (p := ⟨w.heap.size, 3, none⟩) (by show w.heap.size < _; omega)).trans pb3
  have HE := hide (show outV c hold until' = if enterE c [(noneQ c.holds.length [hold], (4 : Int)), (noneQ (c.heat.length + 1) [until'], (7 : Int))] ≠ 0 then ([], enterE c [(noneQ c.holds.length [hold], (4 : Int)), (noneQ (c.heat.length + 1) [until'], (7 : Int))]) else
  ((fwTo c.lots.length (outDo c until' (ofB c hold c.lots.length) hold.toNat) (2 ^ c.lots.length)).getD [], 0) from rfl)
  have HP1 := hide HP
  have HF := hide (fun h => firstAsk_zero (c := c) (xs := [(noneQ c.holds.length [hold], (4 : Int)), (noneQ (c.heat.length + 1) [until'], (7 : Int))]) h (by simp))
  clear hB1 HB0 pb0 pb1 pb2 pb4 HP
  unfold EntryP at HP1
  generalize enterE c [(noneQ c.holds.length [hold], (4 : Int)), (noneQ (c.heat.length + 1) [until'], (7 : Int))] = E at *
  clear HCV
  cases hce : (E != 0) with
  | true =>
    have HNE := hide (show E ≠ 0 by simpa using hce)
    go_wp2_with fail
    go_ret2
    have hR := HE.out
    rw [if_pos HNE.out] at hR
    rw [hR]
    exact ⟨none, 0, rfl, ⟨rfl, Nat.le_refl _, by simp [maxLen], Row.nil_⟩, HB1.out⟩
  | false =>
    have hE : E = 0 := by simpa using hce
    obtain ⟨hv, b, bm, rfl, hb, hbm, hlk⟩ := HP1.out hE
    obtain ⟨hx, _⟩ := HF.out hE
    have hho := noneQ_one (hx (noneQ c.holds.length [hold], 4) (by simp))
    obtain ⟨hold, rfl⟩ : ∃ k : Nat, hold = (k : Int) := ⟨hold.toNat, by omega⟩
    have hR := HE.out
    rw [if_neg (by simp [hE]), Int.toNat_natCast] at hR
    have HR := hide hR
    have HLK := hide hlk
    have HV := hide hv
    have hbz := hlk.hb
    have hmz := hlk.hm
    have hgm : g ≠ bm := hlk.k.ne hgc
    have hlot5 := hv.lots
    have hof := of_any' hlk.look hv.small (hold : Int)
    have HOF := hide hof
    have hall : ofB c (hold : Int) c.lots.length < 32 := Nat.lt_of_lt_of_le (ofB_lt c hold c.lots.length) (Nat.le_trans (Nat.pow_le_pow_right (by omega) (show c.lots.length ≤ 5 by omega)) (by decide))
    clear hx hlk hv hR HE HF HP1 hce hof
    subst hE
    have hz3 : w.heap.size < w1.heap.size := by omega
    generalize hall' : ofB c (hold : Int) c.lots.length = all at *
    clear hall'
    set_option maxHeartbeats 400000 in
    go_upto_region 5 with (go_at_call 90
                           refine HOF.out.mono ?_
                           rintro e w2 ⟨rfl, hb2⟩)
    have hz2 := hb2.size
    have pb3 := (hb2.cell (p := ⟨w.heap.size, 3, none⟩) (by show w.heap.size < _; omega)).trans pb3
    have hzw : w.heap.size < w2.heap.size := by omega
    have hA2 : Below w2.heap.size w2 (w2.alloc (.cells #[.int .i64 (all : Nat)] 3)) := (Below.refl _ _).alloc (Nat.le_refl _) _
    have hA : Below w1.heap.size w1 (w2.alloc (.cells #[.int .i64 (all : Nat)] 3)) := hb2.trans (hA2.mono hz2)
    have d0 : ((w2.alloc (.cells #[.int .i64 (all : Nat)] 3))).cell? ⟨w2.heap.size, 0, none⟩ = some (.int .i64 (all : Nat)) := by rw [World.cell?_alloc_at _ _ _ _ rfl]; rfl
    have hO : OutO (w2.alloc (.cells #[.int .i64 (all : Nat)] 3)) w.heap.size b bm w2.heap.size g (w.heap.size + 1) w.heap.size (w.heap.size + 1 + 1) all hold c A1 A2 A3 A4 c1 c2 c3 c4 until' :=
      ⟨HLK.out.keep' (Keep.of_below' hA (fun _ => False)) (fun _ h => h.elim), d0, (hA.cell (p := ⟨g, 0, none⟩) hg2).trans hgc, (hA.cell (p := ⟨w.heap.size + 1, 0, none⟩) (by show w.heap.size + 1 < _; omega)).trans pl1,
        (hA2.cell (p := ⟨w.heap.size, 3, none⟩) hzw).trans pb3, (hA.cell (p := ⟨w.heap.size + 1 + 1, 0, none⟩) (by show w.heap.size + 1 + 1 < _; omega)).trans pl2⟩
    have hf := fewest_any (out_f hO HV.out (by omega) hall hlot5) hlot5
    have HFW := hide hf
    have HA := hide hA
    have pb3 := (hA2.cell (p := ⟨w.heap.size, 3, none⟩) hzw).trans pb3
    have hz4 : w1.heap.size ≤ (w2.alloc (.cells #[.int .i64 (all : Nat)] 3)).heap.size := hA.size
    clear hf hA hA2 hO d0 HOF
    generalize (w2.alloc (.cells #[.int .i64 (all : Nat)] 3)) = w4 at *
    go_wp2_with (go_at_call 91; refine HFW.out.mono ?_; rintro e w3 ⟨A, cp, rfl, hi3, hk3, -⟩)
    go_ret2
    rw [HR.out]
    exact ⟨A, cp, rfl, hi3, HB1.out.trans ((HA.out.mono (by omega)).trans (hk3.below (fun k h => by omega) (by omega)))⟩
end Go.Proofs.Ytbkknliggnhpcaa
/- Two rows of hours are compared (==). -/
namespace Go.Proofs.Ytbkknliggnhpcaa
open Go.RowKit

theorem Try.rowLots : (108 : TypeId) < Try.prog.types.size := of_decide_eq_true (by kernel_rfl)
theorem Try.wideLots : (match Try.prog.underlying 108 with | some (.array _ _) | some (.struct _) => true | _ => false) = true := by kernel_rfl
theorem Try.keyAtLots : Try.prog.keyTypeAt 2 108 = true := by kernel_rfl
theorem Try.keyTypeLots : Try.prog.keyType 108 = true := by kernel_rfl
set_option maxRecDepth 100000 in
theorem Try.keyLots : WideMaps.KeyLaw Try.prog 108 := deep_law_laid Try.laidOut (m := 2) (by omega) Try.rowLots (by kernel_rfl) Try.wideLots
theorem lots_key {a b c e f : Int} (ha : wfI a) (hb : wfI b) (hc : wfI c) (he : wfI e) (hf : wfI f) : ∃ l, keyOf Try.prog 108 (.agg #[iv a, iv b, iv c, iv e, iv f]) = some l := by
  obtain ⟨d, hd⟩ := Try.sizeTypes
  have hu := Try.underlying108
  have hfm : (Value.agg #[iv a, iv b, iv c, iv e, iv f]).formed Try.prog 108 = true := by simp [Value.formed, hu, Try.cellsLots]
  have hl : Try.prog.keyLits (d + 3) 108 (Value.agg #[iv a, iv b, iv c, iv e, iv f]).cells.toList = some [.int .i64 a, .int .i64 b, .int .i64 c, .int .i64 e, .int .i64 f] := lits_lots (d + 1) ha hb hc he hf
  refine ⟨.string (keyBytes [.int .i64 a, .int .i64 b, .int .i64 c, .int .i64 e, .int .i64 f]), ?_⟩
  unfold keyOf
  rw [hu]
  simp only [Try.keyTypeLots, hfm, hd, hl]
  simp
/-- The first five are the same. -/
def same5 (x y : List Int) : Bool := (List.range 5).all fun i => nth x i == nth y i
theorem same5_iff {x y : List Int} : same5 x y = true ↔ ∀ i, i < 5 → nth x i = nth y i := by
  simp [same5, List.all_eq_true, List.mem_range]
set_option maxRecDepth 100000 in
theorem run_eq_lots {x y : List Int} (hx : ∀ i, wfI (nth x i)) (hy : ∀ i, wfI (nth y i)) (w : World) :
    (Op.equalIn 10000 108 (.agg #[iv (nth x 0), iv (nth x 1), iv (nth x 2), iv (nth x 3), iv (nth x 4)]) (.agg #[iv (nth y 0), iv (nth y 1), iv (nth y 2), iv (nth y 3), iv (nth y 4)])).run Try.prog w =
      .ok (same5 x y) w := by
  obtain ⟨lx, hlx⟩ := lots_key (hx 0) (hx 1) (hx 2) (hx 3) (hx 4)
  obtain ⟨ly, hly⟩ := lots_key (hy 0) (hy 1) (hy 2) (hy 3) (hy 4)
  obtain ⟨r, hr, hiff⟩ := run_equal_deep w (m := 2) (by omega) Try.keyAtLots Try.wideLots hlx hly
  have : r = same5 x y := by
    rw [Bool.eq_iff_iff, hiff, same5_iff]
    constructor
    · rintro rfl
      have := Try.keyLots.inj hlx hly
      simp only [iv, Value.agg.injEq, Array.mk.injEq, List.cons.injEq, Value.int.injEq, true_and, and_true] at this
      obtain ⟨h0, h1, h2, h3, h4⟩ := this
      intro i hi
      obtain rfl | rfl | rfl | rfl | rfl : i = 0 ∨ i = 1 ∨ i = 2 ∨ i = 3 ∨ i = 4 := by omega
      all_goals assumption
    · intro h
      rw [h 0 (by omega), h 1 (by omega), h 2 (by omega), h 3 (by omega), h 4 (by omega), hly] at hlx
      cases hlx; rfl
  subst this
  simp only [Op.equal, Op.maxDepth] at hr
  exact hr
end Go.Proofs.Ytbkknliggnhpcaa
/- Contract of the question of Put. -/
namespace Go.Proofs.Ytbkknliggnhpcaa
open Go.RowKit
attribute [local go_sem ↓] Go.wp_at_zero Go.wp_at_succ

/-- A state with one more lot, of some green. -/
def putSt (s : St) (last : Nat) (n : Int) : St := { s with greens := s.greens.set last n, there := (s.there.toNat ||| 2 ^ last : Nat) }
theorem or32 {a j : Nat} (ha : a < 32) (hj : j < 5) : a ||| 2 ^ j < 32 := Nat.or_lt_two_pow (n := 5) (by omega) (Nat.lt_of_lt_of_le (Nat.pow_lt_pow_right (by omega) hj) (by decide))
theorem nth_set5 {l : List Int} {j i : Nat} {x : Int} (hj : j < l.length) : nth (l.set j x) i = if i = j then x else nth l i := by
  by_cases h : i = j
  · subst h; simp [nth, hj]
  · rw [if_neg h]; simp [nth, List.getElem?_set, Ne.symm h]
theorem putSt_ok {s : St} (h : StB s) {last : Nat} (hl : last < 5) {n : Int} (hn : 0 ≤ n ∧ n ≤ 100) : StB (putSt s last n) :=
  ⟨by simp [putSt, h.len], fun i => by
    show -100 ≤ nth (s.greens.set last n) i ∧ nth (s.greens.set last n) i ≤ 100
    rw [nth_set5 (by have := h.len; omega)]
    split
    · omega
    · exact h.gb i, h.wb, h.hb, by
    show 0 ≤ ((s.there.toNat ||| 2 ^ last : Nat) : Int) ∧ ((s.there.toNat ||| 2 ^ last : Nat) : Int) < 32
    have := h.tb
    have := or32 (a := s.there.toNat) (j := last) (by omega) hl
    omega⟩
def L5 (t : List Int) : List Int := [nth t 0, nth t 1, nth t 2, nth t 3, nth t 4]
def fitN (cM : Cargo) (last : Nat) (until' : Int) (t : List Int) (s : St) (n : Int) : Bool :=
  decide (nth (timesV cM (putSt s last n)) last > until') && same5 ((L5 (timesV cM (putSt s last n))).set last (nth t last)) t
def putAns (cM : Cargo) (last : Nat) (lo hi until' : Int) (t : List Int) (s : St) : Bool := (List.range (hi - lo + 1).toNat).all fun k => fitN cM last until' t s (lo + k)
theorem row_put {s : St} (h : StB s) {last : Nat} (hl : last < 5) (m n : Int) : (stRow (putSt s last m)).set (2 + last) n = stRow (putSt s last n) := by
  have hlen := h.len
  match hg : s.greens, hlen with
  | [a, b, c, d, e], _ =>
    obtain rfl | rfl | rfl | rfl | rfl : last = 0 ∨ last = 1 ∨ last = 2 ∨ last = 3 ∨ last = 4 := by omega
    all_goals simp [putSt, stRow, hg, nth]

theorem timesV_bd (c : Cargo) (s : St) (i : Nat) : 0 ≤ nth (timesV c s) i ∧ nth (timesV c s) i ≤ (c.heat.length : Int) + 1 := by
  rcases Nat.lt_or_ge i 5 with h | h
  · have : nth (timesV c s) i = if (setL s.there.toNat c.lots.length).contains i then outAt c (setL s.there.toNat c.lots.length) s.warm s.greens (c.heat.length + 1) i else (c.heat.length : Int) + 1 := by
      rw [nth_eq (by rw [timesV, timesP_length]; exact h)]; simp [timesV, timesP]
    rw [this]
    split
    · exact outAt_bd _ (Nat.le_refl _)
    · omega
  · have : nth (timesV c s) i = 0 := by
      rw [nth, List.getD_eq_getElem?_getD, List.getElem?_eq_none (by rw [timesV, timesP_length]; exact h)]; rfl
    omega
theorem timesV_wf {c : Cargo} (h : Small c) (s : St) (i : Nat) : wfI (nth (timesV c s) i) := by
  have := timesV_bd c s i
  have := h.hours
  exact (wfI_iff _).2 (by omega)
theorem L5_eq {t : List Int} (h : t.length = 5) : L5 t = t := by
  match t, h with
  | [a, b, c, d, e], _ => rfl
theorem row_put0 {s : St} (h : StB s) {last : Nat} (hl : last < 5) (n : Int) : ((stRow s).set 7 (s.there.toNat ||| 2 ^ last : Nat)).set (2 + last) n = stRow (putSt s last n) := by
  have hlen := h.len
  match hg : s.greens, hlen with
  | [a, b, c, d, e], _ =>
    obtain rfl | rfl | rfl | rfl | rfl : last = 0 ∨ last = 1 ∨ last = 2 ∨ last = 3 ∨ last = 4 := by omega
    all_goals simp [putSt, stRow, hg, nth]
set_option maxHeartbeats 4000000 in
set_option maxRecDepth 100000 in
theorem put1_any {w : World} {L b bm : Nat} {c : Cargo} {A1 A2 A3 A4 : Option Addr} {c1 c2 c3 c4 but : Nat} {last bl bg g bu : Nat} {lo hi until' : Int} {s : St} (h : LookL w L b bm c A1 A2 A3 A4 c1 c2 c3 c4 but (timesV c)) (hsm : Small c) (hs : StB s) {t : List Int}
    (hlast : last < 5) (hlo : 0 ≤ lo ∧ lo ≤ 100) (hhi : 0 ≤ hi ∧ hi ≤ 100) (hl : w.cell? ⟨bl, 0, none⟩ = some (.int .i64 last)) (hg0 : w.cell? ⟨bg, 0, none⟩ = some (.int .i64 lo)) (hg1 : w.cell? ⟨bg, 1, none⟩ = some (.int .i64 hi))
    (hg : w.cell? ⟨g, 0, none⟩ = some (.pointer (some ⟨b, 0, none⟩))) (hu : w.cell? ⟨bu, 0, none⟩ = some (.int .i64 until')) (hwt : ∀ i, wfI (nth t i)) :
    Calls Try.prog 89 #[stVal s, lotsVal t, .pointer (some ⟨bl, 0, none⟩), .pointer (some ⟨bg, 0, none⟩), .pointer (some ⟨g, 0, none⟩), .pointer (some ⟨bu, 0, none⟩)] w fun e w' => e = .returned (.bool (putAns c last lo hi until' t s)) ∧ Keep (fun q => q = bm) w w' ∧ Known w' bm (timesV c) := by
  have z1 := cell_lt hl
  have z2 := cell_lt hg
  have z3 := cell_lt hg0
  have z4 := cell_lt hu
  have zb := h.hb
  have zm := h.hm
  have n1 := h.k.ne hl
  have n2 := h.k.ne hg
  have n3 := h.k.ne hg0
  have n4 := h.k.ne hu
  have HWTT := hide hwt
  clear hwt
  have hl0 : (0 : Int) ≤ (last : Int) := Int.natCast_nonneg _
  have hl5 : (last : Int) < 5 := by omega
  have htb := hs.tb
  have hbo := bits_or (m := s.there.toNat) (j := last) (by omega) hlast
  rw [show ((s.there.toNat : Nat) : Int) = s.there by omega] at hbo
  have HPA := hide (show putAns c last lo hi until' t s = (List.range (hi - lo + 1).toNat).all fun k => fitN c last until' t s (lo + k) from rfl)
  simp only [stVal, lotsVal, iv]
  go_enter Try.func89, Try.ntmps89
  go_upto_region 1 with (fail)
  have hB : Below w.heap.size w ((w.alloc (.cells #[.int .i64 s.hold, .int .i64 s.warm, .int .i64 (nth s.greens 0), .int .i64 (nth s.greens 1), .int .i64 (nth s.greens 2), .int .i64 (nth s.greens 3), .int .i64 (nth s.greens 4), .int .i64 s.there] 110)).alloc (.cells #[.int .i64 (nth t 0), .int .i64 (nth t 1), .int .i64 (nth t 2), .int .i64 (nth t 3), .int .i64 (nth t 4)] 108)) := ((Below.refl _ _).alloc (Nat.le_refl _) _).alloc (by simp) _
  have hS0 : OwnE 110 ((w.alloc (.cells #[.int .i64 s.hold, .int .i64 s.warm, .int .i64 (nth s.greens 0), .int .i64 (nth s.greens 1), .int .i64 (nth s.greens 2), .int .i64 (nth s.greens 3), .int .i64 (nth s.greens 4), .int .i64 s.there] 110)).alloc (.cells #[.int .i64 (nth t 0), .int .i64 (nth t 1), .int .i64 (nth t 2), .int .i64 (nth t 3), .int .i64 (nth t 4)] 108)) w.heap.size w.heap.size 8 (stRow s) := (OwnE.made8 w 110 _ _ _ _ _ _ _ _).block ((Below.refl (w.alloc (.cells #[.int .i64 s.hold, .int .i64 s.warm, .int .i64 (nth s.greens 0), .int .i64 (nth s.greens 1), .int .i64 (nth s.greens 2), .int .i64 (nth s.greens 3), .int .i64 (nth s.greens 4), .int .i64 s.there] 110)).heap.size (w.alloc (.cells #[.int .i64 s.hold, .int .i64 s.warm, .int .i64 (nth s.greens 0), .int .i64 (nth s.greens 1), .int .i64 (nth s.greens 2), .int .i64 (nth s.greens 3), .int .i64 (nth s.greens 4), .int .i64 s.there] 110))).alloc (Nat.le_refl _) (.cells #[.int .i64 (nth t 0), .int .i64 (nth t 1), .int .i64 (nth t 2), .int .i64 (nth t 3), .int .i64 (nth t 4)] 108) |>.block w.heap.size (by simp))
  have hR0 : OwnE 108 ((w.alloc (.cells #[.int .i64 s.hold, .int .i64 s.warm, .int .i64 (nth s.greens 0), .int .i64 (nth s.greens 1), .int .i64 (nth s.greens 2), .int .i64 (nth s.greens 3), .int .i64 (nth s.greens 4), .int .i64 s.there] 110)).alloc (.cells #[.int .i64 (nth t 0), .int .i64 (nth t 1), .int .i64 (nth t 2), .int .i64 (nth t 3), .int .i64 (nth t 4)] 108)) w.heap.size (w.heap.size + 1) 5 [nth t 0, nth t 1, nth t 2, nth t 3, nth t 4] := by
    have := (OwnE.made5 (w.alloc (.cells #[.int .i64 s.hold, .int .i64 s.warm, .int .i64 (nth s.greens 0), .int .i64 (nth s.greens 1), .int .i64 (nth s.greens 2), .int .i64 (nth s.greens 3), .int .i64 (nth s.greens 4), .int .i64 s.there] 110)) 108 (nth t 0) (nth t 1) (nth t 2) (nth t 3) (nth t 4)).base (base' := w.heap.size) (by simp)
    simpa using this
  have hzz : ((w.alloc (.cells #[.int .i64 s.hold, .int .i64 s.warm, .int .i64 (nth s.greens 0), .int .i64 (nth s.greens 1), .int .i64 (nth s.greens 2), .int .i64 (nth s.greens 3), .int .i64 (nth s.greens 4), .int .i64 s.there] 110)).alloc (.cells #[.int .i64 (nth t 0), .int .i64 (nth t 1), .int .i64 (nth t 2), .int .i64 (nth t 3), .int .i64 (nth t 4)] 108)).heap.size = w.heap.size + 1 + 1 := by simp
  generalize ((w.alloc (.cells #[.int .i64 s.hold, .int .i64 s.warm, .int .i64 (nth s.greens 0), .int .i64 (nth s.greens 1), .int .i64 (nth s.greens 2), .int .i64 (nth s.greens 3), .int .i64 (nth s.greens 4), .int .i64 s.there] 110)).alloc (.cells #[.int .i64 (nth t 0), .int .i64 (nth t 1), .int .i64 (nth t 2), .int .i64 (nth t 3), .int .i64 (nth t 4)] 108)) = w1 at *
  have l1 := (hB.cell (p := ⟨bl, 0, none⟩) z1).trans hl
  have l2 := (hB.cell (p := ⟨g, 0, none⟩) z2).trans hg
  have l3 := (hB.cell (p := ⟨bg, 0, none⟩) z3).trans hg0
  have l4 := (hB.cell (p := ⟨bg, 1, none⟩) z3).trans hg1
  have l5 := (hB.cell (p := ⟨bu, 0, none⟩) z4).trans hu
  have s7 := hS0.cell (i := 7) (by omega)
  have f7 := hS0.frozen 7
  rw [stRow, nth8_7] at s7
  have HB := hide hB
  have HS0 := hide hS0
  have HR0 := hide hR0
  have hLw := h.hL
  have HH := hide h
  clear hB hS0 hR0 hg hl hg0 hg1 hu h
  apply wp_one
  case h =>
    go_region
    all_goals first | exact ⟨rfl, rfl, rfl⟩ | trace_state
  case hq =>
  have hs2 := HS0.out.set 7 (s.there.toNat ||| 2 ^ last : Nat)
  have hkA : Keep (fun q => q = w.heap.size) w1 (w1.setCell ⟨w.heap.size, 7, none⟩ (.int .i64 (s.there.toNat ||| 2 ^ last : Nat))).drew := (Keep.setCell _ _ _ (fun q => q = w.heap.size) rfl).trans (Keep.of_below' (Below.refl _ _).drew _)
  have hs3 : OwnE 110 (w1.setCell ⟨w.heap.size, 7, none⟩ (.int .i64 (s.there.toNat ||| 2 ^ last : Nat))).drew w.heap.size w.heap.size 8 ((stRow s).set 7 (s.there.toNat ||| 2 ^ last : Nat)) := hs2.block rfl
  generalize (w1.setCell ⟨w.heap.size, 7, none⟩ (.int .i64 (s.there.toNat ||| 2 ^ last : Nat))).drew = w2 at *
  have hz2 := hkA.size
  have hz1 := HB.out.size
  have l1 := (hkA.cell (cell_lt l1) (by omega)).trans l1
  have l2 := (hkA.cell (cell_lt l2) (by omega)).trans l2
  have l3 := (hkA.cell (cell_lt l3) (by omega)).trans l3
  have l4 := (hkA.cell (cell_lt l4) (by omega)).trans l4
  have l5 := (hkA.cell (cell_lt l5) (by omega)).trans l5
  have HR2 := hide (HR0.out.block (hkA.block _ HR0.out.lt.2 (by omega)))
  have HL2 := hide (HH.out.keep' ((Keep.of_below' HB.out (fun q => w.heap.size ≤ q)).trans (hkA.mono (fun q _ e => by omega))) (fun q e => by have := HH.out.hL; omega))
  have HKK := hide (show Keep (fun q => q = bm) w w2 from Keep.mono ((Keep.of_below' HB.out (fun q => w.heap.size ≤ q)).trans (hkA.mono (fun q _ e => by omega))) (fun q hq e => by omega))
  have HS3 := hide hs3
  clear hs2 hkA hs3 HS0 HR0 HB HH f7 s7
  go_wp2_with fail
  have HLP := hide (fun n => row_put0 hs hlast n)
  have HLS := hide (fun (n : Int) (hn : 0 ≤ n ∧ n ≤ 100) => putSt_ok hs hlast hn)
  go_loopw [9, 10] (fun v9 _ wr => ∃ k : Nat, k ≤ (hi - lo + 1).toNat ∧ v9 = .int .i64 (lo + k) ∧ Keep (fun q => q = bm ∨ q = w.heap.size ∨ w2.heap.size ≤ q) w2 wr ∧ Known wr bm (timesV c) ∧ (∃ gl, OwnE 110 wr w.heap.size w.heap.size 8 gl ∧ Hid (∀ n, gl.set (2 + last) n = stRow (putSt s last n))) ∧
    Hid (∀ j, j < k → fitN c last until' t s (lo + j) = true)) (fun v9 _ _ => (hi + 1 - intOf v9).toNat)
  case atStart => exact ⟨0, Nat.zero_le _, by simp, Keep.refl _ _, HL2.out.k, ⟨_, HS3.out, HLP⟩, hide (fun j hj => absurd hj (Nat.not_lt_zero _))⟩
  case round =>
    obtain ⟨k, hk, rfl, hkp, hkn, ⟨gl, hgl, HGL⟩, HJ⟩ := hrel
    have hzr := hkp.size
    have r1 := (hkp.cell (b := bl) (o := 0) (by omega) (by omega)).trans l1
    have r2 := (hkp.cell (b := g) (o := 0) (by omega) (by omega)).trans l2
    have r3 := (hkp.cell (b := bg) (o := 0) (by omega) (by omega)).trans l3
    have r4 := (hkp.cell (b := bg) (o := 1) (by omega) (by omega)).trans l4
    have r5 := (hkp.cell (b := bu) (o := 0) (by omega) (by omega)).trans l5
    have HLR := hide (HL2.out.keep hkp (fun q h => by omega) hkn)
    have HRR := hide (HR2.out.block (hkp.block _ (by have := HR2.out.lt.2; omega) (by omega)))
    have hsb := hgl.lt.2
    by_cases hle : lo + (k : Int) ≤ hi
    · have cs := hgl.cell (i := 2 + last) (by omega)
      have fs := hgl.frozen (2 + last)
      have HG1 := hide hgl
      have HKP := hide hkp
      clear hkp hgl
      go_upto_region 6 with (fail)
      have hkS : Keep (fun q => q = w.heap.size) wr (wr.setCell ⟨w.heap.size, 2 + last, none⟩ (.int .i64 (lo + (k : Int)))) := Keep.setCell _ _ _ (fun q => q = w.heap.size) rfl
      have hg3 := HG1.out.set (2 + last) (lo + (k : Int))
      rw [HGL.out] at hg3
      generalize (wr.setCell ⟨w.heap.size, 2 + last, none⟩ (.int .i64 (lo + (k : Int)))) = w3 at *
      have hz3 := hkS.size
      have r1 := (hkS.cell (cell_lt r1) (by omega)).trans r1
      have r2 := (hkS.cell (cell_lt r2) (by omega)).trans r2
      have r3 := (hkS.cell (cell_lt r3) (by omega)).trans r3
      have r4 := (hkS.cell (cell_lt r4) (by omega)).trans r4
      have r5 := (hkS.cell (cell_lt r5) (by omega)).trans r5
      have hL3 := HLR.out.keep' hkS (fun q e => by omega)
      have hT := times_L hL3 hsm (putSt s last (lo + (k : Int))) (HLS.out _ (by omega))
      have HRR3 := hide (HRR.out.block (hkS.block _ (by have := HRR.out.lt.2; omega) (by omega)))
      have HK3 := hide (HKP.out.trans (hkS.mono (S' := fun q => q = bm ∨ q = w.heap.size ∨ w2.heap.size ≤ q) (fun q _ e => .inr (.inl e))))
      have s0 := hg3.cell (i := 0) (by omega)
      have s1 := hg3.cell (i := 1) (by omega)
      have s2 := hg3.cell (i := 2) (by omega)
      have s3 := hg3.cell (i := 3) (by omega)
      have s4 := hg3.cell (i := 4) (by omega)
      have s5 := hg3.cell (i := 5) (by omega)
      have s6 := hg3.cell (i := 6) (by omega)
      have s7 := hg3.cell (i := 7) (by omega)
      simp only [stRow, nth8_0, nth8_1, nth8_2, nth8_3, nth8_4, nth8_5, nth8_6, nth8_7] at s0 s1 s2 s3 s4 s5 s6 s7
      have HT := hide hT
      have HG3 := hide hg3
      have HL3 := hide hL3
      have HFT := hide (show fitN c last until' t s (lo + (k : Int)) = (decide (nth (timesV c (putSt s last (lo + (k : Int)))) last > until') && same5 ((L5 (timesV c (putSt s last (lo + (k : Int))))).set last (nth t last)) t) from rfl)
      have HWT := hide (fun i => timesV_wf hsm (putSt s last (lo + (k : Int))) i)
      have HTL := hide (show (timesV c (putSt s last (lo + (k : Int)))).length = 5 from timesP_length _ _ _ _)
      clear hkS hg3 hL3 hT cs fs
      generalize timesV c (putSt s last (lo + (k : Int))) = T at *
      go_upto_region 7 with (go_at_call 87
                             refine HT.out.mono ?_
                             rintro e w4 ⟨rfl, hk4, hn4⟩
                             simp only [lotsVal, iv])
      have hA : Below w4.heap.size w4 (w4.alloc (.cells #[.int .i64 (nth T 0), .int .i64 (nth T 1), .int .i64 (nth T 2), .int .i64 (nth T 3), .int .i64 (nth T 4)] 108)) := (Below.refl _ _).alloc (Nat.le_refl _) _
      have hRow : OwnE 108 (w4.alloc (.cells #[.int .i64 (nth T 0), .int .i64 (nth T 1), .int .i64 (nth T 2), .int .i64 (nth T 3), .int .i64 (nth T 4)] 108)) w4.heap.size w4.heap.size 5 (L5 T) := OwnE.made5 w4 108 _ _ _ _ _
      generalize (w4.alloc (.cells #[.int .i64 (nth T 0), .int .i64 (nth T 1), .int .i64 (nth T 2), .int .i64 (nth T 3), .int .i64 (nth T 4)] 108)) = w5 at *
      have hz4 := hk4.size
      have hz5 := hA.size
      have r1 := (hA.cell (p := ⟨bl, 0, none⟩) (by show bl < _; omega)).trans ((hk4.cell (cell_lt r1) n1).trans r1)
      have r3 := (hA.cell (p := ⟨bg, 0, none⟩) (by show bg < _; omega)).trans ((hk4.cell (cell_lt r3) n3).trans r3)
      have r4 := (hA.cell (p := ⟨bg, 1, none⟩) (by show bg < _; omega)).trans ((hk4.cell (cell_lt r4) n3).trans r4)
      have r5 := (hA.cell (p := ⟨bu, 0, none⟩) (by show bu < _; omega)).trans ((hk4.cell (cell_lt r5) n4).trans r5)
      have hrl := hRow.cell (i := last) (by omega)
      rw [L5, nth5 hlast] at hrl
      clear s0 s1 s2 s3 s4 s5 s6 s7
      have hx5 : ((L5 T).set last (nth t last)).length = 5 := by simp [L5]
      have hwx : ∀ i, wfI (nth ((L5 T).set last (nth t last)) i) := fun i => by
        rw [L5_eq HTL.out, nth_set5 (by rw [HTL.out]; omega)]
        split
        · exact HWTT.out _
        · exact HWT.out _
      have HCMP := hide (fun V => run_eq_lots (x := (L5 T).set last (nth t last)) (y := t) hwx HWTT.out V)
      clear hwx
      have hkN : k < (hi - lo + 1).toNat := by omega
      have HBA := hide hA
      cases hc : decide (nth T last ≤ until') with
      | true =>
        have HR := hide (show putAns c last lo hi until' t s = false by
          rw [HPA.out, List.all_eq_false]
          refine ⟨k, List.mem_range.2 hkN, ?_⟩
          have : nth T last ≤ until' := by simpa using hc
          rw [HFT.out, decide_eq_false (by omega)]; simp)
        have hd : nth T last ≤ until' := by simpa using hc
        clear hA
        go_quiet (fail)
        go_wp2_with fail
        go_ret
        exact ⟨by rw [HR.out]; rfl, (Keep.trans (HKK.out.mono (S' := fun q => q = bm ∨ w.heap.size ≤ q) (fun q _ h => .inl h)) ((HK3.out.mono (S' := fun q => q = bm ∨ w.heap.size ≤ q) (fun q _ h => by omega)).trans ((hk4.mono (S' := fun q => q = bm ∨ w.heap.size ≤ q) (fun q _ h => .inl h)).trans (Keep.of_below' (HBA.out.trans (Dr.below ⟨_, rfl⟩ _)) _)))).mono (fun q hq h => by omega), hn4.keep (Keep.of_below' (HBA.out.trans (Dr.below ⟨_, rfl⟩ _)) (fun _ => False)) (fun h => h)⟩
      | false =>
        have hd : ¬ nth T last ≤ until' := by simpa using hc
        have u0 := (HRR3.out.block (hk4.block _ (by have := HRR3.out.lt.2; omega) (by omega))).block (hA.block _ (by have := HRR3.out.lt.2; omega))
        have ul := u0.cell (i := last) (by omega)
        rw [nth5 hlast] at ul
        have fl := hRow.frozen last
        have HU0 := hide u0
        have HRW := hide hRow
        clear hA u0 hRow
        go_quiet (fail)
        go_upto_region 9 with (fail)
        apply wp_one
        case h =>
          go_region
          all_goals first | exact ⟨rfl, rfl, rfl⟩ | trace_state
        case hq =>
        have hk6 : Keep (fun q => q = w4.heap.size) w5 ((w5.drewN (nq + 1)).setCell ⟨w4.heap.size, last, none⟩ (.int .i64 (nth t last))) := (Keep.of_below' (Dr.below ⟨_, rfl⟩ _) _).trans (Keep.setCell _ _ _ (fun q => q = w4.heap.size) rfl)
        have hR6 : OwnE 108 ((w5.drewN (nq + 1)).setCell ⟨w4.heap.size, last, none⟩ (.int .i64 (nth t last))) w4.heap.size w4.heap.size 5 ((L5 T).set last (nth t last)) := OwnE.set (w := w5.drewN (nq + 1)) (HRW.out.block rfl) last (nth t last)
        generalize ((w5.drewN (nq + 1)).setCell ⟨w4.heap.size, last, none⟩ (.int .i64 (nth t last))) = w6 at *
        have hz6 := hk6.size
        have hU6 := HU0.out.block (hk6.block _ (by have := HU0.out.lt.2; omega) (by have := HRR3.out.lt.2; omega))
        have x0 := hR6.cell (i := 0) (by omega)
        have x1 := hR6.cell (i := 1) (by omega)
        have x2 := hR6.cell (i := 2) (by omega)
        have x3 := hR6.cell (i := 3) (by omega)
        have x4 := hR6.cell (i := 4) (by omega)
        have y0 := hU6.cell (i := 0) (by omega)
        have y1 := hU6.cell (i := 1) (by omega)
        have y2 := hU6.cell (i := 2) (by omega)
        have y3 := hU6.cell (i := 3) (by omega)
        have y4 := hU6.cell (i := 4) (by omega)
        rw [nth5 (by omega)] at y0 y1 y2 y3 y4
        have hN6 := hide ((hn4.keep (Keep.of_below' HBA.out (fun _ => False)) (fun h => h)).keep hk6 (by omega))
        have hgt : Try.prog.eqGuardType Try.prog.depth 108 = false := by kernel_rfl
        have hcmp := HCMP.out
        simp only [iv] at hcmp
        have HK6 := hide hk6
        have HR6 := hide hR6
        clear hk6 hR6 hU6
        cases hs5 : same5 ((L5 T).set last (nth t last)) t with
        | true =>
          have HF2 := hide (show fitN c last until' t s (lo + (k : Int)) = true by rw [HFT.out, hs5, decide_eq_true (by omega)]; rfl)
          simp only [hs5] at hcmp
          have HJ2 := hide (show ∀ j, j < k + 1 → fitN c last until' t s (lo + (j : Int)) = true from fun j hj => by
            rcases Nat.lt_or_ge j k with h | h
            · exact HJ.out j h
            · obtain rfl : j = k := by omega
              exact HF2.out)
          go_wp2_with fail
          go_roundw
          case rel =>
            refine ⟨k + 1, by omega, by go_num, ?_, hN6.out, ⟨_, ((HG3.out.block (hk4.block _ HG3.out.lt.2 (by omega))).block (HBA.out.block _ (by have := HG3.out.lt.2; omega))).block (HK6.out.block _ (by have := HG3.out.lt.2; omega) (by have := HG3.out.lt.2; omega)), hide (fun n => row_put hs hlast _ n)⟩, HJ2⟩
            exact HK3.out.trans ((hk4.mono (S' := fun q => q = bm ∨ q = w.heap.size ∨ w2.heap.size ≤ q) (fun q _ h => .inl h)).trans ((Keep.of_below' HBA.out _).trans (HK6.out.mono (fun q _ h => by omega))))
          case measure => simp [intOf]; omega
        | false =>
          have HF2 := hide (show fitN c last until' t s (lo + (k : Int)) = false by rw [HFT.out, hs5]; simp)
          have HR := hide (show putAns c last lo hi until' t s = false by
            rw [HPA.out, List.all_eq_false]
            exact ⟨k, List.mem_range.2 hkN, by rw [HF2.out]; simp⟩)
          simp only [hs5] at hcmp
          go_wp2_with fail
          go_ret
          exact ⟨by rw [HR.out]; rfl, (Keep.trans (HKK.out.mono (S' := fun q => q = bm ∨ w.heap.size ≤ q) (fun q _ h => .inl h)) ((HK3.out.mono (S' := fun q => q = bm ∨ w.heap.size ≤ q) (fun q _ h => by omega)).trans ((hk4.mono (S' := fun q => q = bm ∨ w.heap.size ≤ q) (fun q _ h => .inl h)).trans ((Keep.of_below' HBA.out _).trans (HK6.out.mono (S' := fun q => q = bm ∨ w.heap.size ≤ q) (fun q _ h => by omega)))))).mono (fun q hq h => by omega), hN6.out⟩
    · have hkN : k = (hi - lo + 1).toNat := by omega
      have HR := hide (show putAns c last lo hi until' t s = true by
        rw [HPA.out, List.all_eq_true]
        intro j hj
        exact HJ.out j (by rw [hkN]; exact List.mem_range.1 hj))
      have HKP := hide hkp
      have HKN := hide hkn
      clear hkp hgl hkn
      go_wp2_with fail
      go_ret
      exact ⟨by rw [HR.out]; rfl, (Keep.trans (HKK.out.mono (S' := fun q => q = bm ∨ w.heap.size ≤ q) (fun q _ h => .inl h)) (HKP.out.mono (S' := fun q => q = bm ∨ w.heap.size ≤ q) (fun q _ h => by omega))).mono (fun q hq h => by omega), HKN.out⟩
end Go.Proofs.Ytbkknliggnhpcaa
/- The contract of turn's Put. -/
namespace Go.Proofs.Ytbkknliggnhpcaa
open Go.RowKit
attribute [local go_sem ↓] Go.wp_at_zero Go.wp_at_succ

theorem wanted_no {ops : Array Oper} {a : Act} {o : Oper} {j : Nat} {d : Tmp} {b : Bool} (hg : o.guard = some (j, !b)) (hd : (ops[j]?).bind (·.dst) = some d) (h : a.tmps[d]?.getD undef = .bool b) : Region.wanted o (yielded ops a.tmps) = false := by
  unfold Region.wanted
  rw [hg]
  simp only [yielded_of hd h]
  cases b <;> rfl
theorem wanted_yes {ops : Array Oper} {a : Act} {o : Oper} {j : Nat} {d : Tmp} {b : Bool} (hg : o.guard = some (j, b)) (hd : (ops[j]?).bind (·.dst) = some d) (h : a.tmps[d]?.getD undef = .bool b) : Region.wanted o (yielded ops a.tmps) = true := by
  unfold Region.wanted
  rw [hg]
  simp only [yielded_of hd h]
  cases b <;> rfl
def widthG (lo hi : Int) : Int := widthM ⟨lo, hi⟩ 40
def putAsk (c : Cargo) (lo hi frm until' : Int) : List (Bool × Int) := [(noneQ (c.heat.length + 1) [frm, until'], (7 : Int)), (widthG lo hi == 7, widthG lo hi), (decide (until' ≤ frm) || (widthG lo hi != 0), (2 : Int))]
/-- A cargo with one more lot. -/
def withLot (c : Cargo) (l : Lot) : Cargo := { c with lots := c.lots ++ [l] }
def putIs (c : Cargo) (lo hi frm until' : Int) (hold : Nat) : Bool :=
  settledM (cntB (fun s => putAns (withLot c ⟨hold, frm, ⟨lo, hi⟩⟩) c.lots.length lo hi until' (timesV c s) s) (truthsS c hold 0)) (truthsS c hold 0).length == 1
def putTo (c : Cargo) (lo hi frm until' : Int) (k : Nat) : List Nat := (List.range k).filter (putIs c lo hi frm until')
theorem putTo_succ (c : Cargo) (lo hi frm until' : Int) (k : Nat) : putTo c lo hi frm until' (k + 1) = putTo c lo hi frm until' k ++ if putIs c lo hi frm until' k then [k] else [] := by
  simp only [putTo, List.range_succ, List.filter_append, List.filter_cons, List.filter_nil]
def putV (c : Cargo) (lo hi frm until' : Int) : List Nat × Int := if enterE c (putAsk c lo hi frm until') ≠ 0 then ([], enterE c (putAsk c lo hi frm until')) else (putTo c lo hi frm until' c.holds.length, 0)

theorem LookL.keep2 {S : Nat → Prop} {w w' : World} {L b bm bm2 : Nat} {c : Cargo} {A1 A2 A3 A4 : Option Addr} {c1 c2 c3 c4 : Nat} {but : Int} {V V2 : St → List Int} (h : LookL w L b bm c A1 A2 A3 A4 c1 c2 c3 c4 but V) (hk : Keep S w w') (h2 : Known w bm2 V2) (h2' : Known w' bm2 V2)
    (hS : ∀ k, S k → k = bm ∨ k = bm2 ∨ (L ≤ k ∧ k ≠ b)) (hn : Known w' bm V) : LookL w' L b bm c A1 A2 A3 A4 c1 c2 c3 c4 but V := by
  have hc : ∀ q o, q < L → w'.cell? ⟨q, o, none⟩ = w.cell? ⟨q, o, none⟩ := fun q o hq => by
    by_cases e : q = bm
    · subst e; rw [known_cells hn, known_cells h.k]
    · by_cases e2 : q = bm2
      · subst e2; rw [known_cells h2', known_cells h2]
      · exact hk.cell (by have := h.hL; omega) (fun hs => by rcases hS q hs with h1 | h1 | h1 <;> omega)
  have hcb : ∀ o, w'.cell? ⟨b, o, none⟩ = w.cell? ⟨b, o, none⟩ := fun o => hk.cell h.hb (fun hs => by
    rcases hS b hs with h1 | h1 | h1
    · exact h.ne h1
    · exact h2.ne h.q0 h1
    · exact h1.2 rfl)
  refine ⟨⟨h.v.heat.keep hc, h.v.holds.keep hc, h.v.lots.keep hc, h.v.seen.keep hc, h.v.m1, h.v.m2, h.v.m3, h.v.m4⟩, ?_, ?_, ?_, ?_, ?_, ?_, ?_, hn, by have := h.hb; have := hk.size; omega, hn.lt, by have := h.hL; have := hk.size; omega⟩
  all_goals rw [hcb]
  · exact h.q0
  · exact h.q1
  · exact h.q2
  · exact h.q3
  · exact h.q4
  · exact h.q5
  · exact h.q6
/-- The memory of the question of Put. -/
structure PutK (V : World) (L' b' bm' bm k1 bg g7 bu last : Nat) (c cM : Cargo) (A1 A2 A3 A4 : Option Addr) (c1 c2 c3 c4 : Nat) (lo hi until' : Int) : Prop where
  look : LookL V L' b' bm' cM A1 A2 A3 A4 c1 c2 c3 c4 (0 : Nat) (timesV cM)
  kn : Known V bm (timesV c)
  cl : V.cell? ⟨k1, 0, none⟩ = some (.int .i64 last)
  c0 : V.cell? ⟨bg, 0, none⟩ = some (.int .i64 lo)
  c1 : V.cell? ⟨bg, 1, none⟩ = some (.int .i64 hi)
  cg : V.cell? ⟨g7, 0, none⟩ = some (.pointer (some ⟨b', 0, none⟩))
  cu : V.cell? ⟨bu, 0, none⟩ = some (.int .i64 until')
theorem put_q {w : World} {L b bm L' b' bm' k1 bg g7 bu hold last : Nat} {c cM : Cargo} {A1 A2 A3 A4 A3' : Option Addr} {c1 c2 c3 c3' c4 : Nat} {lo hi until' : Int} (hv : Valid c) (hh : hold < c.holds.length) (hsm : Small cM) (hlast : last < 5) (hlo : 0 ≤ lo ∧ lo ≤ 100) (hhi : 0 ≤ hi ∧ hi ≤ 100)
    (h0 : PutK w L' b' bm' bm k1 bg g7 bu last c cM A1 A2 A3' A4 c1 c2 c3' c4 lo hi until') (hL : bm ≠ bm') (hb : b ≠ bm') (hLL : L ≤ bm') :
    QOk Try.prog 89 #[.pointer (some ⟨k1, 0, none⟩), .pointer (some ⟨bg, 0, none⟩), .pointer (some ⟨g7, 0, none⟩), .pointer (some ⟨bu, 0, none⟩)] (fun s => putAns cM last lo hi until' (timesV c s) s) (fun k => k = bm')
      (fun _ V => PutK V L' b' bm' bm k1 bg g7 bu last c cM A1 A2 A3' A4 c1 c2 c3' c4 lo hi until') w L bm b c A1 A2 A3 A4 c1 c2 c3 c4 0 hold where
  enter := enters_of Try.func89 (by kernel_rfl) rfl
  cq k hk := by
    subst hk
    have := h0.look.hm
    exact .inr ⟨⟨hLL, Ne.symm hb⟩, this⟩
  keep pre V V' h hk hn := by
    have e0 := h0.look.hm
    have e1 := cell_lt h0.cl
    have e2 := cell_lt h0.c0
    have e3 := cell_lt h0.cg
    have e4 := cell_lt h0.cu
    have e5 := h0.look.hb
    have n1 := h.kn.ne h.cl
    have n2 := h.kn.ne h.c0
    have n3 := h.kn.ne h.cg
    have n4 := h.kn.ne h.cu
    refine ⟨h.look.keep2 hk h.kn hn (fun k e => ?_) (h.look.k.keep hk (by omega)), hn, (hk.cell (cell_lt h.cl) (by omega)).trans h.cl, (hk.cell (cell_lt h.c0) (by omega)).trans h.c0, (hk.cell (cell_lt h.c1) (by omega)).trans h.c1, (hk.cell (cell_lt h.cg) (by omega)).trans h.cg, (hk.cell (cell_lt h.cu) (by omega)).trans h.cu⟩
    have := h0.look.hL
    omega
  start := h0
  call pre s W hs hlk hsz h := by
    have hsx := (statesS_ok hv hh (List.mem_filter.1 hs).1).1
    refine (put1_any (s := s) (t := timesV c s) h.look hsm hsx hlast hlo hhi h.cl h.c0 h.c1 h.cg h.cu (fun i => timesV_wf hv.small s i)).mono ?_
    rintro e W' ⟨rfl, hk, hn⟩
    have n0 : ¬ bm = bm' := hL
    have n1 := h.look.k.ne h.cl
    have n2 := h.look.k.ne h.c0
    have n3 := h.look.k.ne h.cg
    have n4 := h.look.k.ne h.cu
    exact ⟨rfl, hk, h.kn.keep hk n0, h.look.keep hk (fun k e => .inl e) hn, h.kn.keep hk n0, (hk.cell (cell_lt h.cl) n1).trans h.cl, (hk.cell (cell_lt h.c0) n2).trans h.c0, (hk.cell (cell_lt h.c1) n2).trans h.c1, (hk.cell (cell_lt h.cg) n3).trans h.cg, (hk.cell (cell_lt h.cu) n4).trans h.cu⟩
theorem lotsF_app {xs : List Lot} {x : Lot} {j : Nat} (h : j < xs.length * 4) : lotsF (xs ++ [x]) j = lotsF xs j := by
  have e : nth (xs ++ [x]) (j / 4) = nth xs (j / 4) := by simp [nth, List.getElem?_append_left (show j / 4 < xs.length by omega)]
  simp only [lotsF, e]
theorem lotsF_last (xs : List Lot) (x : Lot) : lotsF (xs ++ [x]) (xs.length * 4) = .int .i64 x.hold ∧ lotsF (xs ++ [x]) (xs.length * 4 + 1) = .int .i64 x.frm ∧ lotsF (xs ++ [x]) (xs.length * 4 + 2) = .int .i64 x.green.lo ∧ lotsF (xs ++ [x]) (xs.length * 4 + 3) = .int .i64 x.green.hi := by
  have e : nth (xs ++ [x]) xs.length = x := by simp [nth]
  simp only [lotsF]
  refine ⟨?_, ?_, ?_, ?_⟩
  · rw [show xs.length * 4 / 4 = xs.length by omega, show xs.length * 4 % 4 = 0 by omega, e]; rfl
  · rw [show (xs.length * 4 + 1) / 4 = xs.length by omega, show (xs.length * 4 + 1) % 4 = 1 by omega, e]; rfl
  · rw [show (xs.length * 4 + 2) / 4 = xs.length by omega, show (xs.length * 4 + 2) % 4 = 2 by omega, e]; rfl
  · rw [show (xs.length * 4 + 3) / 4 = xs.length by omega, show (xs.length * 4 + 3) % 4 = 3 by omega, e]; rfl
theorem withLot_small {c : Cargo} (h : Valid c) (l : Lot) : Small (withLot c l) := ⟨h.hours, h.heat, h.gas, by have := h.lots; simp [withLot]; omega⟩
theorem Try.infoLot : (Try.prog.info? 57).map (fun i => (i.zero, i.size, i.bytes)) = some (some (.agg #[.int .i64 0, .int .i64 0, .int .i64 0, .int .i64 0]), 4, 32) := by kernel_rfl
/-- The memory of the cargo with one more lot. -/
structure PutM (W : World) (k1 k2 g3 : Nat) (c : Cargo) (A1 A2 A4 : Option Addr) (c1 c2 c4 : Nat) : Prop where
  d : W.cell? ⟨k1, 0, none⟩ = some (.int .i64 (c.lots.length : Nat))
  m0 : W.cell? ⟨k2, 0, none⟩ = some (.slice A1 c.heat.length c1)
  m1 : W.cell? ⟨k2, 1, none⟩ = some (.int .i64 c.gas)
  m2 : W.cell? ⟨k2, 2, none⟩ = some (.slice A2 c.holds.length c2)
  m3 : W.cell? ⟨k2, 3, none⟩ = some (.slice (some ⟨g3, 0, none⟩) (c.lots.length + 1) (c.lots.length + 1))
  m4 : W.cell? ⟨k2, 4, none⟩ = some (.slice A4 c.seen.length c4)
  row : ∀ j, j < c.lots.length * 4 → W.cell? ⟨g3, j, none⟩ = some (lotsF c.lots j)
  tl : ∀ i, i < 4 → (W.cell? ⟨g3, c.lots.length * 4 + i, none⟩).isSome = true
  fr : ∀ i, i < 4 → W.frozen? ⟨g3, c.lots.length * 4 + i, none⟩ = false
theorem PutM.keep {S : Nat → Prop} {W W' : World} {k1 k2 g3 : Nat} {c : Cargo} {A1 A2 A4 : Option Addr} {c1 c2 c4 : Nat} (h : PutM W k1 k2 g3 c A1 A2 A4 c1 c2 c4) (hk : Keep S W W') (h1 : ¬ S k1) (h2 : ¬ S k2) (h3 : ¬ S g3) : PutM W' k1 k2 g3 c A1 A2 A4 c1 c2 c4 :=
  ⟨(hk.cell (cell_lt h.d) h1).trans h.d, (hk.cell (cell_lt h.m0) h2).trans h.m0, (hk.cell (cell_lt h.m1) h2).trans h.m1, (hk.cell (cell_lt h.m2) h2).trans h.m2, (hk.cell (cell_lt h.m3) h2).trans h.m3, (hk.cell (cell_lt h.m4) h2).trans h.m4,
    fun j hj => (hk.cell (cell_lt (h.row j hj)) h3).trans (h.row j hj), fun i hi => by
      obtain ⟨v, hv⟩ := Option.isSome_iff_exists.1 (h.tl i hi)
      rw [hk.cell (cell_lt hv) h3]; exact h.tl i hi, fun i hi => by
      obtain ⟨v, hv⟩ := Option.isSome_iff_exists.1 (h.tl i hi)
      rw [hk.frozen (cell_lt hv) h3]; exact h.fr i hi⟩
theorem firstAsk_zero' {c : Cargo} {xs : List (Bool × Int)} (h : enterE c xs = 0) (hx : ∀ x ∈ xs, x.1 = true → x.2 ≠ 0) : (∀ x ∈ xs, x.1 = false) ∧ someS c 0 = true := by
  unfold enterE at h
  split at h
  · rename_i h1; exact absurd h h1
  · cases hf : firstAsk xs with
    | some x =>
      rw [hf] at h
      exact absurd h (hx x (List.mem_of_find?_eq_some hf) (List.find?_some (p := fun x : Bool × Int => x.1) hf))
    | none =>
      rw [hf] at h
      refine ⟨fun x hxm => ?_, ?_⟩
      · have := List.find?_eq_none.1 hf x hxm
        simpa using this
      · cases hs : someS c 0 with
        | true => rfl
        | false => rw [hs] at h; simp at h
def put4 (W : World) (g3 o : Nat) (a b d e : Int) : World := (((W.setCell ⟨g3, o, none⟩ (.int .i64 a)).setCell ⟨g3, o + 1, none⟩ (.int .i64 b)).setCell ⟨g3, o + 2, none⟩ (.int .i64 d)).setCell ⟨g3, o + 3, none⟩ (.int .i64 e)
theorem put4_cells (W : World) (g3 o : Nat) (a b d e : Int) : put4 W g3 o a b d e = W.setCells g3 o [.int .i64 a, .int .i64 b, .int .i64 d, .int .i64 e] := rfl
theorem PutM.store {W : World} {k1 k2 g3 : Nat} {c : Cargo} {A1 A2 A4 : Option Addr} {c1 c2 c4 : Nat} (h : PutM W k1 k2 g3 c A1 A2 A4 c1 c2 c4) (hk1 : k1 ≠ g3) (hk2 : k2 ≠ g3) (x : Lot) :
    Keep (fun q => q = g3) W (put4 W g3 (c.lots.length * 4) x.hold x.frm x.green.lo x.green.hi) ∧ PutM (put4 W g3 (c.lots.length * 4) x.hold x.frm x.green.lo x.green.hi) k1 k2 g3 c A1 A2 A4 c1 c2 c4 ∧
    ∀ j, j < (c.lots.length + 1) * 4 → (put4 W g3 (c.lots.length * 4) x.hold x.frm x.green.lo x.green.hi).cell? ⟨g3, 0 + j, none⟩ = some (lotsF (c.lots ++ [x]) j) := by
  have hin := World.cell?_setCells_in g3 [.int .i64 x.hold, .int .i64 x.frm, .int .i64 x.green.lo, .int .i64 x.green.hi] (c.lots.length * 4) W (fun j hj => h.tl j (by simpa using hj))
  have hout : ∀ k o, k ≠ g3 → (W.setCells g3 (c.lots.length * 4) [.int .i64 x.hold, .int .i64 x.frm, .int .i64 x.green.lo, .int .i64 x.green.hi]).cell? ⟨k, o, none⟩ = W.cell? ⟨k, o, none⟩ := fun k o hk => World.cell?_setCells_out _ _ _ _ _ (fun h => absurd h hk)
  have hlow : ∀ j, j < c.lots.length * 4 → (W.setCells g3 (c.lots.length * 4) [.int .i64 x.hold, .int .i64 x.frm, .int .i64 x.green.lo, .int .i64 x.green.hi]).cell? ⟨g3, j, none⟩ = W.cell? ⟨g3, j, none⟩ := fun j hj => World.cell?_setCells_out _ _ _ _ _ (fun _ _ => .inl hj)
  refine ⟨?_, ?_, ?_⟩
  · exact (((Keep.setCell _ _ _ (fun q => q = g3) rfl).trans (Keep.setCell _ _ _ (fun q => q = g3) rfl)).trans (Keep.setCell _ _ _ (fun q => q = g3) rfl)).trans (Keep.setCell _ _ _ (fun q => q = g3) rfl)
  · rw [put4_cells]
    refine ⟨(hout _ _ hk1).trans h.d, (hout _ _ hk2).trans h.m0, (hout _ _ hk2).trans h.m1, (hout _ _ hk2).trans h.m2, (hout _ _ hk2).trans h.m3, (hout _ _ hk2).trans h.m4, fun j hj => (hlow j hj).trans (h.row j hj), fun i hi => ?_, fun i hi => by rw [World.frozen?_setCells]; exact h.fr i hi⟩
    rw [hin i (by simpa using hi)]; rfl
  · intro j hj
    rw [put4_cells, Nat.zero_add]
    obtain ⟨e0, e1, e2, e3⟩ := lotsF_last c.lots x
    rcases Nat.lt_or_ge j (c.lots.length * 4) with hl | hl
    · rw [hlow j hl, h.row j hl, lotsF_app hl]
    · obtain rfl | rfl | rfl | rfl : j = c.lots.length * 4 ∨ j = c.lots.length * 4 + 1 ∨ j = c.lots.length * 4 + 2 ∨ j = c.lots.length * 4 + 3 := by omega
      · rw [e0]; exact hin 0 (by simp)
      · rw [e1]; exact hin 1 (by simp)
      · rw [e2]; exact hin 2 (by simp)
      · rw [e3]; exact hin 3 (by simp)
set_option maxHeartbeats 4000000 in
set_option maxRecDepth 100000 in
theorem put_any {A1 A2 A3 A4 : Option Addr} {c1 c2 c3 c4 : Nat} {c : Cargo} {w : World} (h : CargoV w w.heap.size c A1 A2 A3 A4 c1 c2 c3 c4) (lo hi frm until' : Int) :
    Calls Try.prog 28 #[cargoVal c A1 A2 A3 A4 c1 c2 c3 c4, .agg #[.int .i64 lo, .int .i64 hi], .int .i64 frm, .int .i64 until'] w fun e w' => ∃ A cp, e = .returned (.tuple #[.slice A (putV c lo hi frm until').1.length cp, .int .i64 (putV c lo hi frm until').2]) ∧ IntsS w' w'.heap.size A (putV c lo hi frm until').1.length cp (natInts (putV c lo hi frm until').1) ∧ Below w.heap.size w w' := by
  have hm1 := h.m1
  have hm2 := h.m2
  have hm3 := h.m3
  unfold maxLen at hm1 hm2 hm3
  have HEV := hide (show putV c lo hi frm until' = if enterE c (putAsk c lo hi frm until') ≠ 0 then ([], enterE c (putAsk c lo hi frm until')) else (putTo c lo hi frm until' c.holds.length, 0) from rfl)
  have HAS := hide (show putAsk c lo hi frm until' = [(noneQ (c.heat.length + 1) [frm, until'], (7 : Int)), (widthG lo hi == 7, widthG lo hi), (decide (until' ≤ frm) || (widthG lo hi != 0), (2 : Int))] from rfl)
  go_enter Try.func28, Try.ntmps28
  have hB0 : Below w.heap.size w ((((w.alloc (.cells #[.slice A1 c.heat.length c1, .int .i64 c.gas, .slice A2 c.holds.length c2, .slice A3 c.lots.length c3, .slice A4 c.seen.length c4] 27)).alloc (.cells #[.int .i64 lo, .int .i64 hi] 32)).alloc (.cells #[.int .i64 until'] 3))) := (((Below.refl _ _).alloc (Nat.le_refl _) _).alloc (by simp) _).alloc (by simp; omega) _
  have hcl : ∀ o : Nat, ((((w.alloc (.cells #[.slice A1 c.heat.length c1, .int .i64 c.gas, .slice A2 c.holds.length c2, .slice A3 c.lots.length c3, .slice A4 c.seen.length c4] 27)).alloc (.cells #[.int .i64 lo, .int .i64 hi] 32)).alloc (.cells #[.int .i64 until'] 3))).cell? ⟨w.heap.size, o, none⟩ = (#[Value.slice A1 c.heat.length c1, .int .i64 c.gas, .slice A2 c.holds.length c2, .slice A3 c.lots.length c3, .slice A4 c.seen.length c4])[o]? := fun o => by
    rw [World.cell?_alloc_past _ _ _ (by simp; omega), World.cell?_alloc_past _ _ _ (by simp), World.cell?_alloc_at _ _ _ _ rfl]
  have pg0 : ((((w.alloc (.cells #[.slice A1 c.heat.length c1, .int .i64 c.gas, .slice A2 c.holds.length c2, .slice A3 c.lots.length c3, .slice A4 c.seen.length c4] 27)).alloc (.cells #[.int .i64 lo, .int .i64 hi] 32)).alloc (.cells #[.int .i64 until'] 3))).cell? ⟨w.heap.size + 1, 0, none⟩ = some (.int .i64 lo) := by
    rw [World.cell?_alloc_past _ _ _ (by simp), World.cell?_alloc_at _ _ _ _ (by simp)]; rfl
  have pg1 : ((((w.alloc (.cells #[.slice A1 c.heat.length c1, .int .i64 c.gas, .slice A2 c.holds.length c2, .slice A3 c.lots.length c3, .slice A4 c.seen.length c4] 27)).alloc (.cells #[.int .i64 lo, .int .i64 hi] 32)).alloc (.cells #[.int .i64 until'] 3))).cell? ⟨w.heap.size + 1, 1, none⟩ = some (.int .i64 hi) := by
    rw [World.cell?_alloc_past _ _ _ (by simp), World.cell?_alloc_at _ _ _ _ (by simp)]; rfl
  have pl2 : ((((w.alloc (.cells #[.slice A1 c.heat.length c1, .int .i64 c.gas, .slice A2 c.holds.length c2, .slice A3 c.lots.length c3, .slice A4 c.seen.length c4] 27)).alloc (.cells #[.int .i64 lo, .int .i64 hi] 32)).alloc (.cells #[.int .i64 until'] 3))).cell? ⟨w.heap.size + 1 + 1, 0, none⟩ = some (.int .i64 until') := by
    rw [World.cell?_alloc_at _ _ _ _ (by simp)]; rfl
  have hz0 : ((((w.alloc (.cells #[.slice A1 c.heat.length c1, .int .i64 c.gas, .slice A2 c.holds.length c2, .slice A3 c.lots.length c3, .slice A4 c.seen.length c4] 27)).alloc (.cells #[.int .i64 lo, .int .i64 hi] 32)).alloc (.cells #[.int .i64 until'] 3))).heap.size = w.heap.size + 1 + 1 + 1 := by simp
  have HB0 := hide hB0
  have HCL := hide hcl
  have HPG0 := hide pg0
  have HPG1 := hide pg1
  have HPL2 := hide pl2
  have HZ0 := hide hz0
  have HCV := hide h
  clear hB0 hcl pg0 pg1 pl2 hz0 h
  go_wp2_with (go_at_call 60; refine (width_any ⟨lo, hi⟩ 40 _ (by omega) (by omega)).mono ?_; rintro e w0 ⟨rfl, hb⟩)
  have hz0 : w.heap.size + 1 + 1 + 1 ≤ w0.heap.size := by have := hb.size; rw [HZ0.out] at this; exact this
  have pb0 := (hb.cell (p := ⟨w.heap.size, 0, none⟩) (by show w.heap.size < _; rw [HZ0.out]; omega)).trans (HCL.out 0)
  have pb1 := (hb.cell (p := ⟨w.heap.size, 1, none⟩) (by show w.heap.size < _; rw [HZ0.out]; omega)).trans (HCL.out 1)
  have pb2 := (hb.cell (p := ⟨w.heap.size, 2, none⟩) (by show w.heap.size < _; rw [HZ0.out]; omega)).trans (HCL.out 2)
  have pb3 := (hb.cell (p := ⟨w.heap.size, 3, none⟩) (by show w.heap.size < _; rw [HZ0.out]; omega)).trans (HCL.out 3)
  have pb4 := (hb.cell (p := ⟨w.heap.size, 4, none⟩) (by show w.heap.size < _; rw [HZ0.out]; omega)).trans (HCL.out 4)
  simp only [List.getElem?_toArray, List.getElem?_cons_succ, List.getElem?_cons_zero] at pb0 pb1 pb2 pb3 pb4
  have pg0 := (hb.cell (p := ⟨w.heap.size + 1, 0, none⟩) (by show w.heap.size + 1 < _; rw [HZ0.out]; omega)).trans HPG0.out
  have pg1 := (hb.cell (p := ⟨w.heap.size + 1, 1, none⟩) (by show w.heap.size + 1 < _; rw [HZ0.out]; omega)).trans HPG1.out
  have pl2 := (hb.cell (p := ⟨w.heap.size + 1 + 1, 0, none⟩) (by show w.heap.size + 1 + 1 < _; rw [HZ0.out]; omega)).trans HPL2.out
  have HB0 := hide (HB0.out.trans (hb.mono (by rw [HZ0.out]; omega)))
  have HWD := hide (show widthM ⟨lo, hi⟩ 40 = widthG lo hi from rfl)
  rw [HWD.out]
  clear hb HCL HPG0 HPG1 HPL2 HZ0
  have HWX := hide (show widthG lo hi = 0 → 0 ≤ lo ∧ lo ≤ hi ∧ hi ≤ 40 from fun h => by exact (fun h' : 0 ≤ lo ∧ lo ≤ hi ∧ hi ≤ 40 ∧ hi - lo ≤ 3 => ⟨h'.1, h'.2.1, h'.2.2.1⟩) (widthM_zero (s := ⟨lo, hi⟩) h))
  generalize widthG lo hi = wd at *
  refine wp_post (fun a W => ∃ (p : Option Addr) (x0 x1 x2 x3 x4 x5 x6 x7 x8 x9 x10 x11 x12 x13 x14 x15 x16 x17 x18 x19 x20 x21 x22 : Value), a = ⟨#[cargoVal c A1 A2 A3 A4 c1 c2 c3 c4, .agg #[.int .i64 lo, .int .i64 hi], .int .i64 frm, .int .i64 until', .pointer (some ⟨w.heap.size, 0, none⟩), .pointer (some ⟨w.heap.size + 1, 0, none⟩), undef, .pointer (some ⟨w.heap.size + 1 + 1, 0, none⟩), .slice none 0 0, .int .i64 (enterE c [(noneQ (c.heat.length + 1) [frm, until'], (7 : Int)), (wd == 7, (wd : Int)), (decide (until' ≤ frm) || (wd != 0), (2 : Int))]), .int .i64 wd, .pointer p, undef, undef, undef, undef, undef, .agg #[.int .i64 lo, .int .i64 hi], .int .i64 wd, x20, x0, x1, x2, x3, x4, x5, x6, x7, x8, x9, x10, x11, x12, x13, x14, x15, x16, x17, x18, x19, x21, x22, undef, undef, undef, undef, undef, undef, undef, undef, undef, undef, undef, undef, undef, undef, undef, undef, undef, undef, undef, undef, undef, undef, undef, undef, undef, undef, undef, undef, undef, undef, undef, undef, undef, undef, undef, undef, undef, undef, undef, undef, undef, undef, undef, undef, undef], []⟩ ∧ Below w0.heap.size w0 W ∧ EntryP W w.heap.size c A1 A2 A3 A4 c1 c2 c3 c4 [(noneQ (c.heat.length + 1) [frm, until'], (7 : Int)), (wd == 7, (wd : Int)), (decide (until' ≤ frm) || (wd != 0), (2 : Int))] p) ?reg ?imp
  case reg =>
    refine wp_region_grow2 (dst := fun i => [20, 21, 22, 23, 24, 25, 26, 27, 28, 29, 30, 31, 32, 33, 34, 35, 36, 37, 38, 39, 19, 40, 41, 11, 9].getD i 0) (mono := fun i => decide (i < 25)) (pre := fun i => decide (i < 25))
      (Pv := fun i v W => match i with
        | 0 => v = (.agg #[.slice A1 c.heat.length c1, .int .i64 c.gas, .slice A2 c.holds.length c2, .slice A3 c.lots.length c3, .slice A4 c.seen.length c4])
        | 1 => v = (.agg #[.slice A1 c.heat.length c1, .int .i64 c.gas, .slice A2 c.holds.length c2, .slice A3 c.lots.length c3, .slice A4 c.seen.length c4])
        | 2 => v = .int .i64 frm
        | 3 => v = .int .i64 until'
        | 4 => ∃ A cp, v = .slice A 2 cp ∧ IntsS W W.heap.size A 2 cp [frm, until']
        | 5 => v = .agg #[.bool (noneQ (c.heat.length + 1) [frm, until']), .int .i64 7]
        | 6 => v = .int .i64 wd
        | 7 => v = .bool (wd == 7)
        | 8 => v = .int .i64 wd
        | 9 => v = .agg #[.bool (wd == 7), .int .i64 wd]
        | 10 => v = .int .i64 until'
        | 11 => v = .int .i64 frm
        | 12 => v = .bool (decide (until' ≤ frm))
        | 13 => v = .bool (decide (until' ≤ frm))
        | 14 => v = (if decide (until' ≤ frm) then undef else .int .i64 wd)
        | 15 => v = (if decide (until' ≤ frm) then undef else .bool (wd != 0))
        | 16 => v = .bool (decide (until' ≤ frm) || (wd != 0))
        | 17 => v = .agg #[.bool (decide (until' ≤ frm) || (wd != 0)), .int .i64 2]
        | 18 => ∃ A cp, v = .slice A 3 cp ∧ Row W W.heap.size A (3 * 2) (askedF [(noneQ (c.heat.length + 1) [frm, until'], (7 : Int)), (wd == 7, (wd : Int)), (decide (until' ≤ frm) || (wd != 0), (2 : Int))])
        | 19 => ∃ p, v = .tuple #[.pointer p, .int .i64 (enterE c [(noneQ (c.heat.length + 1) [frm, until'], (7 : Int)), (wd == 7, (wd : Int)), (decide (until' ≤ frm) || (wd != 0), (2 : Int))])] ∧ EntryP W w.heap.size c A1 A2 A3 A4 c1 c2 c3 c4 [(noneQ (c.heat.length + 1) [frm, until'], (7 : Int)), (wd == 7, (wd : Int)), (decide (until' ≤ frm) || (wd != 0), (2 : Int))] p
        | 20 => ∃ p, v = .tuple #[.pointer p, .int .i64 (enterE c [(noneQ (c.heat.length + 1) [frm, until'], (7 : Int)), (wd == 7, (wd : Int)), (decide (until' ≤ frm) || (wd != 0), (2 : Int))])] ∧ EntryP W w.heap.size c A1 A2 A3 A4 c1 c2 c3 c4 [(noneQ (c.heat.length + 1) [frm, until'], (7 : Int)), (wd == 7, (wd : Int)), (decide (until' ≤ frm) || (wd != 0), (2 : Int))] p
        | 21 => ∃ p, v = .pointer p ∧ EntryP W w.heap.size c A1 A2 A3 A4 c1 c2 c3 c4 [(noneQ (c.heat.length + 1) [frm, until'], (7 : Int)), (wd == 7, (wd : Int)), (decide (until' ≤ frm) || (wd != 0), (2 : Int))] p
        | 22 => v = .int .i64 (enterE c [(noneQ (c.heat.length + 1) [frm, until'], (7 : Int)), (wd == 7, (wd : Int)), (decide (until' ≤ frm) || (wd != 0), (2 : Int))])
        | 23 => ∃ p, v = .pointer p ∧ EntryP W w.heap.size c A1 A2 A3 A4 c1 c2 c3 c4 [(noneQ (c.heat.length + 1) [frm, until'], (7 : Int)), (wd == 7, (wd : Int)), (decide (until' ≤ frm) || (wd != 0), (2 : Int))] p
        | 24 => v = .int .i64 (enterE c [(noneQ (c.heat.length + 1) [frm, until'], (7 : Int)), (wd == 7, (wd : Int)), (decide (until' ≤ frm) || (wd != 0), (2 : Int))])
        | _ => True) (by kernel_rfl) (by kernel_rfl) ?hst ?hstep ?hend
    case hst =>
      intro i v W W' h hb
      match i, h with
      | 0, h => exact h
      | 1, h => exact h
      | 2, h => exact h
      | 3, h => exact h
      | 4, h => (obtain ⟨A, cp, h1, h2⟩ := h; exact ⟨A, cp, h1, h2.next hb⟩)
      | 5, h => exact h
      | 6, h => exact h
      | 7, h => exact h
      | 8, h => exact h
      | 9, h => exact h
      | 10, h => exact h
      | 11, h => exact h
      | 12, h => exact h
      | 13, h => exact h
      | 14, h => exact h
      | 15, h => exact h
      | 16, h => exact h
      | 17, h => exact h
      | 18, h => (obtain ⟨A, cp, h1, h2⟩ := h; exact ⟨A, cp, h1, (h2.below hb).more hb.size⟩)
      | 19, h => (obtain ⟨p, h1, h2⟩ := h; exact ⟨p, h1, h2.below hb⟩)
      | 20, h => (obtain ⟨p, h1, h2⟩ := h; exact ⟨p, h1, h2.below hb⟩)
      | 21, h => (obtain ⟨p, h1, h2⟩ := h; exact ⟨p, h1, h2.below hb⟩)
      | 22, h => exact h
      | 23, h => (obtain ⟨p, h1, h2⟩ := h; exact ⟨p, h1, h2.below hb⟩)
      | 24, h => exact h
      | i + 25, h => exact trivial
    case hstep =>
      intro i hi hm listed vs a W hU haft K hK
      have hb := ((Below.refl w0.heap.size w0).drew).trans hU.below
      have hz : w.heap.size < w0.heap.size := by omega
      match i, hi, hm with
      | 0, hi, hm =>
        have z4 : a.tmps[4]?.getD undef = .pointer (some ⟨w.heap.size, 0, none⟩) := hU.same 4 (by decide)
        have y0 := (hb.cell (p := ⟨w.heap.size, 0, none⟩) hz).trans pb0
        have y1 := (hb.cell (p := ⟨w.heap.size, 1, none⟩) hz).trans pb1
        have y2 := (hb.cell (p := ⟨w.heap.size, 2, none⟩) hz).trans pb2
        have y3 := (hb.cell (p := ⟨w.heap.size, 3, none⟩) hz).trans pb3
        have y4 := (hb.cell (p := ⟨w.heap.size, 4, none⟩) hz).trans pb4
        refine wpOp_value (v := (.agg #[.slice A1 c.heat.length c1, .int .i64 c.gas, .slice A2 c.holds.length c2, .slice A3 c.lots.length c3, .slice A4 c.seen.length c4])) (W' := W) rfl rfl ?_ (hK _ _ (Below.refl _ _) rfl)
        go_simp
      | 1, hi, hm =>
        have z4 : a.tmps[4]?.getD undef = .pointer (some ⟨w.heap.size, 0, none⟩) := hU.same 4 (by decide)
        have y0 := (hb.cell (p := ⟨w.heap.size, 0, none⟩) hz).trans pb0
        have y1 := (hb.cell (p := ⟨w.heap.size, 1, none⟩) hz).trans pb1
        have y2 := (hb.cell (p := ⟨w.heap.size, 2, none⟩) hz).trans pb2
        have y3 := (hb.cell (p := ⟨w.heap.size, 3, none⟩) hz).trans pb3
        have y4 := (hb.cell (p := ⟨w.heap.size, 4, none⟩) hz).trans pb4
        refine wpOp_value (v := (.agg #[.slice A1 c.heat.length c1, .int .i64 c.gas, .slice A2 c.holds.length c2, .slice A3 c.lots.length c3, .slice A4 c.seen.length c4])) (W' := W) rfl rfl ?_ (hK _ _ (Below.refl _ _) rfl)
        go_simp
      | 2, hi, hm =>
        have z2 : a.tmps[2]?.getD undef = .int .i64 frm := hU.same 2 (by decide)
        refine wpOp_value (v := .int .i64 frm) (W' := W) rfl rfl ?_ (hK _ _ (Below.refl _ _) rfl)
        go_simp
      | 3, hi, hm =>
        have z7 : a.tmps[7]?.getD undef = .pointer (some ⟨w.heap.size + 1 + 1, 0, none⟩) := hU.same 7 (by decide)
        have cl := (hb.cell (p := ⟨w.heap.size + 1 + 1, 0, none⟩) (by show w.heap.size + 1 + 1 < _; omega)).trans pl2
        refine wpOp_value (v := .int .i64 until') (W' := W) rfl rfl ?_ (hK _ _ (Below.refl _ _) rfl)
        go_simp
      | 4, hi, hm =>
        have l2 := haft _ rfl { on := 2, ground := .data } (by simp) rfl
        have p2 := hU.pv 2 l2
        have s2 : a.tmps[22]?.getD undef = vs 2 := hU.slot 2 (by decide) l2
        have hv2 : vs 2 = .int .i64 frm := p2
        rw [hv2] at s2
        have l3 := haft _ rfl { on := 3, ground := .data } (by simp) rfl
        have p3 := hU.pv 3 l3
        have s3 : a.tmps[23]?.getD undef = vs 3 := hU.slot 3 (by decide) l3
        have hv3 : vs 3 = .int .i64 until' := p3
        rw [hv3] at s3
        refine wpOp_value (v := .slice (some ⟨W.heap.size, 0, none⟩) 2 2) (W' := W.alloc (.cells #[.int .i64 frm, .int .i64 until'] 3)) rfl rfl ?_ (hK _ _ ((Below.refl _ _).alloc (Nat.le_refl _) _) ⟨_, _, rfl, (IntsS.lit2 rfl frm until').more (by simp)⟩)
        go_simp
      | 5, hi, hm =>
        have l1 := haft _ rfl { on := 1, ground := .data } (by simp) rfl
        have p1 := hU.pv 1 l1
        have s1 : a.tmps[21]?.getD undef = vs 1 := hU.slot 1 (by decide) l1
        have hv1 : vs 1 = (.agg #[.slice A1 c.heat.length c1, .int .i64 c.gas, .slice A2 c.holds.length c2, .slice A3 c.lots.length c3, .slice A4 c.seen.length c4]) := p1
        rw [hv1] at s1
        have l4 := haft _ rfl { on := 4, ground := .data } (by simp) rfl
        have p4 := hU.pv 4 l4
        have s4 : a.tmps[24]?.getD undef = vs 4 := hU.slot 4 (by decide) l4
        obtain ⟨A, cp, hv4, hi⟩ := p4
        rw [hv4] at s4
        refine wpOp_enter (f := 78) (args := #[(.agg #[.slice A1 c.heat.length c1, .int .i64 c.gas, .slice A2 c.holds.length c2, .slice A3 c.lots.length c3, .slice A4 c.seen.length c4]), .slice A 2 cp]) (W' := W) rfl rfl ?_ ((hoursQ_any hi (by omega)).mono (fun e w'' h => ?_))
        · go_simp
        · obtain ⟨he, hbw⟩ := h
          exact ⟨_, he, hK _ _ hbw rfl⟩
      | 6, hi, hm =>
        have z10 : a.tmps[10]?.getD undef = .int .i64 wd := hU.same 10 (by decide)
        refine wpOp_value (v := .int .i64 wd) (W' := W) rfl rfl ?_ (hK _ _ (Below.refl _ _) rfl)
        go_simp
      | 7, hi, hm =>
        have l6 := haft _ rfl { on := 6, ground := .data } (by simp) rfl
        have p6 := hU.pv 6 l6
        have s6 : a.tmps[26]?.getD undef = vs 6 := hU.slot 6 (by decide) l6
        have hv6 : vs 6 = .int .i64 wd := p6
        rw [hv6] at s6
        refine wpOp_value (v := .bool (wd == 7)) (W' := W) rfl rfl ?_ (hK _ _ (Below.refl _ _) rfl)
        go_simp
      | 8, hi, hm =>
        have z10 : a.tmps[10]?.getD undef = .int .i64 wd := hU.same 10 (by decide)
        refine wpOp_value (v := .int .i64 wd) (W' := W) rfl rfl ?_ (hK _ _ (Below.refl _ _) rfl)
        go_simp
      | 9, hi, hm =>
        have l7 := haft _ rfl { on := 7, ground := .data } (by simp) rfl
        have p7 := hU.pv 7 l7
        have s7 : a.tmps[27]?.getD undef = vs 7 := hU.slot 7 (by decide) l7
        have hv7 : vs 7 = .bool (wd == 7) := p7
        rw [hv7] at s7
        have l8 := haft _ rfl { on := 8, ground := .data } (by simp) rfl
        have p8 := hU.pv 8 l8
        have s8 : a.tmps[28]?.getD undef = vs 8 := hU.slot 8 (by decide) l8
        have hv8 : vs 8 = .int .i64 wd := p8
        rw [hv8] at s8
        refine wpOp_value (v := .agg #[.bool (wd == 7), .int .i64 wd]) (W' := W) rfl rfl ?_ (hK _ _ (Below.refl _ _) rfl)
        go_simp
      | 10, hi, hm =>
        have z7 : a.tmps[7]?.getD undef = .pointer (some ⟨w.heap.size + 1 + 1, 0, none⟩) := hU.same 7 (by decide)
        have cl := (hb.cell (p := ⟨w.heap.size + 1 + 1, 0, none⟩) (by show w.heap.size + 1 + 1 < _; omega)).trans pl2
        refine wpOp_value (v := .int .i64 until') (W' := W) rfl rfl ?_ (hK _ _ (Below.refl _ _) rfl)
        go_simp
      | 11, hi, hm =>
        have z2 : a.tmps[2]?.getD undef = .int .i64 frm := hU.same 2 (by decide)
        refine wpOp_value (v := .int .i64 frm) (W' := W) rfl rfl ?_ (hK _ _ (Below.refl _ _) rfl)
        go_simp
      | 12, hi, hm =>
        have l10 := haft _ rfl { on := 10, ground := .data } (by simp) rfl
        have p10 := hU.pv 10 l10
        have s10 : a.tmps[30]?.getD undef = vs 10 := hU.slot 10 (by decide) l10
        have hv10 : vs 10 = .int .i64 until' := p10
        rw [hv10] at s10
        have l11 := haft _ rfl { on := 11, ground := .data } (by simp) rfl
        have p11 := hU.pv 11 l11
        have s11 : a.tmps[31]?.getD undef = vs 11 := hU.slot 11 (by decide) l11
        have hv11 : vs 11 = .int .i64 frm := p11
        rw [hv11] at s11
        refine wpOp_value (v := .bool (decide (until' ≤ frm))) (W' := W) rfl rfl ?_ (hK _ _ (Below.refl _ _) rfl)
        go_simp
      | 13, hi, hm =>
        have l12 := haft _ rfl { on := 12, ground := .data } (by simp) rfl
        have p12 := hU.pv 12 l12
        have s12 : a.tmps[32]?.getD undef = vs 12 := hU.slot 12 (by decide) l12
        have hv12 : vs 12 = .bool (decide (until' ≤ frm)) := p12
        rw [hv12] at s12
        refine wpOp_value (v := .bool (decide (until' ≤ frm))) (W' := W) rfl rfl ?_ (hK _ _ (Below.refl _ _) rfl)
        go_simp
      | 14, hi, hm =>
        have l13 := haft _ rfl { on := 13, ground := .guard } (by simp) rfl
        have p13 := hU.pv 13 l13
        have s13 : a.tmps[33]?.getD undef = vs 13 := hU.slot 13 (by decide) l13
        have hv13 : vs 13 = .bool (decide (until' ≤ frm)) := p13
        rw [hv13] at s13
        have z10 : a.tmps[10]?.getD undef = .int .i64 wd := hU.same 10 (by decide)
        cases hle : decide (until' ≤ frm) with
        | true => rw [hle] at s13; refine wpOp_unwanted rfl ?_ (hK _ _ (Below.refl _ _) (by rw [hle]; rfl)); refine wanted_no (j := 13) (d := 33) ?_ ?_ s13 <;> rfl
        | false =>
          rw [hle] at s13
          refine wpOp_wanted (v := .int .i64 wd) (W' := W) rfl ?_ ?_ (hK _ _ (Below.refl _ _) (by rw [hle]; rfl))
          · refine wanted_yes (j := 13) (d := 33) ?_ ?_ s13 <;> rfl
          go_simp
      | 15, hi, hm =>
        have l13 := haft _ rfl { on := 13, ground := .guard } (by simp) rfl
        have p13 := hU.pv 13 l13
        have s13 : a.tmps[33]?.getD undef = vs 13 := hU.slot 13 (by decide) l13
        have hv13 : vs 13 = .bool (decide (until' ≤ frm)) := p13
        rw [hv13] at s13
        have l14 := haft _ rfl { on := 14, ground := .data } (by simp) rfl
        have p14 := hU.pv 14 l14
        have s14 : a.tmps[34]?.getD undef = vs 14 := hU.slot 14 (by decide) l14
        have hv14 : vs 14 = (if decide (until' ≤ frm) then undef else .int .i64 wd) := p14
        rw [hv14] at s14
        cases hle : decide (until' ≤ frm) with
        | true => rw [hle] at s13; refine wpOp_unwanted rfl ?_ (hK _ _ (Below.refl _ _) (by rw [hle]; rfl)); refine wanted_no (j := 13) (d := 33) ?_ ?_ s13 <;> rfl
        | false =>
          rw [hle] at s13 s14
          simp only [Bool.false_eq_true, if_false] at s14
          refine wpOp_wanted (v := .bool (wd != 0)) (W' := W) rfl ?_ ?_ (hK _ _ (Below.refl _ _) (by rw [hle]; rfl))
          · refine wanted_yes (j := 13) (d := 33) ?_ ?_ s13 <;> rfl
          go_simp
      | 16, hi, hm =>
        have l13 := haft _ rfl { on := 13, ground := .data } (by simp) rfl
        have p13 := hU.pv 13 l13
        have s13 : a.tmps[33]?.getD undef = vs 13 := hU.slot 13 (by decide) l13
        have hv13 : vs 13 = .bool (decide (until' ≤ frm)) := p13
        rw [hv13] at s13
        have l15 := haft _ rfl { on := 15, ground := .data } (by simp) rfl
        have p15 := hU.pv 15 l15
        have s15 : a.tmps[35]?.getD undef = vs 15 := hU.slot 15 (by decide) l15
        have hv15 : vs 15 = (if decide (until' ≤ frm) then undef else .bool (wd != 0)) := p15
        rw [hv15] at s15
        cases hle : decide (until' ≤ frm) with
        | true =>
          rw [hle] at s13
          refine wpOp_value (v := .bool true) (W' := W) rfl rfl ?_ (hK _ _ (Below.refl _ _) (by rw [hle]; rfl))
          go_simp
        | false =>
          rw [hle] at s13 s15
          simp only [Bool.false_eq_true, if_false] at s15
          refine wpOp_value (v := .bool (wd != 0)) (W' := W) rfl rfl ?_ (hK _ _ (Below.refl _ _) (by rw [hle]; rfl))
          go_simp
      | 17, hi, hm =>
        have l16 := haft _ rfl { on := 16, ground := .data } (by simp) rfl
        have p16 := hU.pv 16 l16
        have s16 : a.tmps[36]?.getD undef = vs 16 := hU.slot 16 (by decide) l16
        have hv16 : vs 16 = .bool (decide (until' ≤ frm) || (wd != 0)) := p16
        rw [hv16] at s16
        refine wpOp_value (v := .agg #[.bool (decide (until' ≤ frm) || (wd != 0)), .int .i64 2]) (W' := W) rfl rfl ?_ (hK _ _ (Below.refl _ _) rfl)
        go_simp
      | 18, hi, hm =>
        have l5 := haft _ rfl { on := 5, ground := .data } (by simp) rfl
        have p5 := hU.pv 5 l5
        have s5 : a.tmps[25]?.getD undef = vs 5 := hU.slot 5 (by decide) l5
        have hv5 : vs 5 = .agg #[.bool (noneQ (c.heat.length + 1) [frm, until']), .int .i64 7] := p5
        rw [hv5] at s5
        have l9 := haft _ rfl { on := 9, ground := .data } (by simp) rfl
        have p9 := hU.pv 9 l9
        have s9 : a.tmps[29]?.getD undef = vs 9 := hU.slot 9 (by decide) l9
        have hv9 : vs 9 = .agg #[.bool (wd == 7), .int .i64 wd] := p9
        rw [hv9] at s9
        have l17 := haft _ rfl { on := 17, ground := .data } (by simp) rfl
        have p17 := hU.pv 17 l17
        have s17 : a.tmps[37]?.getD undef = vs 17 := hU.slot 17 (by decide) l17
        have hv17 : vs 17 = .agg #[.bool (decide (until' ≤ frm) || (wd != 0)), .int .i64 2] := p17
        rw [hv17] at s17
        refine wpOp_value (v := .slice (some ⟨W.heap.size, 0, none⟩) 3 3) (W' := W.alloc (.cells #[.bool (noneQ (c.heat.length + 1) [frm, until']), .int .i64 7, .bool (wd == 7), .int .i64 wd, .bool (decide (until' ≤ frm) || (wd != 0)), .int .i64 2] 104)) rfl rfl ?_ (hK _ _ ((Below.refl _ _).alloc (Nat.le_refl _) _) ⟨_, _, rfl, askedRow3 (noneQ (c.heat.length + 1) [frm, until'], (7 : Int)) (wd == 7, (wd : Int)) (decide (until' ≤ frm) || (wd != 0), (2 : Int))⟩)
        go_simp
      | 19, hi, hm =>
        have l0 := haft _ rfl { on := 0, ground := .data } (by simp) rfl
        have p0 := hU.pv 0 l0
        have s0 : a.tmps[20]?.getD undef = vs 0 := hU.slot 0 (by decide) l0
        have hv0 : vs 0 = (.agg #[.slice A1 c.heat.length c1, .int .i64 c.gas, .slice A2 c.holds.length c2, .slice A3 c.lots.length c3, .slice A4 c.seen.length c4]) := p0
        rw [hv0] at s0
        have l18 := haft _ rfl { on := 18, ground := .data } (by simp) rfl
        have p18 := hU.pv 18 l18
        have s18 : a.tmps[38]?.getD undef = vs 18 := hU.slot 18 (by decide) l18
        obtain ⟨A, cp, hv18, hr⟩ := p18
        rw [hv18] at s18
        refine wpOp_enter (f := 68) (args := #[(.agg #[.slice A1 c.heat.length c1, .int .i64 c.gas, .slice A2 c.holds.length c2, .slice A3 c.lots.length c3, .slice A4 c.seen.length c4]), .slice A 3 cp]) (W' := W) rfl rfl ?_ ((enter_entry HCV.out (HB0.out.trans (hb.mono (by omega))) hr rfl (by omega) (fun j hj => match j, hj with | 0, _ => by simp [nth] <;> omega | 1, _ => by simp [nth] <;> omega | 2, _ => by simp [nth] <;> omega | j + 3, hj => absurd hj (by omega))).mono (fun e w'' h => ?_))
        · go_simp
        · obtain ⟨p, he, h1, h2⟩ := h
          exact ⟨_, he, hK _ _ h2 ⟨p, rfl, h1⟩⟩
      | 20, hi, hm =>
        have l19 := haft _ rfl { on := 19, ground := .data } (by simp) rfl
        have p19 := hU.pv 19 l19
        have s19 : a.tmps[39]?.getD undef = vs 19 := hU.slot 19 (by decide) l19
        obtain ⟨p, hv19, hp⟩ := p19
        rw [hv19] at s19
        refine wpOp_value (v := .tuple #[.pointer p, .int .i64 (enterE c [(noneQ (c.heat.length + 1) [frm, until'], (7 : Int)), (wd == 7, (wd : Int)), (decide (until' ≤ frm) || (wd != 0), (2 : Int))])]) (W' := W) rfl rfl ?_ (hK _ _ (Below.refl _ _) ⟨p, rfl, hp⟩)
        go_simp
      | 21, hi, hm =>
        have l20 := haft _ rfl { on := 20, ground := .data } (by simp) rfl
        have p20 := hU.pv 20 l20
        have s20 : a.tmps[19]?.getD undef = vs 20 := hU.slot 20 (by decide) l20
        obtain ⟨p, hv20, hp⟩ := p20
        rw [hv20] at s20
        refine wpOp_value (v := .pointer p) (W' := W) rfl rfl ?_ (hK _ _ (Below.refl _ _) ⟨p, rfl, hp⟩)
        go_simp
      | 22, hi, hm =>
        have l20 := haft _ rfl { on := 20, ground := .data } (by simp) rfl
        have p20 := hU.pv 20 l20
        have s20 : a.tmps[19]?.getD undef = vs 20 := hU.slot 20 (by decide) l20
        obtain ⟨p, hv20, hp⟩ := p20
        rw [hv20] at s20
        refine wpOp_value (v := .int .i64 (enterE c [(noneQ (c.heat.length + 1) [frm, until'], (7 : Int)), (wd == 7, (wd : Int)), (decide (until' ≤ frm) || (wd != 0), (2 : Int))])) (W' := W) rfl rfl ?_ (hK _ _ (Below.refl _ _) rfl)
        go_simp
      | 23, hi, hm =>
        have l21 := haft _ rfl { on := 21, ground := .data } (by simp) rfl
        have p21 := hU.pv 21 l21
        have s21 : a.tmps[40]?.getD undef = vs 21 := hU.slot 21 (by decide) l21
        obtain ⟨p, hv21, hp⟩ := p21
        rw [hv21] at s21
        refine wpOp_value (v := .pointer p) (W' := W) rfl rfl ?_ (hK _ _ (Below.refl _ _) ⟨p, rfl, hp⟩)
        go_simp
      | 24, hi, hm =>
        have l22 := haft _ rfl { on := 22, ground := .data } (by simp) rfl
        have p22 := hU.pv 22 l22
        have s22 : a.tmps[41]?.getD undef = vs 22 := hU.slot 22 (by decide) l22
        have hv22 : vs 22 = .int .i64 (enterE c [(noneQ (c.heat.length + 1) [frm, until'], (7 : Int)), (wd == 7, (wd : Int)), (decide (until' ≤ frm) || (wd != 0), (2 : Int))]) := p22
        rw [hv22] at s22
        refine wpOp_value (v := .int .i64 (enterE c [(noneQ (c.heat.length + 1) [frm, until'], (7 : Int)), (wd == 7, (wd : Int)), (decide (until' ≤ frm) || (wd != 0), (2 : Int))])) (W' := W) rfl rfl ?_ (hK _ _ (Below.refl _ _) rfl)
        go_simp
      | i + 25, hi, hm => exact absurd (of_decide_eq_true hm) (by omega)
    case hend =>
      intro listed vs a W hG hpre
      have hb := ((Below.refl w0.heap.size w0).drew).trans hG.below
      obtain ⟨p, hvP, hp⟩ := hG.pv 23 (hpre 23 (by decide) (by decide))
      have hvE : vs 24 = .int .i64 (enterE c [(noneQ (c.heat.length + 1) [frm, until'], (7 : Int)), (wd == 7, (wd : Int)), (decide (until' ≤ frm) || (wd != 0), (2 : Int))]) := hG.pv 24 (hpre 24 (by decide) (by decide))
      have hact := hG.act
      have hT := hG.lst hpre 0 #[true, true, true, true, true, true, true, true, true, true, true, true, true, true, true, true, true, true, true, true, true, true, true, true, true] rfl (by kernel_rfl) (hpre 0 (by decide) (by decide))
      subst hT
      obtain rfl : a = _ := hact
      show wpAny _ _ _ _ (leftOver #[true, true, true, true, true, true, true, true, true, true, true, true, true, true, true, true, true, true, true, true, true, true, true, true, true] 25) _ ⟨setAll _ _ (idxs #[true, true, true, true, true, true, true, true, true, true, true, true, true, true, true, true, true, true, true, true, true, true, true, true, true] 25) #[cargoVal c A1 A2 A3 A4 c1 c2 c3 c4, .agg #[.int .i64 lo, .int .i64 hi], .int .i64 frm, .int .i64 until', .pointer (some ⟨w.heap.size, 0, none⟩), .pointer (some ⟨w.heap.size + 1, 0, none⟩), undef, .pointer (some ⟨w.heap.size + 1 + 1, 0, none⟩), .slice none 0 0, .int .i64 0, .int .i64 wd, undef, undef, undef, undef, undef, undef, .agg #[.int .i64 lo, .int .i64 hi], .int .i64 wd, undef, undef, undef, undef, undef, undef, undef, undef, undef, undef, undef, undef, undef, undef, undef, undef, undef, undef, undef, undef, undef, undef, undef, undef, undef, undef, undef, undef, undef, undef, undef, undef, undef, undef, undef, undef, undef, undef, undef, undef, undef, undef, undef, undef, undef, undef, undef, undef, undef, undef, undef, undef, undef, undef, undef, undef, undef, undef, undef, undef, undef, undef, undef, undef, undef, undef, undef, undef], []⟩ _
      rw [show idxs #[true, true, true, true, true, true, true, true, true, true, true, true, true, true, true, true, true, true, true, true, true, true, true, true, true] 25 = [0, 1, 2, 3, 4, 5, 6, 7, 8, 9, 10, 11, 12, 13, 14, 15, 16, 17, 18, 19, 20, 21, 22, 23, 24] by kernel_rfl]
      simp only [setAll, List.setIfInBounds_toArray, List.set_cons_succ, List.set_cons_zero, List.getD_cons_succ, List.getD_cons_zero, hvP, hvE]
      refine wpAny_done (by kernel_rfl) ?_ _
      exact ⟨rfl, p, _, _, _, _, _, _, _, _, _, _, _, _, _, _, _, _, _, _, _, _, _, _, _, rfl, hb, hp⟩
  case imp =>
  rintro a w1 ⟨p, x0, x1, x2, x3, x4, x5, x6, x7, x8, x9, x10, x11, x12, x13, x14, x15, x16, x17, x18, x19, x20, x21, x22, rfl, hB1, HP⟩
  have hz1 := hB1.size
  have HB1 := hide (HB0.out.trans (hB1.mono (by omega)))
  have pb0 := (hB1.cell (p := ⟨w.heap.size, 0, none⟩) (by show w.heap.size < _; omega)).trans pb0
  have pb1 := (hB1.cell (p := ⟨w.heap.size, 1, none⟩) (by show w.heap.size < _; omega)).trans pb1
  have pb2 := (hB1.cell (p := ⟨w.heap.size, 2, none⟩) (by show w.heap.size < _; omega)).trans pb2
  have pb3 := (hB1.cell (p := ⟨w.heap.size, 3, none⟩) (by show w.heap.size < _; omega)).trans pb3
  have pb4 := (hB1.cell (p := ⟨w.heap.size, 4, none⟩) (by show w.heap.size < _; omega)).trans pb4
  have pg0 := (hB1.cell (p := ⟨w.heap.size + 1, 0, none⟩) (by show w.heap.size + 1 < _; omega)).trans pg0
  have pg1 := (hB1.cell (p := ⟨w.heap.size + 1, 1, none⟩) (by show w.heap.size + 1 < _; omega)).trans pg1
  have pl2 := (hB1.cell (p := ⟨w.heap.size + 1 + 1, 0, none⟩) (by show w.heap.size + 1 + 1 < _; omega)).trans pl2
  have HP1 := hide HP
  have hEV := HEV.out
  rw [HAS.out] at hEV
  have HEV2 := hide hEV
  have HF := hide (fun h => firstAsk_zero' (c := c) (xs := [(noneQ (c.heat.length + 1) [frm, until'], (7 : Int)), (wd == 7, (wd : Int)), (decide (until' ≤ frm) || (wd != 0), (2 : Int))]) h (fun x hx h1 => by
    simp only [List.mem_cons, List.not_mem_nil, or_false] at hx
    rcases hx with rfl | rfl | rfl
    · exact (by decide : (7 : Int) ≠ 0)
    · intro h2; simp at h1 h2; omega
    · exact (by decide : (2 : Int) ≠ 0)))
  have HV1 := hide (HCV.out.below HB1.out)
  clear hB1 HB0 HP hEV HEV HAS HCV
  unfold EntryP at HP1
  generalize enterE c [(noneQ (c.heat.length + 1) [frm, until'], (7 : Int)), (wd == 7, (wd : Int)), (decide (until' ≤ frm) || (wd != 0), (2 : Int))] = E at *
  cases hce : (E != 0) with
  | true =>
    have HNE := hide (show E ≠ 0 by simpa using hce)
    go_wp2_with fail
    go_ret2
    have hR := HEV2.out
    rw [if_pos HNE.out] at hR
    rw [hR]
    exact ⟨none, 0, rfl, ⟨rfl, Nat.le_refl _, by simp [maxLen], Row.nil_⟩, HB1.out⟩
  | false =>
    have hE : E = 0 := by simpa using hce
    obtain ⟨hv, b, bm, rfl, hb, hbm, hlk⟩ := HP1.out hE
    have hx := (HF.out hE).1
    have hwd : wd = 0 := by
      have := hx (decide (until' ≤ frm) || (wd != 0), 2) (by simp)
      simp at this; exact this.2
    have hlw := HWX.out hwd
    have hlo : 0 ≤ lo ∧ lo ≤ 100 := by omega
    have hhi : 0 ≤ hi ∧ hi ≤ 100 := by omega
    clear hx hwd hlw
    have hR := HEV2.out
    rw [if_neg (by simp [hE])] at hR
    have HR := hide hR
    have HLK := hide hlk
    have HV := hide hv
    have hbz := hlk.hb
    have hmz := hlk.hm
    have hlot5 := hv.lots
    have hholds := hv.holds
    clear hlk hv hR HEV2 HF HP1 hce
    subst hE
    have z0 : w.heap.size < w1.heap.size := by omega
    go_upto_region 7 with (fail)
    have hA0 : Below w1.heap.size w1 ((w1.alloc (.cells #[.int .i64 (c.lots.length : Nat)] 3)).alloc (.cells #[.slice A1 c.heat.length c1, .int .i64 c.gas, .slice A2 c.holds.length c2, .slice A3 c.lots.length c3, .slice A4 c.seen.length c4] 27)) := ((Below.refl _ _).alloc (Nat.le_refl _) _).alloc (by simp) _
    have d0 : ((w1.alloc (.cells #[.int .i64 (c.lots.length : Nat)] 3)).alloc (.cells #[.slice A1 c.heat.length c1, .int .i64 c.gas, .slice A2 c.holds.length c2, .slice A3 c.lots.length c3, .slice A4 c.seen.length c4] 27)).cell? ⟨w1.heap.size, 0, none⟩ = some (.int .i64 (c.lots.length : Nat)) := by
      rw [World.cell?_alloc_past _ _ _ (by simp), World.cell?_alloc_at _ _ _ _ rfl]; rfl
    have hm : ∀ o : Nat, ((w1.alloc (.cells #[.int .i64 (c.lots.length : Nat)] 3)).alloc (.cells #[.slice A1 c.heat.length c1, .int .i64 c.gas, .slice A2 c.holds.length c2, .slice A3 c.lots.length c3, .slice A4 c.seen.length c4] 27)).cell? ⟨w1.heap.size + 1, o, none⟩ = (#[Value.slice A1 c.heat.length c1, .int .i64 c.gas, .slice A2 c.holds.length c2, .slice A3 c.lots.length c3, .slice A4 c.seen.length c4])[o]? := fun o => by
      rw [World.cell?_alloc_at _ _ _ _ (by simp)]
    have hmf : ((w1.alloc (.cells #[.int .i64 (c.lots.length : Nat)] 3)).alloc (.cells #[.slice A1 c.heat.length c1, .int .i64 c.gas, .slice A2 c.holds.length c2, .slice A3 c.lots.length c3, .slice A4 c.seen.length c4] 27)).frozen? ⟨w1.heap.size + 1, 3, none⟩ = false := World.frozen?_alloc_at _ _ _ _ (by simp)
    have hz2 : ((w1.alloc (.cells #[.int .i64 (c.lots.length : Nat)] 3)).alloc (.cells #[.slice A1 c.heat.length c1, .int .i64 c.gas, .slice A2 c.holds.length c2, .slice A3 c.lots.length c3, .slice A4 c.seen.length c4] 27)).heap.size = w1.heap.size + 1 + 1 := by simp
    generalize ((w1.alloc (.cells #[.int .i64 (c.lots.length : Nat)] 3)).alloc (.cells #[.slice A1 c.heat.length c1, .int .i64 c.gas, .slice A2 c.holds.length c2, .slice A3 c.lots.length c3, .slice A4 c.seen.length c4] 27)) = w2 at *
    have m0 := hm 0
    have m1 := hm 1
    have m2 := hm 2
    have m3 := hm 3
    have m4 := hm 4
    simp only [List.getElem?_toArray, List.getElem?_cons_succ, List.getElem?_cons_zero] at m0 m1 m2 m3 m4
    obtain ⟨i4, hi4, hz40, hz41, hz42⟩ := info_parts Try.infoLot
    have hmk : ∀ W : World, (Instr.makeSlice 24 (.int .i64 ((c.lots.length : Int) + 1)) (.int .i64 ((c.lots.length : Int) + 1))).run Try.prog W = .ok (.slice (some ⟨W.heap.size, 0, none⟩) (c.lots.length + 1) (c.lots.length + 1)) (W.alloc (.cells (madeCells #[.int .i64 0, .int .i64 0, .int .i64 0, .int .i64 0] ((c.lots.length + 1) * 4)) 57)) := fun W => by
      have := run_make (P := Try.prog) (w := W) 24 57 i4 _ Try.underlying24 hi4 hz40 .i64 .i64 ((c.lots.length : Int) + 1) ((c.lots.length : Int) + 1) (by omega) (Int.le_refl _) (by rw [hz42]; omega) (by omega)
      rw [this, hz41, show ((c.lots.length : Int) + 1).toNat = c.lots.length + 1 by omega]
      rfl
    have zk : w1.heap.size + 1 < w2.heap.size := by omega
    go_upto_region 8 with (fail)
    have hS3 : Keep (fun q => q = w1.heap.size + 1) w2 (w2.setCell ⟨w1.heap.size + 1, 3, none⟩ (.slice (some ⟨w1.heap.size + 1 + 1, 0, none⟩) (c.lots.length + 1) (c.lots.length + 1))) := Keep.setCell _ _ _ (fun q => q = w1.heap.size + 1) rfl
    have hA3 : Below w1.heap.size w1 ((w2.setCell ⟨w1.heap.size + 1, 3, none⟩ (.slice (some ⟨w1.heap.size + 1 + 1, 0, none⟩) (c.lots.length + 1) (c.lots.length + 1))).alloc (.cells (madeCells #[.int .i64 0, .int .i64 0, .int .i64 0, .int .i64 0] ((c.lots.length + 1) * 4)) 57)) := (hA0.setCell (by show w1.heap.size ≤ w1.heap.size + 1; omega) _).alloc (by simp; omega) _
    have hK3 : Keep (fun q => q = w1.heap.size + 1) w2 ((w2.setCell ⟨w1.heap.size + 1, 3, none⟩ (.slice (some ⟨w1.heap.size + 1 + 1, 0, none⟩) (c.lots.length + 1) (c.lots.length + 1))).alloc (.cells (madeCells #[.int .i64 0, .int .i64 0, .int .i64 0, .int .i64 0] ((c.lots.length + 1) * 4)) 57)) := hS3.trans (Keep.alloc _ _ _)
    have m3' : ((w2.setCell ⟨w1.heap.size + 1, 3, none⟩ (.slice (some ⟨w1.heap.size + 1 + 1, 0, none⟩) (c.lots.length + 1) (c.lots.length + 1))).alloc (.cells (madeCells #[.int .i64 0, .int .i64 0, .int .i64 0, .int .i64 0] ((c.lots.length + 1) * 4)) 57)).cell? ⟨w1.heap.size + 1, 3, none⟩ = some (.slice (some ⟨w1.heap.size + 1 + 1, 0, none⟩) (c.lots.length + 1) (c.lots.length + 1)) := by
      rw [World.cell?_alloc_past _ _ _ (by simp; omega)]
      exact World.cell?_setCell_same _ _ _ m3
    have mm : ∀ o, o ≠ 3 → ((w2.setCell ⟨w1.heap.size + 1, 3, none⟩ (.slice (some ⟨w1.heap.size + 1 + 1, 0, none⟩) (c.lots.length + 1) (c.lots.length + 1))).alloc (.cells (madeCells #[.int .i64 0, .int .i64 0, .int .i64 0, .int .i64 0] ((c.lots.length + 1) * 4)) 57)).cell? ⟨w1.heap.size + 1, o, none⟩ = w2.cell? ⟨w1.heap.size + 1, o, none⟩ := fun o ho => by
      rw [World.cell?_alloc_past _ _ _ (by simp; omega)]
      exact World.cell?_setCell_other _ _ _ _ (fun e => ho (by injection e with _ h2 _; exact h2.symm))
    have hmc : ∀ j, j < (c.lots.length + 1) * 4 → (((w2.setCell ⟨w1.heap.size + 1, 3, none⟩ (.slice (some ⟨w1.heap.size + 1 + 1, 0, none⟩) (c.lots.length + 1) (c.lots.length + 1))).alloc (.cells (madeCells #[.int .i64 0, .int .i64 0, .int .i64 0, .int .i64 0] ((c.lots.length + 1) * 4)) 57)).cell? ⟨w1.heap.size + 1 + 1, j, none⟩).isSome = true := fun j hj => by
      rw [World.cell?_alloc_at _ _ _ _ (by simp [hz2]), madeCells_get hj]; rfl
    have hmf : ∀ j, ((w2.setCell ⟨w1.heap.size + 1, 3, none⟩ (.slice (some ⟨w1.heap.size + 1 + 1, 0, none⟩) (c.lots.length + 1) (c.lots.length + 1))).alloc (.cells (madeCells #[.int .i64 0, .int .i64 0, .int .i64 0, .int .i64 0] ((c.lots.length + 1) * 4)) 57)).frozen? ⟨w1.heap.size + 1 + 1, j, none⟩ = false := fun j => World.frozen?_alloc_at _ _ _ _ (by simp [hz2])
    have hz3 : ((w2.setCell ⟨w1.heap.size + 1, 3, none⟩ (.slice (some ⟨w1.heap.size + 1 + 1, 0, none⟩) (c.lots.length + 1) (c.lots.length + 1))).alloc (.cells (madeCells #[.int .i64 0, .int .i64 0, .int .i64 0, .int .i64 0] ((c.lots.length + 1) * 4)) 57)).heap.size = w1.heap.size + 1 + 1 + 1 := by simp [hz2]
    have d0 := (hK3.cell (b := w1.heap.size) (o := 0) (by omega) (by omega)).trans d0
    have m0 := (mm 0 (by omega)).trans m0
    have m1 := (mm 1 (by omega)).trans m1
    have m2 := (mm 2 (by omega)).trans m2
    have m4 := (mm 4 (by omega)).trans m4
    clear mm hS3 hK3 m3 hm hA0
    generalize ((w2.setCell ⟨w1.heap.size + 1, 3, none⟩ (.slice (some ⟨w1.heap.size + 1 + 1, 0, none⟩) (c.lots.length + 1) (c.lots.length + 1))).alloc (.cells (madeCells #[.int .i64 0, .int .i64 0, .int .i64 0, .int .i64 0] ((c.lots.length + 1) * 4)) 57)) = w3 at *
    obtain ⟨cs, hcs⟩ : ∃ cs : List Value, cs = (List.range (c.lots.length * 4)).map (lotsF c.lots) := ⟨_, rfl⟩
    have hcl : cs.length = c.lots.length * 4 := by rw [hcs]; simp
    have hcg : ∀ j, j < c.lots.length * 4 → cs[j]? = some (lotsF c.lots j) := fun j hj => by rw [hcs]; simp [hj]
    have hrow := HV1.out.lots
    have hsz4 : (Try.prog.info? 57).map (·.size) = some 4 := by kernel_rfl
    have hn : cs.length = Nat.min c.lots.length (c.lots.length + 1) * 4 := by rw [hcl, show Nat.min c.lots.length (c.lots.length + 1) = c.lots.length from Nat.min_eq_left (Nat.le_succ _)]
    have hpos : 0 < cs.length → (some (⟨w1.heap.size + 1 + 1, 0, none⟩ : Addr)) = some ⟨w1.heap.size + 1 + 1, 0, none⟩ ∧ ∃ ad, A3 = some ad ∧ ∀ j v, cs[j]? = some v → w3.cell? (ad.add j) = some v := fun h0 => by
      obtain ⟨bl, ol, e, hbl, hc⟩ := hrow (by omega)
      refine ⟨rfl, _, e, fun j v hjv => ?_⟩
      have hj : j < c.lots.length * 4 := by have := (List.getElem?_eq_some_iff.1 hjv).1; omega
      rw [hcg j hj] at hjv
      rw [Addr.add_lit, hA3.cell (p := ⟨bl, ol + j, none⟩) (by show bl < _; omega), hc j hj, ← hjv]
    have h1c : ∀ v ∈ cs, v.oneCell' = true := fun v hv => by
      rw [hcs] at hv
      obtain ⟨j, _, rfl⟩ := List.mem_map.1 hv
      rfl
    have HCL := hide hcl
    have HCG := hide hcg
    have HN := hide hn
    have HPOS := hide hpos
    have HMC := hide hmc
    have HMF := hide hmf
    have HCS := hide h1c
    have HA3 := hide hA3
    have HD0 := hide d0
    have HM := hide (And.intro m0 (And.intro m1 (And.intro m2 m4)))
    have pb3 := (hA3.cell (p := ⟨w.heap.size, 3, none⟩) (by show w.heap.size < _; omega)).trans pb3
    have zk3 : w1.heap.size + 1 < w3.heap.size := by omega
    have zk4 : w.heap.size < w3.heap.size := by omega
    have HZ3 : Hid (w3.heap.size = w1.heap.size + 1 + 1 + 1) := hide hz3
    clear hcl hcg hn hpos hmc hmf h1c hA3 hrow hcs hz3 hz2 d0 m0 m1 m2 m4 hmk hi4 hz40 hz41 hz42
    go_upto_region 9 with (with_reducible refine wpList_copy_k rfl (.tmp 54) (.tmp 56) 24 24 rfl 57 Try.underlying24 4 hsz4 (some ⟨w1.heap.size + 1 + 1, 0, none⟩) A3 (c.lots.length + 1) (c.lots.length + 1) c.lots.length c3 rfl rfl (w1.heap.size + 1 + 1) 0 cs HN.out HPOS.out (fun j hj => by rw [Nat.zero_add]; exact HMC.out j (by have := HCL.out; omega)) (fun j hj => HMF.out _) HCS.out ?_
                           rintro w4 hw4
                           have HW4 := hide hw4
                           clear hw4)
    have hPM : PutM w4 w1.heap.size (w1.heap.size + 1) (w1.heap.size + 1 + 1) c A1 A2 A4 c1 c2 c4 := by
      rw [HW4.out]
      have hout : ∀ k o, k ≠ w1.heap.size + 1 + 1 → (w3.setCells (w1.heap.size + 1 + 1) 0 cs).cell? ⟨k, o, none⟩ = w3.cell? ⟨k, o, none⟩ := fun k o hk => World.cell?_setCells_out _ _ _ _ _ (fun h => absurd h hk)
      obtain ⟨m0, m1, m2, m4⟩ := HM.out
      refine ⟨(hout _ _ (by omega)).trans HD0.out, (hout _ _ (by omega)).trans m0, (hout _ _ (by omega)).trans m1, (hout _ _ (by omega)).trans m2, (hout _ _ (by omega)).trans m3', (hout _ _ (by omega)).trans m4, fun j hj => ?_, fun i hi => ?_, fun i hi => ?_⟩
      · have := World.cell?_setCells_in (w1.heap.size + 1 + 1) cs 0 w3 (fun j hj => by rw [Nat.zero_add]; exact HMC.out j (by have := HCL.out; omega)) j (by rw [HCL.out]; exact hj)
        rw [Nat.zero_add] at this
        rw [this, ← HCG.out j hj, List.getElem?_eq_getElem (by rw [HCL.out]; exact hj)]
      · rw [World.cell?_setCells_out _ _ _ _ _ (fun _ _ => Or.inr (by rw [HCL.out]; show 0 + c.lots.length * 4 ≤ c.lots.length * 4 + i; omega))]
        exact HMC.out _ (by omega)
      · rw [World.frozen?_setCells]; exact HMF.out _
    have hB4 : Below w1.heap.size w1 w4 := by rw [HW4.out]; exact below_setCells _ (by omega) _ _ _ HA3.out
    have hz4 : w4.heap.size = w1.heap.size + 1 + 1 + 1 := by rw [HW4.out, size_setCells]; exact HZ3.out
    have HPM := hide hPM
    have HB4 := hide hB4
    have zw4 : w.heap.size < w4.heap.size := by omega
    have pb2 := (hB4.cell (p := ⟨w.heap.size, 2, none⟩) (by show w.heap.size < _; omega)).trans pb2
    have pg0 := (hB4.cell (p := ⟨w.heap.size + 1, 0, none⟩) (by show w.heap.size + 1 < _; omega)).trans pg0
    have pg1 := (hB4.cell (p := ⟨w.heap.size + 1, 1, none⟩) (by show w.heap.size + 1 < _; omega)).trans pg1
    have pl2 := (hB4.cell (p := ⟨w.heap.size + 1 + 1, 0, none⟩) (by show w.heap.size + 1 + 1 < _; omega)).trans pl2
    have hz4' : w1.heap.size + 1 + 1 < w4.heap.size := by omega
    have HL4 := hide (HLK.out.keep' (Keep.of_below' hB4 (fun _ => False)) (fun _ h => h.elim))
    have HRW := hide (HV1.out.below (hB4.mono (by omega)))
    have n1 : w1.heap.size ≠ bm := by omega
    have n0 : w.heap.size + 1 ≠ bm := HL4.out.k.ne pg0
    have n2 : w.heap.size + 1 + 1 ≠ bm := HL4.out.k.ne pl2
    clear hPM hB4 HW4 hz4 HCL HCG HN HPOS HMC HMF HCS HA3 HD0 HM m3' HZ3 pb0 pb1 pb3 pb4 hsz4 HLK HV1
    obtain ⟨i0, hi0, hz0', hz1', hz2'⟩ := info_parts Try.infoInt
    go_wp2_with fail
    go_loopw [8, 61] (fun v i wr => ∃ j : Nat, j ≤ c.holds.length ∧ i = .int .i64 j ∧ Keep (fun q => q = bm ∨ q = w1.heap.size + 1 + 1 ∨ w4.heap.size ≤ q) w4 wr ∧ Known wr bm (timesV c) ∧ PutM wr w1.heap.size (w1.heap.size + 1) (w1.heap.size + 1 + 1) c A1 A2 A4 c1 c2 c4 ∧ wr.ownsRow w4.heap.size 3 1 v (putTo c lo hi frm until' j).length ((putTo c lo hi frm until' j).map fun n : Nat => .int .i64 n)) (fun _ i _ => c.holds.length - (intOf i).toNat)
    case atStart => exact ⟨0, Nat.zero_le _, rfl, Keep.refl _ _, HL4.out.k, HPM.out, World.ownsRow_nil _ _ _ _⟩
    case round =>
      obtain ⟨j, hj, rfl, hkp, hkn, hpm, hown⟩ := hrel
      have hj0 : (0 : Int) ≤ (j : Int) := Int.natCast_nonneg _
      have hzr := hkp.size
      have HKP := hide hkp
      have HKN := hide hkn
      have HPR := hide hpm
      have HOWN := hide hown
      by_cases hlt : j < c.holds.length
      · have hj1 : (j : Int) < (c.holds.length : Int) := by omega
        have q0 := hpm.d
        have q1 := hpm.m3
        have q2 := (hkp.cell (b := w.heap.size + 1) (o := 0) (by omega) (by omega)).trans pg0
        have q3 := (hkp.cell (b := w.heap.size + 1) (o := 1) (by omega) (by omega)).trans pg1
        have hln : (c.lots.length : Int) < (c.lots.length : Int) + 1 := by omega
        have hln0 : (0 : Int) ≤ (c.lots.length : Int) := Int.natCast_nonneg _
        obtain ⟨v0, t0⟩ := Option.isSome_iff_exists.1 (hpm.tl 0 (by omega))
        obtain ⟨v1, t1⟩ := Option.isSome_iff_exists.1 (hpm.tl 1 (by omega))
        obtain ⟨v2, t2⟩ := Option.isSome_iff_exists.1 (hpm.tl 2 (by omega))
        obtain ⟨v3, t3⟩ := Option.isSome_iff_exists.1 (hpm.tl 3 (by omega))
        have f0 := hpm.fr 0 (by omega)
        have f1 := hpm.fr 1 (by omega)
        have f2 := hpm.fr 2 (by omega)
        have f3 := hpm.fr 3 (by omega)
        have t0 : wr.cell? ⟨w1.heap.size + 1 + 1, c.lots.length * 4, none⟩ = some v0 := t0
        have f0 : wr.frozen? ⟨w1.heap.size + 1 + 1, c.lots.length * 4, none⟩ = false := f0
        clear hkp hkn hpm hown
        have zg3 : w1.heap.size + 1 + 1 < wr.heap.size := by omega
        go_upto_region 13 with (fail)
        obtain ⟨hk5, hpm5, hrw5⟩ := HPR.out.store (by omega) (by omega) (⟨j, frm, ⟨lo, hi⟩⟩ : Lot)
        simp only [put4] at hk5 hpm5 hrw5
        generalize ((((wr.setCell ⟨w1.heap.size + 1 + 1, c.lots.length * 4, none⟩ (.int .i64 (j : Int))).setCell ⟨w1.heap.size + 1 + 1, c.lots.length * 4 + 1, none⟩ (.int .i64 frm)).setCell ⟨w1.heap.size + 1 + 1, c.lots.length * 4 + 2, none⟩ (.int .i64 lo)).setCell ⟨w1.heap.size + 1 + 1, c.lots.length * 4 + 3, none⟩ (.int .i64 hi)) = w5 at *
        have hz5 := hk5.size
        have hkW : Keep (fun q => q = bm ∨ q = w1.heap.size + 1 + 1 ∨ w4.heap.size ≤ q) w4 w5 := HKP.out.trans (hk5.mono (fun q _ e => .inr (.inl e)))
        have hrr : ∀ q o, q < w.heap.size → w5.cell? ⟨q, o, none⟩ = w4.cell? ⟨q, o, none⟩ := fun q o hq => hkW.cell (by omega) (by omega)
        have hV5 : CargoV w5 w5.heap.size (withLot c ⟨j, frm, ⟨lo, hi⟩⟩) A1 A2 (some ⟨w1.heap.size + 1 + 1, 0, none⟩) A4 c1 c2 (c.lots.length + 1) c4 :=
          ⟨(HRW.out.heat.keep hrr).more (by omega), (HRW.out.holds.keep hrr).more (by omega), fun _ => ⟨_, _, rfl, by omega, fun i hi => hrw5 i (by simpa [withLot] using hi)⟩, (HRW.out.seen.keep hrr).more (by omega), HRW.out.m1, HRW.out.m2, ⟨by simp [withLot], by simp [maxLen]; omega⟩, HRW.out.m4⟩
        have hlook := look_any (but := 0) hV5 (timesV (withLot c ⟨j, frm, ⟨lo, hi⟩⟩))
        have hlen : (withLot c ⟨j, frm, ⟨lo, hi⟩⟩).lots.length = c.lots.length + 1 := by simp [withLot]
        unfold cargoVal at hlook
        rw [hlen] at hlook
        have HLOOK := hide hlook
        have HP5 := hide hpm5
        have HK5 := hide hkW
        have HN5 := hide (HKN.out.keep hk5 (by omega))
        have HO5 := hide (own_keep (w' := w5) HOWN.out (fun k hk hkw => hk5.block k hkw (by omega)))
        have p0 := hpm5.m0
        have p1 := hpm5.m1
        have p2 := hpm5.m2
        have p3 := hpm5.m3
        have p4 := hpm5.m4
        have HIS := hide (show putIs c lo hi frm until' j = (settledM (cntB (fun s => putAns (withLot c ⟨j, frm, ⟨lo, hi⟩⟩) c.lots.length lo hi until' (timesV c s) s) (truthsS c j 0)) (truthsS c j 0).length == 1) from rfl)
        have HSM := hide (withLot_small HV.out (⟨j, frm, ⟨lo, hi⟩⟩ : Lot))
        have HTO := hide (putTo_succ c lo hi frm until' j)
        have hle : (putTo c lo hi frm until' j).length ≤ j := by simpa [putTo] using List.length_filter_le (putIs c lo hi frm until') (List.range j)
        clear hk5 hrw5 hkW hrr hV5 hlook hlen q0 q1 q2 q3 t0 t1 t2 t3 f0 f1 f2 f3 hpm5 HOWN HKN HPR HKP
        have zk5 : w1.heap.size + 1 < w5.heap.size := by omega
        go_upto_region 14 with (go_at_call 88
                                refine HLOOK.out.mono ?_
                                rintro e w6 ⟨b', bm', rfl, hb', hbm', hb6, hl6⟩)
        have hz6 := hb6.size
        have hA7 : Below w6.heap.size w6 (w6.alloc (.cells #[.pointer (some ⟨b', 0, none⟩)] 100)) := (Below.refl _ _).alloc (Nat.le_refl _) _
        have d7 : (w6.alloc (.cells #[.pointer (some ⟨b', 0, none⟩)] 100)).cell? ⟨w6.heap.size, 0, none⟩ = some (.pointer (some ⟨b', 0, none⟩)) := by rw [World.cell?_alloc_at _ _ _ _ rfl]; rfl
        have hz7 : (w6.alloc (.cells #[.pointer (some ⟨b', 0, none⟩)] 100)).heap.size = w6.heap.size + 1 := by simp
        generalize (w6.alloc (.cells #[.pointer (some ⟨b', 0, none⟩)] 100)) = w7 at *
        have hb57 : Below w5.heap.size w5 w7 := hb6.trans (hA7.mono hz6)
        have hk57 : Keep (fun _ => False) w5 w7 := Keep.of_below' hb57 _
        have hn7 := HN5.out.keep hk57 (fun h => h)
        have hl6b := hl6.lookL.hm
        have hl6L := hl6.lookL.keep' (Keep.of_below' hA7 (fun _ => False)) (fun _ h => h.elim)
        have hPK : PutK w7 w6.heap.size b' bm' bm w1.heap.size (w.heap.size + 1) w6.heap.size (w.heap.size + 1 + 1) c.lots.length c (withLot c ⟨j, frm, ⟨lo, hi⟩⟩) A1 A2 (some ⟨w1.heap.size + 1 + 1, 0, none⟩) A4 c1 c2 (c.lots.length + 1) c4 lo hi until' :=
          ⟨hl6L, hn7, (hk57.cell (cell_lt HP5.out.d) (fun h => h)).trans HP5.out.d, (hk57.cell (b := w.heap.size + 1) (o := 0) (by omega) (fun h => h)).trans ((HK5.out.cell (cell_lt pg0) (by omega)).trans pg0), (hk57.cell (b := w.heap.size + 1) (o := 1) (by omega) (fun h => h)).trans ((HK5.out.cell (cell_lt pg1) (by omega)).trans pg1), d7, (hk57.cell (b := w.heap.size + 1 + 1) (o := 0) (by omega) (fun h => h)).trans ((HK5.out.cell (cell_lt pl2) (by omega)).trans pl2)⟩
        have hL7 := (HL4.out.keep HK5.out (fun q h => by omega) HN5.out).keep' hk57 (fun _ h => h.elim)
        have hask := ask_any hL7 HV.out (by omega) hlt (put_q (L := w.heap.size) (b := b) (bm := bm) (A3 := A3) (c3 := c3) HV.out hlt HSM.out (by omega) hlo hhi hPK (by omega) (by omega) (by omega))
        have HQQ := hide hask
        have HP7 := hide (HP5.out.keep hk57 (fun h => h) (fun h => h) (fun h => h))
        have HK7 := hide (HK5.out.trans (hk57.mono (S' := fun q => q = bm ∨ q = w1.heap.size + 1 + 1 ∨ w4.heap.size ≤ q) (fun _ _ h => h.elim)))
        have HK57 := hide hk57
        have hbm4 : w4.heap.size ≤ bm' := by omega
        have zb : b < w7.heap.size := by omega
        clear hb6 hA7 d7 hb57 hk57 hn7 hl6L hPK hL7 hask p0 p1 p2 p3 p4 hl6 HP5 HK5 HN5 HLOOK
        generalize settledM (cntB (fun s => putAns (withLot c ⟨j, frm, ⟨lo, hi⟩⟩) c.lots.length lo hi until' (timesV c s) s) (truthsS c j 0)) (truthsS c j 0).length = sv at *
        by_cases hsv : sv = 1
        · have e : putTo c lo hi frm until' (j + 1) = putTo c lo hi frm until' j ++ [j] := by rw [HTO.out, HIS.out]; simp [hsv]
          have HE := hide e
          clear e
          go_wp2_with (first
            | (go_at_call 70
               refine HQQ.out.mono ?_
               rintro e w8 ⟨rfl, hk8, hn8, -⟩
               have hz8 := hk8.size
               have hown8 := own_keep (w' := w8) HO5.out (fun k hk hkw => (hk8.block k (by omega) (by omega)).trans (HK57.out.block k hkw (fun h => h))))
            | (at_builtin
               refine wpList_append_own _ rfl _ _ 22 rfl w4.heap.size 3 i0 (.int .i64 0) 1 8 Try.underlying22 hi0 hz0' hz1' hz2' rfl (by decide) _ _ _ rfl (hown8.alloc _) ⟨w8.heap.size, 0, none⟩ 1 1 [.int .i64 j] rfl rfl ?c1 ?c2 ?c3 ?c4 ?c5 ?_
               case c1 => exact cell_one_new _ _ _
               case c2 => simp [Value.oneCell']
               case c3 => simp [maxLen]; omega
               case c4 => omega
               case c5 => simp; omega
               intro v' w9 hown' hg _
               have hb9 := app_below (base := w4.heap.size) (by omega) hown8 hg
               clear hg))
          go_roundw
          case rel =>
            have hk78 := HK7.out.trans (hk8.mono (S' := fun q => q = bm ∨ q = w1.heap.size + 1 + 1 ∨ w4.heap.size ≤ q) (fun k _ h => by omega))
            have hp8 := HP7.out.keep hk8 (by omega) (by omega) (by omega)
            have hk9 : Keep (fun q => w4.heap.size ≤ q) w8 w9 := (Keep.of_below hb9).mono (fun k _ h => h)
            exact ⟨j + 1, by omega, by go_num, hk78.trans (hk9.mono (fun k _ h => .inr (.inr h))), hn8.keep hk9 (by omega), hp8.keep hk9 (by omega) (by omega) (by omega), by rw [HE.out]; simpa using hown'⟩
          case measure => simp [intOf]; omega
        · have e : putTo c lo hi frm until' (j + 1) = putTo c lo hi frm until' j := by rw [HTO.out, HIS.out]; simp [hsv]
          have HE := hide e
          have hsv1 : (sv == 1) = false := by simpa using hsv
          clear e
          go_wp2_with (first
            | (go_at_call 70
               refine HQQ.out.mono ?_
               rintro e w8 ⟨rfl, hk8, hn8, -⟩
               have hz8 := hk8.size
               have hown8 := own_keep (w' := w8) HO5.out (fun k hk hkw => (hk8.block k (by omega) (by omega)).trans (HK57.out.block k hkw (fun h => h)))))
          go_roundw
          case rel =>
            have hk78 := HK7.out.trans (hk8.mono (S' := fun q => q = bm ∨ q = w1.heap.size + 1 + 1 ∨ w4.heap.size ≤ q) (fun k _ h => by omega))
            exact ⟨j + 1, by omega, by go_num, hk78, hn8, HP7.out.keep hk8 (by omega) (by omega) (by omega), by rw [HE.out]; exact hown8⟩
          case measure => simp [intOf]; omega
      · have hjj : j = c.holds.length := by omega
        have ho := HOWN.out
        rw [hjj] at ho
        clear hjj hown
        obtain ⟨A, cp, rfl, hs⟩ := IntsS.of_own (xs := natInts (putTo c lo hi frm until' c.holds.length)) (by rw [natInts_vals]; exact ho)
        clear ho
        go_wp2_with fail
        go_ret2
        rw [HR.out]
        exact ⟨A, cp, rfl, hs, HB1.out.trans ((HB4.out.mono (by omega)).trans (HKP.out.below (fun k h => by omega) (by omega)))⟩
end Go.Proofs.Ytbkknliggnhpcaa
