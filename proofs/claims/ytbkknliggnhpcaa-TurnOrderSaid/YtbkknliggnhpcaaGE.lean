/- What a call leaves as it was; the cargo that is looked at, below a bound; the contract of turn's seen. -/
import Derived.Test.YtbkknliggnhpcaaGD
import Derived.Test.YtbkknliggnhpcaaGC
import Derived.Deep.RegionHeld3
import Derived.RangeFuncBound
import Derived.RangeFuncCalls
import Derived.Deep.DeepCutAuto
import Derived.RangeFuncNested
import Derived.OwnWalkIn
import Derived.TacticsInMore
import Derived.Laws.EntriesVeiled
import Derived.WalkMore
set_option linter.unusedVariables false
set_option linter.unusedSimpArgs false
namespace Go.Proofs.Ytbkknliggnhpcaa
open Go.RowKit
attribute [local go_sem ↓] Go.wp_at_zero Go.wp_at_succ

/-- All old blocks but those of S are as they were. -/
structure Keep (S : Nat → Prop) (w w' : World) : Prop where
  os : w'.os = w.os
  tape : w'.tape = w.tape
  output : w'.output = w.output
  size : w.heap.size ≤ w'.heap.size
  block : ∀ k, k < w.heap.size → ¬ S k → w'.heap[k]? = w.heap[k]?
section
variable {S S' : Nat → Prop} {w w' w'' : World} {B : Nat}
theorem Keep.refl (S : Nat → Prop) (w : World) : Keep S w w := ⟨rfl, rfl, rfl, Nat.le_refl _, fun _ _ _ => rfl⟩
theorem Keep.trans (h : Keep S w w') (h' : Keep S w' w'') : Keep S w w'' :=
  ⟨h'.os.trans h.os, h'.tape.trans h.tape, h'.output.trans h.output, Nat.le_trans h.size h'.size, fun k hk hS => (h'.block k (Nat.lt_of_lt_of_le hk h.size) hS).trans (h.block k hk hS)⟩
theorem Keep.mono (h : Keep S w w') (hS : ∀ k, k < w.heap.size → S k → S' k) : Keep S' w w' := ⟨h.os, h.tape, h.output, h.size, fun k hk hn => h.block k hk (fun hs => hn (hS k hk hs))⟩
theorem Keep.of_below (h : Below B w w') : Keep (fun k => B ≤ k) w w' := ⟨h.os, h.tape, h.output, h.size, fun k _ hn => h.block k (by omega)⟩
theorem Keep.of_below' (h : Below w.heap.size w w') (S : Nat → Prop) : Keep S w w' := (Keep.of_below h).mono fun k hk hs => by omega
theorem Keep.of_grown {r : Option Nat} (h : w.grownBy w' r) : Keep (fun k => some k = r) w w' := ⟨h.os, h.tape, h.output, h.size, fun k hk hn => h.block k hk hn⟩
theorem Keep.below (h : Keep S w w') (hS : ∀ k, S k → B ≤ k) (hB : B ≤ w.heap.size) : Below B w w' := ⟨h.os, h.tape, h.output, h.size, fun k hk => h.block k (by omega) (fun hs => by have := hS k hs; omega)⟩
theorem Keep.cell (h : Keep S w w') {b o : Nat} (hb : b < w.heap.size) (hS : ¬ S b) : w'.cell? ⟨b, o, none⟩ = w.cell? ⟨b, o, none⟩ := World.cell?_of_block (h.block b hb hS)
theorem Keep.frozen (h : Keep S w w') {b o : Nat} (hb : b < w.heap.size) (hS : ¬ S b) : w'.frozen? ⟨b, o, none⟩ = w.frozen? ⟨b, o, none⟩ := World.frozen?_of_block (h.block b hb hS)
theorem Keep.setCell (w : World) (a : Addr) (v : Value) (S : Nat → Prop) (hS : S a.block) : Keep S w (w.setCell a v) :=
  ⟨rfl, rfl, rfl, by show w.heap.size ≤ (w.heap.modify _ _).size; rw [Array.size_modify]; exact Nat.le_refl _, fun k _ hn => Below.heap_setCell w a v k (fun e => hn (e ▸ hS))⟩
theorem Keep.trans' {w0 : World} (h : Keep S w0 w) (h' : Keep (fun k => w0.heap.size ≤ k) w w') (_ : w0.heap.size ≤ w.heap.size) : Keep S w0 w' :=
  ⟨h'.os.trans h.os, h'.tape.trans h.tape, h'.output.trans h.output, Nat.le_trans h.size h'.size, fun k hk hS => (h'.block k (Nat.lt_of_lt_of_le hk h.size) (by omega)).trans (h.block k hk hS)⟩
theorem Keep.alloc (w : World) (o : Obj) (S : Nat → Prop) : Keep S w (w.alloc o) := Keep.of_below' ((Below.refl _ _).alloc (Nat.le_refl _) _) S
end

/-- The cargo that is looked at: what came in lies below block L. -/
structure LookL (w : World) (L b bm : Nat) (c : Cargo) (A1 A2 A3 A4 : Option Addr) (c1 c2 c3 c4 : Nat) (but : Int) (V : St → List Int) : Prop where
  v : CargoV w L c A1 A2 A3 A4 c1 c2 c3 c4
  q0 : w.cell? ⟨b, 0, none⟩ = some (.slice A1 c.heat.length c1)
  q1 : w.cell? ⟨b, 1, none⟩ = some (.int .i64 c.gas)
  q2 : w.cell? ⟨b, 2, none⟩ = some (.slice A2 c.holds.length c2)
  q3 : w.cell? ⟨b, 3, none⟩ = some (.slice A3 c.lots.length c3)
  q4 : w.cell? ⟨b, 4, none⟩ = some (.slice A4 c.seen.length c4)
  q5 : w.cell? ⟨b, 5, none⟩ = some (.int .i64 but)
  q6 : w.cell? ⟨b, 6, none⟩ = some (.map (some bm))
  k : Known w bm V
  hb : b < w.heap.size
  hm : bm < w.heap.size
  hL : L ≤ w.heap.size
section
variable {S : Nat → Prop} {w w' : World} {L b bm : Nat} {c : Cargo} {A1 A2 A3 A4 : Option Addr} {c1 c2 c3 c4 : Nat} {but : Int} {V : St → List Int}
theorem LookL.look (h : LookL w L b bm c A1 A2 A3 A4 c1 c2 c3 c4 but V) : LookC w b bm c A1 A2 A3 A4 c1 c2 c3 c4 but V := ⟨h.v.more h.hL, h.q0, h.q1, h.q2, h.q3, h.q4, h.q5, h.q6, h.k⟩
theorem LookC.lookL (h : LookC w b bm c A1 A2 A3 A4 c1 c2 c3 c4 but V) : LookL w w.heap.size b bm c A1 A2 A3 A4 c1 c2 c3 c4 but V := ⟨h.v, h.q0, h.q1, h.q2, h.q3, h.q4, h.q5, h.q6, h.k, h.lt, h.k.lt, Nat.le_refl _⟩
theorem LookL.ne (h : LookL w L b bm c A1 A2 A3 A4 c1 c2 c3 c4 but V) : b ≠ bm := h.k.ne h.q0
theorem known_cells {b o : Nat} (h : Known w b V) : w.cell? ⟨b, o, none⟩ = none := by
  obtain ⟨es, cl, hb, _⟩ := h
  exact map_cell hb o
theorem LookL.keep (h : LookL w L b bm c A1 A2 A3 A4 c1 c2 c3 c4 but V) (hk : Keep S w w') (hS : ∀ k, S k → k = bm ∨ (L ≤ k ∧ k ≠ b)) (hn : Known w' bm V) : LookL w' L b bm c A1 A2 A3 A4 c1 c2 c3 c4 but V := by
  have hc : ∀ q o, q < L → w'.cell? ⟨q, o, none⟩ = w.cell? ⟨q, o, none⟩ := fun q o hq => by
    by_cases e : q = bm
    · subst e; rw [known_cells hn, known_cells h.k]
    · exact hk.cell (by have := h.hL; omega) (fun hs => by rcases hS q hs with h1 | h1 <;> omega)
  have hcb : ∀ o, w'.cell? ⟨b, o, none⟩ = w.cell? ⟨b, o, none⟩ := fun o => hk.cell h.hb (fun hs => by
    rcases hS b hs with h1 | h1
    · exact h.ne h1
    · exact h1.2 rfl)
  refine ⟨⟨h.v.heat.keep hc, h.v.holds.keep hc, h.v.lots.keep hc, h.v.seen.keep hc, h.v.m1, h.v.m2, h.v.m3, h.v.m4⟩, ?_, ?_, ?_, ?_, ?_, ?_, ?_, hn, by have := h.hb; have := hk.size; omega, hn.lt, by have := h.hL; have := hk.size; omega⟩
  all_goals rw [hcb]
  · exact h.q0
  · exact h.q1
  · exact h.q2
  · exact h.q3
  · exact h.q4
  · exact h.q5
  · exact h.q6
theorem Known.keep (h : Known w bm V) (hk : Keep S w w') (hS : ¬ S bm) : Known w' bm V := h.block (hk.block bm h.lt hS)
theorem LookL.keep' (h : LookL w L b bm c A1 A2 A3 A4 c1 c2 c3 c4 but V) (hk : Keep S w w') (hS : ∀ k, S k → L ≤ k ∧ k ≠ b ∧ k ≠ bm) : LookL w' L b bm c A1 A2 A3 A4 c1 c2 c3 c4 but V :=
  h.keep hk (fun k hs => .inr ⟨(hS k hs).1, (hS k hs).2.1⟩) (h.k.keep hk (fun hs => (hS _ hs).2.2 rfl))
theorem LookL.more {L' : Nat} (h : LookL w L b bm c A1 A2 A3 A4 c1 c2 c3 c4 but V) (hL : L ≤ L') (hL' : L' ≤ w.heap.size) : LookL w L' b bm c A1 A2 A3 A4 c1 c2 c3 c4 but V :=
  ⟨h.v.more hL, h.q0, h.q1, h.q2, h.q3, h.q4, h.q5, h.q6, h.k, h.hb, h.hm, hL'⟩
theorem LookL.less {L' : Nat} (h : LookL w L b bm c A1 A2 A3 A4 c1 c2 c3 c4 but V) (hv : CargoV w L' c A1 A2 A3 A4 c1 c2 c3 c4) (hL' : L' ≤ w.heap.size) : LookL w L' b bm c A1 A2 A3 A4 c1 c2 c3 c4 but V :=
  ⟨hv, h.q0, h.q1, h.q2, h.q3, h.q4, h.q5, h.q6, h.k, h.hb, h.hm, hL'⟩
theorem times_L (h : LookL w L b bm c A1 A2 A3 A4 c1 c2 c3 c4 but (timesV c)) (hs : Small c) (s : St) (hS : StB s) :
    Calls Try.prog 87 #[.pointer (some ⟨b, 0, none⟩), stVal s] w fun e w' => e = .returned (lotsVal (timesV c s)) ∧ Keep (fun k => k = bm) w w' ∧ Known w' bm (timesV c) :=
  (times_any h.look hs s hS).mono fun _ _ ⟨he, hg, hl⟩ => ⟨he, (Keep.of_grown hg).mono (fun k _ e => by simpa using e), hl.k⟩
end

/-- Look i is so, by the hours at which lots of a hold turn, or it does not count. -/
def lookP (c : Cargo) (hold : Int) (t : List Int) (but : Nat) (i : Nat) : Bool :=
  !(!but.testBit i && decide ((nth c.lots (nth c.seen i).lot.toNat).hold = hold)) || (decide (nth t (nth c.seen i).lot.toNat ≤ (nth c.seen i).hour) == (nth c.seen i).turned)
def seenTo (c : Cargo) (hold : Int) (t : List Int) (but : Nat) (j : Nat) : Bool := (List.range j).all (lookP c hold t but)
def seenP (c : Cargo) (hold : Int) (t : List Int) (but : Nat) : Bool := seenTo c hold t but c.seen.length
theorem seenTo_succ (c : Cargo) (hold : Int) (t : List Int) (but : Nat) (j : Nat) : seenTo c hold t but (j + 1) = (seenTo c hold t but j && lookP c hold t but j) := by
  simp [seenTo, List.range_succ]
theorem seenTo_false {c : Cargo} {hold : Int} {t : List Int} {but : Nat} {j : Nat} (h : seenTo c hold t but j = false) (hj : j ≤ c.seen.length) : seenP c hold t but = false := by
  rw [seenP, seenTo, List.all_eq_false]
  rw [seenTo, List.all_eq_false] at h
  obtain ⟨x, hx, h2⟩ := h
  exact ⟨x, by simp at hx ⊢; omega, h2⟩
theorem bits_and4 {m j : Nat} (hm : m < 32) (hj : j < 5) : bits BinOp.and .i64 ((m : Int) / 2 ^ j) 1 = if m.testBit j then 1 else 0 := bits_and hm hj

theorem lots_cell {w : World} {t : List Int} {k : Nat} (hk : k < 5) : (w.alloc (.cells #[.int .i64 (nth t 0), .int .i64 (nth t 1), .int .i64 (nth t 2), .int .i64 (nth t 3), .int .i64 (nth t 4)] 108)).cell? ⟨w.heap.size, k, none⟩ = some (.int .i64 (nth t k)) := by
  rw [World.cell?_alloc_at _ _ _ _ rfl]
  obtain rfl | rfl | rfl | rfl | rfl : k = 0 ∨ k = 1 ∨ k = 2 ∨ k = 3 ∨ k = 4 := by omega
  all_goals rfl

set_option maxHeartbeats 1600000 in
set_option maxRecDepth 100000 in
theorem seen_any {w : World} {b bm : Nat} {c : Cargo} {A1 A2 A3 A4 : Option Addr} {c1 c2 c3 c4 : Nat} {but : Nat} {V : St → List Int} (h : LookC w b bm c A1 A2 A3 A4 c1 c2 c3 c4 but V) (hv : Valid c) (hbut : but < 32) (hold : Int) (t : List Int) :
    Calls Try.prog 108 #[.pointer (some ⟨b, 0, none⟩), .int .i64 hold, lotsVal t] w fun e w' => e = .returned (.bool (seenP c hold t but)) ∧ Below w.heap.size w w' := by
  have q3 := h.q3
  have q4 := h.q4
  have q5 := h.q5
  have hm3 := h.v.m3
  have hm4 := h.v.m4
  unfold maxLen at hm3 hm4
  have hsl := hv.seens
  have hll := hv.lots
  have hlt := h.lt
  have HC := hide h.v
  have HV := hide hv
  clear h hv
  simp only [lotsVal, iv]
  go_enter Try.func108, Try.ntmps108
  go_wp2_with fail
  have HT := hide (fun k (hk : k < 5) => lots_cell (w := w) (t := t) hk)
  have hB0 : Below w.heap.size w (w.alloc (.cells #[.int .i64 (nth t 0), .int .i64 (nth t 1), .int .i64 (nth t 2), .int .i64 (nth t 3), .int .i64 (nth t 4)] 108)) := (Below.refl _ _).alloc (Nat.le_refl _) _
  have hs1 : (w.alloc (.cells #[.int .i64 (nth t 0), .int .i64 (nth t 1), .int .i64 (nth t 2), .int .i64 (nth t 3), .int .i64 (nth t 4)] 108)).heap.size = w.heap.size + 1 := by simp
  generalize (w.alloc (.cells #[.int .i64 (nth t 0), .int .i64 (nth t 1), .int .i64 (nth t 2), .int .i64 (nth t 3), .int .i64 (nth t 4)] 108)) = w0 at *
  have p3 := (hB0.cell (p := ⟨b, 3, none⟩) hlt).trans q3
  have p5 := (hB0.cell (p := ⟨b, 5, none⟩) hlt).trans q5
  have HCC := hide (HC.out.below hB0)
  have HB0 := hide hB0
  have hsw : w.heap.size + 1 ≤ w0.heap.size := by omega
  clear hB0 hs1 HC q3 q4 q5
  go_loopw [7, 8, 15] (fun _ _ v15 wr => ∃ j : Nat, j ≤ c.seen.length ∧ v15 = .int .i64 j ∧ Hid (seenTo c hold t but j = true) ∧ Below (w.heap.size + 1) w0 wr ∧ w.heap.size + 1 ≤ wr.heap.size) (fun _ _ v15 _ => c.seen.length - (intOf v15).toNat)
  case atStart => exact ⟨0, Nat.zero_le _, rfl, hide rfl, Below.refl _ _, hsw⟩
  case round =>
    obtain ⟨j, hj, rfl, HSO, hB, hz⟩ := hrel
    obtain ⟨k1, f1⟩ := bcell hB
    by_cases hltj : j < c.seen.length
    · obtain ⟨bs, os, rfl, hbs, hh0, hh1, hh2⟩ := HCC.out.seen.seen hltj
      have hsv := HV.out.seen j hltj
      have HSU := hide (seenTo_succ c hold t but j)
      have HLK := hide (show lookP c hold t but j = (!(!but.testBit j && decide ((nth c.lots (nth c.seen j).lot.toNat).hold = hold)) || (decide (nth t (nth c.seen j).lot.toNat ≤ (nth c.seen j).hour) == (nth c.seen j).turned)) from rfl)
      have hl1 := hsv.1
      have hl2 := hsv.2.1
      clear hsv
      generalize (nth c.seen j).lot = lt at *
      generalize (nth c.seen j).hour = hr at *
      generalize (nth c.seen j).turned = tu at *
      obtain ⟨k, rfl⟩ : ∃ k : Nat, lt = k := ⟨lt.toNat, by omega⟩
      simp only [Int.toNat_natCast] at HLK
      obtain ⟨bl, ol, rfl, hbl, hhh, -, -, -⟩ := HCC.out.lots.lots (i := k) (by omega)
      have htk := HT.out k (by omega)
      have hk0 : (0 : Int) ≤ (k : Int) := Int.natCast_nonneg _
      have hk1 : (k : Int) < (c.lots.length : Int) := by omega
      have hk2 : (k : Int) < 5 := by omega
      have hj0 : (0 : Int) ≤ (j : Int) := Int.natCast_nonneg _
      have hj1 : (j : Int) < (c.seen.length : Int) := by omega
      have hbs1 : bs < w.heap.size + 1 := by omega
      have hbl1 : bl < w.heap.size + 1 := by omega
      have hbsz : bs < wr.heap.size := by omega
      have hblz : bl < wr.heap.size := by omega
      have hb1 : b < w.heap.size + 1 := by omega
      have hbz : b < wr.heap.size := by omega
      have hwz : w.heap.size < wr.heap.size := by omega
      have hww : w.heap.size < w.heap.size + 1 := by omega
      have hB' := hB.alloc hz (.cells #[.int .i64 k, .int .i64 hr, .bool tu] 80)
      have hz' : w.heap.size + 1 ≤ (wr.alloc (.cells #[.int .i64 k, .int .i64 hr, .bool tu] 80)).heap.size := by simp; omega
      have hba := bits_and hbut (show j < 5 by omega)
      by_cases hb1' : but.testBit j = true
      · rw [if_pos hb1'] at hba
        have HX := hide (show seenTo c hold t but (j + 1) = true by rw [HSU.out, HSO.out, HLK.out, hb1']; rfl)
        go_wp2_with fail
        go_quiet (fail)
        go_wp2
        go_roundw
        case rel => exact ⟨j + 1, by omega, by go_num, HX, below_drewN hB' _, hz'⟩
        case measure => simp [intOf]; omega
      · rw [if_neg hb1'] at hba
        by_cases hho : (nth c.lots k).hold = hold
        · have hhb : ((nth c.lots k).hold == hold) = true := by simpa using hho
          by_cases hso : (decide (nth t k ≤ hr) == tu) = true
          · have HX := hide (show seenTo c hold t but (j + 1) = true by rw [HSU.out, HSO.out, HLK.out, hso]; simp)
            have hne : (decide (nth t k ≤ hr) != tu) = false := by rw [bne, hso]; rfl
            go_wp2_with fail
            go_quiet (fail)
            go_wp2
            go_roundw
            case rel => exact ⟨j + 1, by omega, by go_num, HX, below_drewN hB' _, hz'⟩
            case measure => simp [intOf]; omega
          · have hso' : (decide (nth t k ≤ hr) == tu) = false := by simpa using hso
            have HX := hide (show seenTo c hold t but (j + 1) = false by rw [HSU.out, HSO.out, HLK.out, hso']; simp [hb1', hho])
            have hne : (decide (nth t k ≤ hr) != tu) = true := by rw [bne, hso']; rfl
            go_wp2_with fail
            go_quiet (fail)
            go_wp2
            go_ret
            exact ⟨ret_b (seenTo_false HX.out (by omega)).symm, HB0.out.trans ((below_drewN hB' _).mono (by omega))⟩
        · have hhb : ((nth c.lots k).hold == hold) = false := by simpa using hho
          have HX := hide (show seenTo c hold t but (j + 1) = true by rw [HSU.out, HSO.out, HLK.out]; simp [hho])
          go_wp2_with fail
          go_quiet (fail)
          go_wp2
          go_roundw
          case rel => exact ⟨j + 1, by omega, by go_num, HX, below_drewN hB' _, hz'⟩
          case measure => simp [intOf]; omega
    · go_wp2
      go_ret
      exact ⟨ret_b (by rw [seenP, show c.seen.length = j by omega, HSO.out]), HB0.out.trans (hB.mono (by omega))⟩
end Go.Proofs.Ytbkknliggnhpcaa
/- The plain law of chapter 07, the program's side: all that can be of a hold, as the program goes through it. -/
namespace Go.Proofs.Ytbkknliggnhpcaa
/-- All ways to go on with greens g from lot k on, d lots. -/
def compF (c : Cargo) (hold : Int) : Nat → Nat → List Int → List (List Int)
  | 0, _, g => [g]
  | d + 1, k, g => (spanVals (lotSpan c hold k)).flatMap fun x => compF c hold d (k + 1) (g ++ [x])
theorem greensTo_comp (c : Cargo) (hold : Int) : ∀ d k, greensTo c hold (k + d) = (greensTo c hold k).flatMap (compF c hold d k)
  | 0, k => by
    have h : compF c hold 0 k = fun g => [g] := by funext g; rfl
    rw [h, Nat.add_zero, List.flatMap_singleton']
  | d + 1, k => by
    rw [show k + (d + 1) = (k + 1) + d by omega, greensTo_comp c hold d (k + 1), greensTo, List.flatMap_assoc]
    congr 1
    funext g
    rw [compF, List.flatMap_map]
theorem comp_all (c : Cargo) (hold : Int) : compF c hold c.lots.length 0 [] = greensTo c hold c.lots.length := by
  have := greensTo_comp c hold c.lots.length 0
  rw [Nat.zero_add] at this
  rw [this, greensTo]; simp
theorem comp_mem {c : Cargo} {hold : Int} : ∀ {d k : Nat} {g x : List Int}, x ∈ compF c hold d k g → x.take g.length = g ∧ x.length = g.length + d
  | 0, k, g, x, h => by simp [compF] at h; subst h; simp
  | d + 1, k, g, x, h => by
    simp only [compF, List.mem_flatMap] at h
    obtain ⟨y, _, hy⟩ := h
    obtain ⟨h1, h2⟩ := comp_mem hy
    simp only [List.length_append, List.length_cons, List.length_nil] at h1 h2
    refine ⟨?_, by omega⟩
    have := congrArg (List.take g.length) h1
    rwa [List.take_take, Nat.min_eq_left (by omega), List.take_left] at this
theorem comp_digit {c : Cargo} {hold : Int} {d k : Nat} {g x : List Int} {y : Int} (h : x ∈ compF c hold d k (g ++ [y])) : nth x g.length = y := by
  obtain ⟨h1, h2⟩ := comp_mem h
  simp only [List.length_append, List.length_cons, List.length_nil] at h1 h2
  have h3 : nth (x.take (g.length + 1)) g.length = y := by rw [h1]; simp [nth]
  simpa [nth] using h3
theorem spanVals_nodup (s : Span) : (spanVals s).Nodup := by
  rw [spanVals, List.Nodup, List.pairwise_map]
  exact List.Pairwise.imp (fun h e => h (by omega)) List.nodup_range
theorem flat_nodup {α β : Type} {l : List α} {f : α → List β} (h : l.Nodup) (hf : ∀ x ∈ l, (f x).Nodup) (hd : ∀ x ∈ l, ∀ y ∈ l, x ≠ y → ∀ z, z ∈ f x → z ∉ f y) : (l.flatMap f).Nodup := by
  induction l with
  | nil => simp
  | cons a l ih =>
    rw [List.flatMap_cons, List.nodup_append]
    rw [List.nodup_cons] at h
    refine ⟨hf a (by simp), ih h.2 (fun x hx => hf x (by simp [hx])) (fun x hx y hy => hd x (by simp [hx]) y (by simp [hy])), ?_⟩
    intro z hz w hw e
    subst e
    rw [List.mem_flatMap] at hw
    obtain ⟨b, hb, hzb⟩ := hw
    exact hd a (by simp) b (by simp [hb]) (fun e => h.1 (e ▸ hb)) z hz hzb
theorem comp_nodup (c : Cargo) (hold : Int) : ∀ d k g, (compF c hold d k g).Nodup
  | 0, _, _ => by simp [compF]
  | d + 1, k, g => by
    rw [compF]
    refine flat_nodup (spanVals_nodup _) (fun x _ => comp_nodup c hold d (k + 1) _) (fun x _ y _ hne z hz hz' => hne ?_)
    rw [← comp_digit hz, ← comp_digit hz']
def zeros (n : Nat) : List Int := List.replicate (5 - n) 0
def mkSt (c : Cargo) (hold wm : Int) (g : List Int) : St := ⟨hold, wm, g ++ zeros c.lots.length, (ofB c hold c.lots.length : Nat)⟩
theorem mkSt_inj {c : Cargo} {hold wm : Int} {g g' : List Int} (h : g.length = g'.length) (e : mkSt c hold wm g = mkSt c hold wm g') : g = g' := by
  have := congrArg St.greens e
  exact (List.append_inj this h).1
def todoS (c : Cargo) (hold wm : Int) (d k : Nat) (g : List Int) : List St := (compF c hold d k g).map (mkSt c hold wm)
def statesS (c : Cargo) (hold : Nat) : List St := (spanVals (nth c.holds hold)).flatMap fun wm => todoS c hold wm c.lots.length 0 []
def okS (c : Cargo) (but : Nat) (s : St) : Bool := seenP c s.hold (timesV c s) but
def truthsS (c : Cargo) (hold but : Nat) : List St := (statesS c hold).filter (okS c but)
theorem statesS_map (c : Cargo) (hold : Nat) : statesS c hold = (allM c hold).map fun p => mkSt c hold p.1 p.2 := by
  rw [statesS, allM, List.map_flatMap]
  congr 1
  funext wm
  rw [todoS, comp_all, List.map_map]
  rfl
theorem todo_zero (c : Cargo) (hold wm : Int) (k : Nat) (g : List Int) : todoS c hold wm 0 k g = [mkSt c hold wm g] := rfl
theorem todo_succ (c : Cargo) (hold wm : Int) (d k : Nat) (g : List Int) : todoS c hold wm (d + 1) k g = (spanVals (lotSpan c hold k)).flatMap fun x => todoS c hold wm d (k + 1) (g ++ [x]) := by
  rw [todoS, compF, List.map_flatMap]; rfl
theorem todo_nodup (c : Cargo) (hold wm : Int) (d k : Nat) (g : List Int) : (todoS c hold wm d k g).Nodup := by
  have : ∀ l : List (List Int), l.Nodup → (∀ x ∈ l, x.length = g.length + d) → (l.map (mkSt c hold wm)).Nodup := fun l => by
    induction l with
    | nil => simp
    | cons a l ih =>
      intro h hl
      rw [List.nodup_cons] at h
      rw [List.map_cons, List.nodup_cons]
      refine ⟨fun hm => ?_, ih h.2 (fun x hx => hl x (by simp [hx]))⟩
      obtain ⟨b, hb, e⟩ := List.mem_map.1 hm
      have := mkSt_inj (by rw [hl b (by simp [hb]), hl a (by simp)]) e
      exact h.1 (this ▸ hb)
  exact this _ (comp_nodup c hold d k g) (fun x hx => (comp_mem hx).2)
/-- The states of two digits are apart. -/
theorem todo_apart {c : Cargo} {hold wm : Int} {d k : Nat} {g : List Int} {x y : Int} {s : St} (h : s ∈ todoS c hold wm d (k + 1) (g ++ [x])) (h' : s ∈ todoS c hold wm d (k + 1) (g ++ [y])) : x = y := by
  obtain ⟨a, ha, rfl⟩ := List.mem_map.1 h
  obtain ⟨b, hb, e⟩ := List.mem_map.1 h'
  have h1 := (comp_mem ha).2
  have h2 := (comp_mem hb).2
  simp only [List.length_append, List.length_cons, List.length_nil] at h1 h2
  have := mkSt_inj (by omega) e
  subst this
  rw [← comp_digit ha, ← comp_digit hb]
theorem todo_warm {c : Cargo} {hold wm : Int} {d k : Nat} {g : List Int} {s : St} (h : s ∈ todoS c hold wm d k g) : s.warm = wm ∧ s.hold = hold := by
  obtain ⟨a, _, rfl⟩ := List.mem_map.1 h
  exact ⟨rfl, rfl⟩
theorem todo_mem {c : Cargo} (hv : Valid c) {hold : Nat} (hh : hold < c.holds.length) {wm : Int} (hw : wm ∈ spanVals (nth c.holds hold)) {s : St} (h : s ∈ todoS c hold wm c.lots.length 0 []) : s ∈ statesS c hold :=
  List.mem_flatMap.2 ⟨wm, hw, h⟩
theorem there_bit (c : Cargo) (hold : Int) : ∀ n k, k < n → (ofB c hold n).testBit k = decide ((nth c.lots k).hold = hold)
  | 0, k, h => by omega
  | n + 1, k, h => by
    have hlt := ofB_lt c hold n
    rw [ofB]
    by_cases hk : k < n
    · have ih := there_bit c hold n k hk
      split
      · rw [Nat.testBit_or, ih, Nat.testBit_two_pow]; simp; omega
      · exact ih
    · obtain rfl : k = n := by omega
      have h0 : (ofB c hold k).testBit k = false := Nat.testBit_lt_two_pow hlt
      split
      · rename_i he; rw [Nat.testBit_or, h0, Nat.testBit_two_pow]; simp [he]
      · rename_i he; rw [h0]; simp [he]
theorem nth_zeros (n k : Nat) : nth (zeros n) k = 0 := by
  rw [nth, zeros, List.getD_eq_getElem?_getD, List.getElem?_replicate]; split <;> rfl
theorem nth_app {a b : List Int} (k : Nat) : nth (a ++ b) k = if k < a.length then nth a k else nth b (k - a.length) := by
  split
  · rename_i h; simp [nth, List.getElem?_append_left h]
  · rename_i h; simp [nth, List.getElem?_append_right (Nat.le_of_not_lt h)]
theorem statesS_ok {c : Cargo} (hv : Valid c) {hold : Nat} (hh : hold < c.holds.length) {s : St} (h : s ∈ statesS c hold) : StB s ∧ s.hold = hold ∧ s.there = (ofB c hold c.lots.length : Nat) := by
  rw [statesS_map] at h
  obtain ⟨p, hp, rfl⟩ := List.mem_map.1 h
  obtain ⟨h1, h2, h3⟩ := allM_mem hv hh hp
  have hl := hv.lots
  have hb := ofB_lt c hold c.lots.length
  have hp2 : 2 ^ c.lots.length ≤ 2 ^ 4 := Nat.pow_le_pow_right (by omega) hl
  refine ⟨⟨?_, fun i => ?_, h1, ?_, ?_⟩, rfl, rfl⟩
  · simp [mkSt, zeros, h2]; omega
  · show -100 ≤ nth (p.2 ++ zeros _) i ∧ nth (p.2 ++ zeros _) i ≤ 100
    rw [nth_app]
    split
    · have := h3 i; omega
    · rw [nth_zeros]; omega
  · have := hv.holds.2; show -1 ≤ (hold : Int) ∧ (hold : Int) ≤ 1000; omega
  · show (0 : Int) ≤ ((ofB c hold c.lots.length : Nat) : Int) ∧ ((ofB c hold c.lots.length : Nat) : Int) < 32
    omega
end Go.Proofs.Ytbkknliggnhpcaa
/- The memory of turn's iterator of truths; two states are compared; its innermost call (all lots have a green). -/
namespace Go.Proofs.Ytbkknliggnhpcaa
open Go.RowKit
attribute [local go_sem ↓] Go.wp_at_zero Go.wp_at_succ

theorem Try.keyAtSt : Try.prog.keyTypeAt 3 110 = true := by kernel_rfl
theorem stVal_lit_inj {s t : St} (hs : s.Ok) (ht : t.Ok) {l : Lit} (h1 : keyOf Try.prog 110 (stVal s) = some l) (h2 : keyOf Try.prog 110 (stVal t) = some l) : s = t :=
  stVal_inj hs.len ht.len (Try.keySt.inj h1 h2)
set_option maxRecDepth 100000 in
theorem run_eq_st {s t : St} (hs : s.Ok) (ht : t.Ok) (hne : s ≠ t) (w : World) : (Op.equalIn 10000 110 (stVal s) (stVal t)).run Try.prog w = .ok false w := by
  obtain ⟨ls, hls⟩ := stVal_key s hs
  obtain ⟨lt, hlt⟩ := stVal_key t ht
  obtain ⟨r, hr, hiff⟩ := run_equal_deep w (m := 3) (by omega) Try.keyAtSt Try.wideSt hls hlt
  have : r = false := by
    cases r with
    | false => rfl
    | true =>
      have e := hiff.1 rfl
      subst e
      exact absurd (stVal_lit_inj hs ht hls hlt) hne
  subst this
  simp only [Op.equal, Op.maxDepth] at hr
  exact hr

def stRow (s : St) : List Int := [s.hold, s.warm, nth s.greens 0, nth s.greens 1, nth s.greens 2, nth s.greens 3, nth s.greens 4, s.there]
/-- What never turns of the blocks: which are which. -/
structure Fix (C : Nat → Prop) (L U b bm p1 ph pf py pn ps pl : Nat) : Prop where
  hLU : L ≤ U
  hm : bm < U
  hb : b < U
  c : ∀ k, C k → k = bm ∨ ((L ≤ k ∧ k ≠ b) ∧ k < U ∧ k ≠ p1 ∧ k ≠ ph)
  a1 : p1 < U
  ah : ph < U
  f : U ≤ pf ∧ pf ≠ ps ∧ pf ≠ pl
  y : U ≤ py ∧ py ≠ ps ∧ py ≠ pl
  n : U ≤ pn ∧ pn ≠ ps ∧ pn ≠ pl
  s : U ≤ ps
  l : U ≤ pl
  sl : ps ≠ pl
/-- The iterator's memory: the cargo that is looked at, the iterator's own boxes, the state s, the state that came last. -/
structure ItM (W : World) (L U b bm p1 ph pf py pn ps pl l : Nat) (c : Cargo) (A1 A2 A3 A4 : Option Addr) (c1 c2 c3 c4 : Nat) (but hold : Nat) (s last : St) : Prop where
  look : LookL W L b bm c A1 A2 A3 A4 c1 c2 c3 c4 but (timesV c)
  e1 : W.cell? ⟨p1, 0, none⟩ = some (.pointer (some ⟨b, 0, none⟩))
  eh : W.cell? ⟨ph, 0, none⟩ = some (.int .i64 hold)
  ef : W.cell? ⟨pf, 0, none⟩ = some (.func (.func 108) #[.pointer (some ⟨b, 0, none⟩)] #[])
  ey : W.cell? ⟨py, 0, none⟩ = some (.func (.yield l) #[] #[])
  en : W.cell? ⟨pn, 0, none⟩ = some (.func (.func 109) #[] #[.pointer (some ⟨p1, 0, none⟩), .pointer (some ⟨ps, 0, none⟩), .pointer (some ⟨pl, 0, none⟩), .pointer (some ⟨pf, 0, none⟩), .pointer (some ⟨ph, 0, none⟩), .pointer (some ⟨py, 0, none⟩), .pointer (some ⟨pn, 0, none⟩)])
  rs : OwnE 110 W U ps 8 (stRow s)
  rl : OwnE 110 W U pl 8 (stRow last)
section
variable {S C : Nat → Prop} {W W' : World} {L U b bm p1 ph pf py pn ps pl l : Nat} {c : Cargo} {A1 A2 A3 A4 : Option Addr} {c1 c2 c3 c4 : Nat} {but hold : Nat} {s last : St}
theorem ItM.keep (h : ItM W L U b bm p1 ph pf py pn ps pl l c A1 A2 A3 A4 c1 c2 c3 c4 but hold s last) (F : Fix C L U b bm p1 ph pf py pn ps pl) (hk : Keep S W W') (hS : ∀ k, S k → k = bm ∨ C k) (hn : Known W' bm (timesV c)) :
    ItM W' L U b bm p1 ph pf py pn ps pl l c A1 A2 A3 A4 c1 c2 c3 c4 but hold s last := by
  have hC : ∀ k, S k → k = bm ∨ ((L ≤ k ∧ k ≠ b) ∧ k < U ∧ k ≠ p1 ∧ k ≠ ph) := fun k hs => (hS k hs).elim .inl (F.c k)
  have hm := F.hm
  have hc : ∀ q o v, (q < U → q = p1 ∨ q = ph) → W.cell? ⟨q, o, none⟩ = some v → W'.cell? ⟨q, o, none⟩ = some v := fun q o v h2 hv => by
    refine (hk.cell (cell_lt hv) (fun hs => ?_)).trans hv
    rcases hC q hs with h3 | ⟨_, h3, h4, h5⟩
    · exact h.look.k.ne hv h3
    · rcases h2 h3 with h6 | h6
      · exact h4 h6
      · exact h5 h6
  have hb : ∀ q, U ≤ q → q < W.heap.size → W'.heap[q]? = W.heap[q]? := fun q h1 h2 => hk.block q h2 (fun hs => by rcases hC q hs with h3 | ⟨_, h3, _⟩ <;> omega)
  have f1 := F.f
  have f2 := F.y
  have f3 := F.n
  exact ⟨h.look.keep hk (fun k hs => (hC k hs).imp id (fun h => h.1)) hn, hc _ _ _ (fun _ => .inl rfl) h.e1, hc _ _ _ (fun _ => .inr rfl) h.eh, hc _ _ _ (fun _ => by omega) h.ef,
    hc _ _ _ (fun _ => by omega) h.ey, hc _ _ _ (fun _ => by omega) h.en, h.rs.block (hb _ F.s h.rs.lt.2), h.rl.block (hb _ F.l h.rl.lt.2)⟩
/-- A store into the state, or into the last one. -/
theorem ItM.turn {s' last' : St} (h : ItM W L U b bm p1 ph pf py pn ps pl l c A1 A2 A3 A4 c1 c2 c3 c4 but hold s last) (F : Fix C L U b bm p1 ph pf py pn ps pl) (hk : Keep (fun k => k = ps ∨ k = pl) W W')
    (hs : OwnE 110 W' U ps 8 (stRow s')) (hl : OwnE 110 W' U pl 8 (stRow last')) : ItM W' L U b bm p1 ph pf py pn ps pl l c A1 A2 A3 A4 c1 c2 c3 c4 but hold s' last' := by
  have hLU := F.hLU
  have hm := F.hm
  have hb := F.hb
  have f1 := F.f
  have f2 := F.y
  have f3 := F.n
  have f4 := F.a1
  have f5 := F.ah
  have f6 := F.s
  have f7 := F.l
  have hc : ∀ q o v, q ≠ ps → q ≠ pl → W.cell? ⟨q, o, none⟩ = some v → W'.cell? ⟨q, o, none⟩ = some v := fun q o v h1 h2 hv => (hk.cell (cell_lt hv) (fun hs => by rcases hs with h | h <;> omega)).trans hv
  exact ⟨h.look.keep' hk (fun k hs => by rcases hs with h | h <;> omega), hc _ _ _ (by omega) (by omega) h.e1, hc _ _ _ (by omega) (by omega) h.eh, hc _ _ _ (by omega) (by omega) h.ef,
    hc _ _ _ (by omega) (by omega) h.ey, hc _ _ _ (by omega) (by omega) h.en, hs, hl⟩
end
theorem OwnE.store8 {e : TypeId} {w : World} {base g : Nat} {xs : List Int} (h : OwnE e w base g 8 xs) (y0 y1 y2 y3 y4 y5 y6 y7 : Int) :
    OwnE e ((((((((w.setCell ⟨g, 0, none⟩ (.int .i64 y0)).setCell ⟨g, 1, none⟩ (.int .i64 y1)).setCell ⟨g, 2, none⟩ (.int .i64 y2)).setCell ⟨g, 3, none⟩ (.int .i64 y3)).setCell ⟨g, 4, none⟩ (.int .i64 y4)).setCell ⟨g, 5, none⟩ (.int .i64 y5)).setCell ⟨g, 6, none⟩ (.int .i64 y6)).setCell ⟨g, 7, none⟩ (.int .i64 y7)) base g 8 [y0, y1, y2, y3, y4, y5, y6, y7] := by
  have hl := h.len
  have := (((((((h.set 0 y0).set 1 y1).set 2 y2).set 3 y3).set 4 y4).set 5 y5).set 6 y6).set 7 y7
  match xs, hl with
  | [a, b, c, d, f, g, h, i], _ => simpa using this
theorem keep_store8 {w : World} {g : Nat} (S : Nat → Prop) (hg : S g) (y0 y1 y2 y3 y4 y5 y6 y7 : Value) :
    Keep S w ((((((((w.setCell ⟨g, 0, none⟩ y0).setCell ⟨g, 1, none⟩ y1).setCell ⟨g, 2, none⟩ y2).setCell ⟨g, 3, none⟩ y3).setCell ⟨g, 4, none⟩ y4).setCell ⟨g, 5, none⟩ y5).setCell ⟨g, 6, none⟩ y6).setCell ⟨g, 7, none⟩ y7) :=
  (((((((Keep.setCell w _ _ S hg).trans (Keep.setCell _ _ _ S hg)).trans (Keep.setCell _ _ _ S hg)).trans (Keep.setCell _ _ _ S hg)).trans (Keep.setCell _ _ _ S hg)).trans (Keep.setCell _ _ _ S hg)).trans (Keep.setCell _ _ _ S hg)).trans (Keep.setCell _ _ _ S hg)

/-- How a call of next ends: all of a list of states have come, or a round has said 'no more'. -/
def NextPost (C : Nat → Prop) (L U b bm p1 ph pf py pn ps pl l : Nat) (c : Cargo) (A1 A2 A3 A4 : Option Addr) (c1 c2 c3 c4 : Nat) (but hold : Nat) (I Ix : List St → World → Prop) (pre : List St) (W : World) (todo : List St) (last : St) (R : St → Prop) (e : Ending) (W' : World) : Prop :=
  (e = .returned (.bool true) ∧ I (pre ++ todo.filter (okS c but)) W' ∧ Keep (fun k => k = bm ∨ k = ps ∨ k = pl ∨ C k) W W' ∧
    ∃ s' last', ItM W' L U b bm p1 ph pf py pn ps pl l c A1 A2 A3 A4 c1 c2 c3 c4 but hold s' last' ∧ R s' ∧ (last' = last ∨ last' ∈ todo) ∧ last'.Ok) ∨
  (e = .returned (.bool false) ∧ (∃ q, q ≠ [] ∧ q <+: todo.filter (okS c but) ∧ Ix (pre ++ q) W') ∧ Known W' bm (timesV c) ∧ Keep (fun k => k = bm ∨ k = ps ∨ k = pl ∨ C k) W W')
end Go.Proofs.Ytbkknliggnhpcaa
/- The innermost call of turn's next: a state is looked at, and handed on. -/
namespace Go.Proofs.Ytbkknliggnhpcaa
open Go.RowKit
attribute [local go_sem ↓] Go.wp_at_zero Go.wp_at_succ

theorem nth8_0 {a b c d e f g h : Int} : nth [a, b, c, d, e, f, g, h] 0 = a := rfl
theorem nth8_1 {a b c d e f g h : Int} : nth [a, b, c, d, e, f, g, h] 1 = b := rfl
theorem nth8_2 {a b c d e f g h : Int} : nth [a, b, c, d, e, f, g, h] 2 = c := rfl
theorem nth8_3 {a b c d e f g h : Int} : nth [a, b, c, d, e, f, g, h] 3 = d := rfl
theorem nth8_4 {a b c d e f g h : Int} : nth [a, b, c, d, e, f, g, h] 4 = e := rfl
theorem nth8_5 {a b c d e f g h : Int} : nth [a, b, c, d, e, f, g, h] 5 = f := rfl
theorem nth8_6 {a b c d e f g h : Int} : nth [a, b, c, d, e, f, g, h] 6 = g := rfl
theorem nth8_7 {a b c d e f g h : Int} : nth [a, b, c, d, e, f, g, h] 7 = h := rfl

set_option maxHeartbeats 4000000 in
set_option maxRecDepth 100000 in
theorem next_leaf {C : Nat → Prop} {W : World} {L U b bm p1 ph pf py pn ps pl l : Nat} {c : Cargo} {A1 A2 A3 A4 : Option Addr} {c1 c2 c3 c4 : Nat} {but hold : Nat} {s last : St} {I Ix : List St → World → Prop} {pre T : List St}
    (F : Fix C L U b bm p1 ph pf py pn ps pl) (hv : Valid c) (hbut : but < 32)
    (hI : ∀ pre W W', I pre W → Keep (fun k => k = bm ∨ U ≤ k) W W' → Known W' bm (timesV c) → I pre W')
    (hY : ∀ pre x W1, x ∈ T → I pre W1 → LookL W1 L b bm c A1 A2 A3 A4 c1 c2 c3 c4 but (timesV c) → YieldAt Fence.wide 0 Try.prog l #[stVal x] W1 fun e W' =>
      Keep C W1 W' ∧ Known W' bm (timesV c) ∧ ((e = .returned (.bool true) ∧ I (pre ++ [x]) W') ∨ (e = .returned (.bool false) ∧ Ix (pre ++ [x]) W')))
    (hs : StB s) (hsh : s.hold = hold) (hlast : last.Ok) (hne : s ≠ last) (hmem : okS c but s = true → s ∈ T)
    (h : ItM W L U b bm p1 ph pf py pn ps pl l c A1 A2 A3 A4 c1 c2 c3 c4 but hold s last) (h0 : I pre W) :
    Calls Try.prog 109 #[.int .i64 (c.lots.length : Int), .pointer (some ⟨p1, 0, none⟩), .pointer (some ⟨ps, 0, none⟩), .pointer (some ⟨pl, 0, none⟩), .pointer (some ⟨pf, 0, none⟩), .pointer (some ⟨ph, 0, none⟩), .pointer (some ⟨py, 0, none⟩), .pointer (some ⟨pn, 0, none⟩)] W
      (NextPost C L U b bm p1 ph pf py pn ps pl l c A1 A2 A3 A4 c1 c2 c3 c4 but hold I Ix pre W [s] last (fun s' => s' = s)) := by
  have hll := hv.lots
  have hq : ((c.lots.length : Int) == (c.lots.length : Int)) = true := by simp
  have e1 := h.e1
  have eh := h.eh
  have ef := h.ef
  have q3 := h.look.q3
  have s0 := h.rs.cell (i := 0) (by omega)
  have s1 := h.rs.cell (i := 1) (by omega)
  have s2 := h.rs.cell (i := 2) (by omega)
  have s3 := h.rs.cell (i := 3) (by omega)
  have s4 := h.rs.cell (i := 4) (by omega)
  have s5 := h.rs.cell (i := 5) (by omega)
  have s6 := h.rs.cell (i := 6) (by omega)
  have s7 := h.rs.cell (i := 7) (by omega)
  have l0 := h.rl.cell (i := 0) (by omega)
  have l1 := h.rl.cell (i := 1) (by omega)
  have l2 := h.rl.cell (i := 2) (by omega)
  have l3 := h.rl.cell (i := 3) (by omega)
  have l4 := h.rl.cell (i := 4) (by omega)
  have l5 := h.rl.cell (i := 5) (by omega)
  have l6 := h.rl.cell (i := 6) (by omega)
  have l7 := h.rl.cell (i := 7) (by omega)
  have heq := run_eq_st hs.ok hlast hne
  have hgt : Try.prog.eqGuardType Try.prog.depth 110 = false := by kernel_rfl
  simp only [stVal, iv] at heq
  simp only [stRow, nth8_0, nth8_1, nth8_2, nth8_3, nth8_4, nth8_5, nth8_6, nth8_7] at s0 s1 s2 s3 s4 s5 s6 s7 l0 l1 l2 l3 l4 l5 l6 l7
  have HT := hide (times_L h.look hv.small s hs)
  have HH := hide h
  have HV := hide hv
  have HF := hide F
  have H0 := hide h0
  have HNE := hide hne
  have HSH := hide hsh
  clear h hv F h0 hne hsh
  go_enter Try.func109, Try.ntmps109
  go_wp2_with fail
  have hb1 := HH.out.look.hb
  have hm1 := HH.out.look.hm
  have HL := hide (HH.out.look.keep' (S := fun _ => False) (Keep.of_below' (Below.refl W.heap.size W).drew _) (fun _ h => h.elim))
  have z1 := cell_lt e1
  have zh := cell_lt eh
  have zf := cell_lt ef
  have zs := cell_lt s0
  have zl := cell_lt l0
  have nz1 : ¬ p1 = bm := HH.out.look.k.ne e1
  have nzh : ¬ ph = bm := HH.out.look.k.ne eh
  have nzf : ¬ pf = bm := HH.out.look.k.ne ef
  have nzs : ¬ ps = bm := HH.out.look.k.ne s0
  have nzl : ¬ pl = bm := HH.out.look.k.ne l0
  go_region_held3 (fun w' => w'.cell? ⟨p1, 0, none⟩ = some (.pointer (some ⟨b, 0, none⟩)) ∧ w'.cell? ⟨ph, 0, none⟩ = some (.int .i64 hold) ∧ w'.cell? ⟨pf, 0, none⟩ = some (.func (.func 108) #[.pointer (some ⟨b, 0, none⟩)] #[]) ∧ w'.cell? ⟨ps, 0, none⟩ = some (.int .i64 s.hold) ∧ w'.cell? ⟨ps, 1, none⟩ = some (.int .i64 s.warm) ∧ w'.cell? ⟨ps, 2, none⟩ = some (.int .i64 (nth s.greens 0)) ∧ w'.cell? ⟨ps, 3, none⟩ = some (.int .i64 (nth s.greens 1)) ∧ w'.cell? ⟨ps, 4, none⟩ = some (.int .i64 (nth s.greens 2)) ∧ w'.cell? ⟨ps, 5, none⟩ = some (.int .i64 (nth s.greens 3)) ∧ w'.cell? ⟨ps, 6, none⟩ = some (.int .i64 (nth s.greens 4)) ∧ w'.cell? ⟨ps, 7, none⟩ = some (.int .i64 s.there) ∧ w'.cell? ⟨pl, 0, none⟩ = some (.int .i64 last.hold) ∧ w'.cell? ⟨pl, 1, none⟩ = some (.int .i64 last.warm) ∧ w'.cell? ⟨pl, 2, none⟩ = some (.int .i64 (nth last.greens 0)) ∧ w'.cell? ⟨pl, 3, none⟩ = some (.int .i64 (nth last.greens 1)) ∧ w'.cell? ⟨pl, 4, none⟩ = some (.int .i64 (nth last.greens 2)) ∧ w'.cell? ⟨pl, 5, none⟩ = some (.int .i64 (nth last.greens 3)) ∧ w'.cell? ⟨pl, 6, none⟩ = some (.int .i64 (nth last.greens 4)) ∧ w'.cell? ⟨pl, 7, none⟩ = some (.int .i64 last.there))
    (first
      | exact ⟨((hb3.cell (p := ⟨_, _, _⟩) (Nat.lt_of_lt_of_le z1 hk2.size)).trans (hk2.cell z1 nz1)).trans e1, ((hb3.cell (p := ⟨_, _, _⟩) (Nat.lt_of_lt_of_le zh hk2.size)).trans (hk2.cell zh nzh)).trans eh, ((hb3.cell (p := ⟨_, _, _⟩) (Nat.lt_of_lt_of_le zf hk2.size)).trans (hk2.cell zf nzf)).trans ef, ((hb3.cell (p := ⟨_, _, _⟩) (Nat.lt_of_lt_of_le zs hk2.size)).trans (hk2.cell zs nzs)).trans s0, ((hb3.cell (p := ⟨_, _, _⟩) (Nat.lt_of_lt_of_le zs hk2.size)).trans (hk2.cell zs nzs)).trans s1, ((hb3.cell (p := ⟨_, _, _⟩) (Nat.lt_of_lt_of_le zs hk2.size)).trans (hk2.cell zs nzs)).trans s2, ((hb3.cell (p := ⟨_, _, _⟩) (Nat.lt_of_lt_of_le zs hk2.size)).trans (hk2.cell zs nzs)).trans s3, ((hb3.cell (p := ⟨_, _, _⟩) (Nat.lt_of_lt_of_le zs hk2.size)).trans (hk2.cell zs nzs)).trans s4, ((hb3.cell (p := ⟨_, _, _⟩) (Nat.lt_of_lt_of_le zs hk2.size)).trans (hk2.cell zs nzs)).trans s5, ((hb3.cell (p := ⟨_, _, _⟩) (Nat.lt_of_lt_of_le zs hk2.size)).trans (hk2.cell zs nzs)).trans s6, ((hb3.cell (p := ⟨_, _, _⟩) (Nat.lt_of_lt_of_le zs hk2.size)).trans (hk2.cell zs nzs)).trans s7, ((hb3.cell (p := ⟨_, _, _⟩) (Nat.lt_of_lt_of_le zl hk2.size)).trans (hk2.cell zl nzl)).trans l0, ((hb3.cell (p := ⟨_, _, _⟩) (Nat.lt_of_lt_of_le zl hk2.size)).trans (hk2.cell zl nzl)).trans l1, ((hb3.cell (p := ⟨_, _, _⟩) (Nat.lt_of_lt_of_le zl hk2.size)).trans (hk2.cell zl nzl)).trans l2, ((hb3.cell (p := ⟨_, _, _⟩) (Nat.lt_of_lt_of_le zl hk2.size)).trans (hk2.cell zl nzl)).trans l3, ((hb3.cell (p := ⟨_, _, _⟩) (Nat.lt_of_lt_of_le zl hk2.size)).trans (hk2.cell zl nzl)).trans l4, ((hb3.cell (p := ⟨_, _, _⟩) (Nat.lt_of_lt_of_le zl hk2.size)).trans (hk2.cell zl nzl)).trans l5, ((hb3.cell (p := ⟨_, _, _⟩) (Nat.lt_of_lt_of_le zl hk2.size)).trans (hk2.cell zl nzl)).trans l6, ((hb3.cell (p := ⟨_, _, _⟩) (Nat.lt_of_lt_of_le zl hk2.size)).trans (hk2.cell zl nzl)).trans l7⟩
      | exact ⟨(hk2.cell z1 nz1).trans e1, (hk2.cell zh nzh).trans eh, (hk2.cell zf nzf).trans ef, (hk2.cell zs nzs).trans s0, (hk2.cell zs nzs).trans s1, (hk2.cell zs nzs).trans s2, (hk2.cell zs nzs).trans s3, (hk2.cell zs nzs).trans s4, (hk2.cell zs nzs).trans s5, (hk2.cell zs nzs).trans s6, (hk2.cell zs nzs).trans s7, (hk2.cell zl nzl).trans l0, (hk2.cell zl nzl).trans l1, (hk2.cell zl nzl).trans l2, (hk2.cell zl nzl).trans l3, (hk2.cell zl nzl).trans l4, (hk2.cell zl nzl).trans l5, (hk2.cell zl nzl).trans l6, (hk2.cell zl nzl).trans l7⟩
      | go_keep)
    (first
      | (go_at_call 87; refine (times_L HL.out HV.out.small s hs).mono ?_; rintro e w2 ⟨rfl, hk2, hn2⟩)
      | (go_at_call 108; refine (seen_any ((HL.out.keep hk2 (fun k h => .inl h) hn2).look) HV.out hbut hold (timesV c s)).mono ?_; rintro e w3 ⟨rfl, hb3⟩))
  have hk3 : Keep (fun k => k = bm) W w3 := (Keep.of_below' (Below.refl W.heap.size W).drew _).trans (hk2.trans (Keep.of_below' hb3 _))
  have hn3 : Known w3 bm (timesV c) := hn2.keep (Keep.of_below' hb3 (fun _ => False)) (fun h => h)
  have HM := hide (HH.out.keep HF.out hk3 (fun k h => .inl h) hn3)
  have HI3 := hide (hI pre W w3 H0.out (hk3.mono (fun k _ h => .inl h)) hn3)
  have HK3 := hide hk3
  have hsq : seenP c hold (timesV c s) but = okS c but s := by rw [okS, HSH.out]
  rw [hsq]
  clear hsq hk3 hn3 hk2 hb3 hn2 s0 s1 s2 s3 s4 s5 s6 s7 l0 l1 l2 l3 l4 l5 l6 l7 e1 eh ef q3
  have s0 := HM.out.rs.cell (i := 0) (by omega)
  have s1 := HM.out.rs.cell (i := 1) (by omega)
  have s2 := HM.out.rs.cell (i := 2) (by omega)
  have s3 := HM.out.rs.cell (i := 3) (by omega)
  have s4 := HM.out.rs.cell (i := 4) (by omega)
  have s5 := HM.out.rs.cell (i := 5) (by omega)
  have s6 := HM.out.rs.cell (i := 6) (by omega)
  have s7 := HM.out.rs.cell (i := 7) (by omega)
  have l0 := HM.out.rl.cell (i := 0) (by omega)
  have l1 := HM.out.rl.cell (i := 1) (by omega)
  have l2 := HM.out.rl.cell (i := 2) (by omega)
  have l3 := HM.out.rl.cell (i := 3) (by omega)
  have l4 := HM.out.rl.cell (i := 4) (by omega)
  have l5 := HM.out.rl.cell (i := 5) (by omega)
  have l6 := HM.out.rl.cell (i := 6) (by omega)
  have l7 := HM.out.rl.cell (i := 7) (by omega)
  have g0 := HM.out.rl.frozen 0
  have g1 := HM.out.rl.frozen 1
  have g2 := HM.out.rl.frozen 2
  have g3 := HM.out.rl.frozen 3
  have g4 := HM.out.rl.frozen 4
  have g5 := HM.out.rl.frozen 5
  have g6 := HM.out.rl.frozen 6
  have g7 := HM.out.rl.frozen 7
  simp only [stRow, nth8_0, nth8_1, nth8_2, nth8_3, nth8_4, nth8_5, nth8_6, nth8_7] at s0 s1 s2 s3 s4 s5 s6 s7 l0 l1 l2 l3 l4 l5 l6 l7
  clear heq hgt
  cases hok : okS c but s with
  | false =>
    go_wp2_with fail
    go_ret
    refine .inl ⟨rfl, ?_, ?_, s, last, HM.out, rfl, .inl rfl, hlast⟩
    · simp [hok]; exact HI3.out
    · exact HK3.out.mono (fun k _ h => .inl h)
  | true =>
    go_upto_region 5 with (fail)
    have hT4 : OwnE 110 ((((((((w3.setCell ⟨pl, 0, none⟩ (.int .i64 s.hold)).setCell ⟨pl, 1, none⟩ (.int .i64 s.warm)).setCell ⟨pl, 2, none⟩ (.int .i64 (nth s.greens 0))).setCell ⟨pl, 3, none⟩ (.int .i64 (nth s.greens 1))).setCell ⟨pl, 4, none⟩ (.int .i64 (nth s.greens 2))).setCell ⟨pl, 5, none⟩ (.int .i64 (nth s.greens 3))).setCell ⟨pl, 6, none⟩ (.int .i64 (nth s.greens 4))).setCell ⟨pl, 7, none⟩ (.int .i64 s.there)) U pl 8 (stRow s) := HM.out.rl.store8 s.hold s.warm (nth s.greens 0) (nth s.greens 1) (nth s.greens 2) (nth s.greens 3) (nth s.greens 4) s.there
    have hk4 : Keep (fun k => k = pl) w3 ((((((((w3.setCell ⟨pl, 0, none⟩ (.int .i64 s.hold)).setCell ⟨pl, 1, none⟩ (.int .i64 s.warm)).setCell ⟨pl, 2, none⟩ (.int .i64 (nth s.greens 0))).setCell ⟨pl, 3, none⟩ (.int .i64 (nth s.greens 1))).setCell ⟨pl, 4, none⟩ (.int .i64 (nth s.greens 2))).setCell ⟨pl, 5, none⟩ (.int .i64 (nth s.greens 3))).setCell ⟨pl, 6, none⟩ (.int .i64 (nth s.greens 4))).setCell ⟨pl, 7, none⟩ (.int .i64 s.there)) := keep_store8 (w := w3) (g := pl) (fun k => k = pl) rfl (.int .i64 s.hold) (.int .i64 s.warm) (.int .i64 (nth s.greens 0)) (.int .i64 (nth s.greens 1)) (.int .i64 (nth s.greens 2)) (.int .i64 (nth s.greens 3)) (.int .i64 (nth s.greens 4)) (.int .i64 s.there)
    generalize ((((((((w3.setCell ⟨pl, 0, none⟩ (.int .i64 s.hold)).setCell ⟨pl, 1, none⟩ (.int .i64 s.warm)).setCell ⟨pl, 2, none⟩ (.int .i64 (nth s.greens 0))).setCell ⟨pl, 3, none⟩ (.int .i64 (nth s.greens 1))).setCell ⟨pl, 4, none⟩ (.int .i64 (nth s.greens 2))).setCell ⟨pl, 5, none⟩ (.int .i64 (nth s.greens 3))).setCell ⟨pl, 6, none⟩ (.int .i64 (nth s.greens 4))).setCell ⟨pl, 7, none⟩ (.int .i64 s.there)) = w4 at *
    have HM4 := hide (HM.out.turn HF.out (hk4.mono (fun k _ h => .inr h)) (HM.out.rs.block (hk4.block _ HM.out.rs.lt.2 HF.out.sl)) hT4)
    have HI4 := hide (hI pre w3 w4 HI3.out (hk4.mono (fun k _ h => by have := HF.out.l; right; omega)) (HM4.out.look.k))
    have HK4 := hide ((HK3.out.mono (S' := fun k => k = bm ∨ k = ps ∨ k = pl ∨ C k) (fun k _ h => .inl h)).trans (hk4.mono (fun k _ h => .inr (.inr (.inl h)))))
    obtain ⟨fn, tmps, asg, body, hy, hR⟩ := hY pre s w4 (hmem hok) HI4.out HM4.out.look
    simp only [stVal, iv] at hy
    have HR := hide hR
    have ey := HM4.out.ey
    have s0' := HM4.out.rs.cell (i := 0) (by omega)
    have s1' := HM4.out.rs.cell (i := 1) (by omega)
    have s2' := HM4.out.rs.cell (i := 2) (by omega)
    have s3' := HM4.out.rs.cell (i := 3) (by omega)
    have s4' := HM4.out.rs.cell (i := 4) (by omega)
    have s5' := HM4.out.rs.cell (i := 5) (by omega)
    have s6' := HM4.out.rs.cell (i := 6) (by omega)
    have s7' := HM4.out.rs.cell (i := 7) (by omega)
    simp only [stRow, nth8_0, nth8_1, nth8_2, nth8_3, nth8_4, nth8_5, nth8_6, nth8_7] at s0' s1' s2' s3' s4' s5' s6' s7'
    have HOK := hide hok
    clear hT4 hk4 hR s0 s1 s2 s3 s4 s5 s6 s7 l0 l1 l2 l3 l4 l5 l6 l7 g0 g1 g2 g3 g4 g5 g6 g7 hok hmem hI hY
    refine (wpIn_wide (n := 0)).1 ?_
    gi_wp2
    refine ⟨rfl, HR.out.mono ?_⟩
    rintro e W' ⟨hkC, hnW, (⟨rfl, hIW⟩ | ⟨rfl, hIxW⟩)⟩
    · gi_wp2
      go_wp2
      go_ret
      refine .inl ⟨rfl, ?_, ?_, s, s, HM4.out.keep HF.out hkC (fun k h => .inr h) hnW, rfl, .inr (by simp), hs.ok⟩
      · simpa [HOK.out] using hIW
      · exact HK4.out.trans (hkC.mono (fun k _ h => .inr (.inr (.inr h))))
    · gi_wp2
      go_wp2
      go_ret
      refine .inr ⟨rfl, ⟨[s], by simp, by simp [HOK.out], hIxW⟩, hnW, ?_⟩
      exact HK4.out.trans (hkC.mono (fun k _ h => .inr (.inr (.inr h))))
end Go.Proofs.Ytbkknliggnhpcaa
/- turn's next: all states that go on with some greens come in turn. -/
namespace Go.Proofs.Ytbkknliggnhpcaa
open Go.RowKit
attribute [local go_sem ↓] Go.wp_at_zero Go.wp_at_succ

theorem stRow_set {s : St} (hl : s.greens.length = 5) {k : Nat} (hk : k < 5) (x : Int) : (stRow s).set (2 + k) x = stRow { s with greens := s.greens.set k x } := by
  obtain ⟨a, b, g, d⟩ := s
  match g, hl with
  | [g0, g1, g2, g3, g4], _ =>
    obtain rfl | rfl | rfl | rfl | rfl : k = 0 ∨ k = 1 ∨ k = 2 ∨ k = 3 ∨ k = 4 := by omega
    all_goals rfl
/-- A state of the iterator that stands at lot k with greens g. -/
structure StAt (c : Cargo) (hold : Nat) (wm : Int) (g : List Int) (s : St) : Prop where
  hd : s.hold = hold
  ww : s.warm = wm
  th : s.there = (ofB c hold c.lots.length : Nat)
  len : s.greens.length = 5
  take : s.greens.take g.length = g
  zero : ∀ k, c.lots.length ≤ k → nth s.greens k = 0
  bd : ∀ k, 0 ≤ nth s.greens k ∧ nth s.greens k ≤ 40
theorem StAt.less {c : Cargo} {hold : Nat} {wm : Int} {g : List Int} {x : Int} {s : St} (h : StAt c hold wm (g ++ [x]) s) : StAt c hold wm g s := by
  refine ⟨h.hd, h.ww, h.th, h.len, ?_, h.zero, h.bd⟩
  have := congrArg (List.take g.length) h.take
  simp only [List.length_append, List.length_cons, List.length_nil] at this
  rwa [List.take_take, Nat.min_eq_left (by omega), List.take_left] at this
theorem StAt.set {c : Cargo} {hold : Nat} {wm : Int} {g : List Int} {s : St} (h : StAt c hold wm g s) (hg : g.length < c.lots.length) (hl : c.lots.length ≤ 4) {x : Int} (hx : 0 ≤ x ∧ x ≤ 40) : StAt c hold wm (g ++ [x]) { s with greens := s.greens.set g.length x } := by
  have hlen := h.len
  refine ⟨h.hd, h.ww, h.th, by simp [hlen], ?_, fun k hk => ?_, fun k => ?_⟩
  · simp only [List.length_append, List.length_cons, List.length_nil]
    rw [List.take_succ_eq_append_getElem (by simp; omega)]
    simp only [List.getElem_set_self]
    rw [List.take_set_of_le (Nat.le_refl _), h.take]
  · show nth (s.greens.set g.length x) k = 0
    rw [nth_set (by omega), if_neg (by omega)]; exact h.zero k hk
  · show 0 ≤ nth (s.greens.set g.length x) k ∧ nth (s.greens.set g.length x) k ≤ 40
    rw [nth_set (by omega)]
    split
    · exact hx
    · exact h.bd k
theorem StAt.done {c : Cargo} {hold : Nat} {wm : Int} {g : List Int} {s : St} (h : StAt c hold wm g s) (hg : g.length = c.lots.length) (hl : c.lots.length ≤ 4) : s = mkSt c hold wm g := by
  obtain ⟨a, b, gs, d⟩ := s
  have h1 : a = hold := h.hd
  have h2 : b = wm := h.ww
  have h3 : d = (ofB c hold c.lots.length : Nat) := h.th
  have h4 : gs.length = 5 := h.len
  have h5 : gs.take g.length = g := h.take
  have h6 : ∀ k, c.lots.length ≤ k → nth gs k = 0 := h.zero
  subst h1 h2 h3
  rw [mkSt]
  congr 1
  refine nth_ext h4 (by simp [zeros]; omega) fun q hq => ?_
  rw [nth_app]
  split
  · rename_i hlt
    have : nth (gs.take g.length) q = nth gs q := by simp [nth, List.getElem?_take, hlt]
    rw [← this, h5]
  · rename_i hge
    rw [nth_zeros, h6 q (by omega)]
theorem StAt.stB {c : Cargo} {hold : Nat} {wm : Int} {g : List Int} {s : St} (h : StAt c hold wm g s) (hw : 0 ≤ wm ∧ wm ≤ 6) (hh : hold ≤ 3) (hl : c.lots.length ≤ 4) : StB s := by
  have hb := ofB_lt c hold c.lots.length
  have hp2 : 2 ^ c.lots.length ≤ 2 ^ 4 := Nat.pow_le_pow_right (by omega) hl
  exact ⟨h.len, fun i => by have := h.bd i; omega, by rw [h.ww]; exact hw, by rw [h.hd]; omega, by rw [h.th]; omega⟩
theorem take_flat_prefix {α β : Type} (l : List α) (k : Nat) (f : α → List β) : (l.take k).flatMap f <+: l.flatMap f :=
  ⟨(l.drop k).flatMap f, by rw [← List.flatMap_append, List.take_append_drop]⟩
/-- What has come when digits below x are done. -/
def doneTo (c : Cargo) (hold wm : Int) (d k : Nat) (g : List Int) (x : Int) : List St := ((spanVals (lotSpan c hold k)).take (x - (lotSpan c hold k).lo).toNat).flatMap fun y => todoS c hold wm d (k + 1) (g ++ [y])
theorem doneTo_lo (c : Cargo) (hold wm : Int) (d k : Nat) (g : List Int) : doneTo c hold wm d k g (lotSpan c hold k).lo = [] := by simp [doneTo]
theorem doneTo_succ {c : Cargo} {hold wm : Int} {d k : Nat} {g : List Int} {x : Int} (h1 : (lotSpan c hold k).lo ≤ x) (h2 : x ≤ (lotSpan c hold k).hi) : doneTo c hold wm d k g (x + 1) = doneTo c hold wm d k g x ++ todoS c hold wm d (k + 1) (g ++ [x]) := by
  rw [doneTo, show (x + 1 - (lotSpan c hold k).lo).toNat = (x - (lotSpan c hold k).lo).toNat + 1 by omega, take_map_range _ (by omega), List.flatMap_append, doneTo]
  congr 1
  simp only [List.flatMap_cons, List.flatMap_nil, List.append_nil]
  rw [show (lotSpan c hold k).lo + ((x - (lotSpan c hold k).lo).toNat : Int) = x by omega]
theorem doneTo_all {c : Cargo} {hold wm : Int} {d k : Nat} {g : List Int} {x : Int} (h : (lotSpan c hold k).hi < x) (h0 : (lotSpan c hold k).lo ≤ x) : doneTo c hold wm d k g x = todoS c hold wm (d + 1) k g := by
  rw [doneTo, spanVals_take _ (by omega), todo_succ]
theorem doneTo_sub {c : Cargo} {hold wm : Int} {d k : Nat} {g : List Int} {x : Int} {s : St} (h : s ∈ doneTo c hold wm d k g x) : s ∈ todoS c hold wm (d + 1) k g := by
  rw [doneTo, List.mem_flatMap] at h
  obtain ⟨y, hy, hs⟩ := h
  rw [todo_succ, List.mem_flatMap]
  exact ⟨y, List.mem_of_mem_take hy, hs⟩
end Go.Proofs.Ytbkknliggnhpcaa
/- turn's next: all states that go on with some greens come in turn. -/
namespace Go.Proofs.Ytbkknliggnhpcaa
open Go.RowKit
attribute [local go_sem ↓] Go.wp_at_zero Go.wp_at_succ

set_option maxHeartbeats 4000000 in
set_option maxRecDepth 100000 in
theorem next_any {C : Nat → Prop} {L U b bm p1 ph pf py pn ps pl l : Nat} {c : Cargo} {A1 A2 A3 A4 : Option Addr} {c1 c2 c3 c4 : Nat} {but hold : Nat} {wm : Int} {I Ix : List St → World → Prop} {T : List St}
    (F : Fix C L U b bm p1 ph pf py pn ps pl) (hv : Valid c) (hbut : but < 32) (hwm : 0 ≤ wm ∧ wm ≤ 6) (hh : hold ≤ 3)
    (hI : ∀ pre W W', I pre W → Keep (fun k => k = bm ∨ U ≤ k) W W' → Known W' bm (timesV c) → I pre W')
    (hY : ∀ pre x W1, x ∈ T → I pre W1 → LookL W1 L b bm c A1 A2 A3 A4 c1 c2 c3 c4 but (timesV c) → YieldAt Fence.wide 0 Try.prog l #[stVal x] W1 fun e W' =>
      Keep C W1 W' ∧ Known W' bm (timesV c) ∧ ((e = .returned (.bool true) ∧ I (pre ++ [x]) W') ∨ (e = .returned (.bool false) ∧ Ix (pre ++ [x]) W'))) :
    ∀ (d lot : Nat), lot + d = c.lots.length → ∀ (g : List Int) (s last : St) (pre : List St) (W : World), g.length = lot → StAt c hold wm g s → last.Ok → last ∉ todoS c hold wm d lot g →
      (∀ x ∈ todoS c hold wm d lot g, okS c but x = true → x ∈ T) → ItM W L U b bm p1 ph pf py pn ps pl l c A1 A2 A3 A4 c1 c2 c3 c4 but hold s last → I pre W →
      Calls Try.prog 109 #[.int .i64 (lot : Int), .pointer (some ⟨p1, 0, none⟩), .pointer (some ⟨ps, 0, none⟩), .pointer (some ⟨pl, 0, none⟩), .pointer (some ⟨pf, 0, none⟩), .pointer (some ⟨ph, 0, none⟩), .pointer (some ⟨py, 0, none⟩), .pointer (some ⟨pn, 0, none⟩)] W
        (NextPost C L U b bm p1 ph pf py pn ps pl l c A1 A2 A3 A4 c1 c2 c3 c4 but hold I Ix pre W (todoS c hold wm d lot g) last (StAt c hold wm g)) := by
  intro d
  induction d with
  | zero =>
    intro lot hlot g s last pre W hg hs hlok hni hT hM h0
    obtain rfl : lot = c.lots.length := by omega
    have hd := hs.done hg hv.lots
    rw [todo_zero, ← hd] at hni hT ⊢
    refine (next_leaf F hv hbut hI hY (hs.stB hwm hh hv.lots) hs.hd hlok (fun e => hni (by simp [e])) (fun h => hT s (by simp) h) hM h0).mono ?_
    rintro e W' (⟨h1, h2, h3, s', last', h4, h5, h6⟩ | h)
    · exact .inl ⟨h1, h2, h3, s', last', h4, by rw [h5]; exact hs, h6⟩
    · exact .inr h
  | succ d ih =>
    intro lot hlot g s last pre W hg hs hlok hni hT hM h0
    have hlt : lot < c.lots.length := by omega
    have IH := hide (ih (lot + 1) (by omega))
    clear ih
    have hll := hv.lots
    have e1 := hM.e1
    have q3 := hM.look.q3
    have s7 := hM.rs.cell (i := 7) (by omega)
    rw [stRow, nth8_7, hs.th] at s7
    have hq : ((lot : Int) == (c.lots.length : Int)) = false := by simp; omega
    obtain ⟨bl, ol, rfl, hbl, t0, t1, t2, t3⟩ := hM.look.v.lots.lots hlt
    have hsp := lotSpan_ok hv hold hlt
    have hbit := there_bit c hold c.lots.length lot hlt
    have hob : ofB c hold c.lots.length < 32 := Nat.lt_of_lt_of_le (ofB_lt c hold c.lots.length) (Nat.le_trans (Nat.pow_le_pow_right (by omega) (show c.lots.length ≤ 5 by omega)) (by decide))
    have hba := bits_and hob (show lot < 5 by omega)
    have hl0 : (0 : Int) ≤ (lot : Int) := Int.natCast_nonneg _
    have hl1 : (lot : Int) < (c.lots.length : Int) := by omega
    have hl2 : (lot : Int) < 5 := by omega
    have hzM : U ≤ W.heap.size := by have := hM.rs.lt; have := F.s; omega
    have HM := hide hM
    have HV := hide hv
    have HF := hide F
    have H0 := hide h0
    have HS := hide hs
    have HNI := hide hni
    have HT := hide hT
    have HY := hide hY
    have HIS := hide hI
    have HG := hide hg
    have HSP := hide hsp
    have HLO := hide hlot
    generalize ofB c hold c.lots.length = m at *
    clear hM hv F h0 hs hni hT hY hI hg hsp hlot
    have zs := cell_lt s7
    have z1 := cell_lt e1
    have zb := cell_lt q3
    have zl := cell_lt t0
    by_cases hho : (nth c.lots lot).hold = hold
    · have hsd : lotSpan c hold lot = (nth c.lots lot).green := by rw [lotSpan, if_pos hho]
      rw [hbit, if_pos (by simpa using hho)] at hba
      have HSD := hide hsd
      clear hsd hbit hho
      go_enter Try.func109, Try.ntmps109
      go_wp2_with fail
      have hA : Below W.heap.size W (W.alloc (.cells #[.int .i64 (nth c.lots lot).green.lo, .int .i64 (nth c.lots lot).green.hi] 32)) := (Below.refl _ _).alloc (Nat.le_refl _) _
      have hbx : ∀ o : Nat, (W.alloc (.cells #[.int .i64 (nth c.lots lot).green.lo, .int .i64 (nth c.lots lot).green.hi] 32)).cell? ⟨W.heap.size, o, none⟩ = (#[Value.int .i64 (nth c.lots lot).green.lo, .int .i64 (nth c.lots lot).green.hi])[o]? := fun o => by
        rw [World.cell?_alloc_at _ _ _ _ rfl]
      have hsz : (W.alloc (.cells #[.int .i64 (nth c.lots lot).green.lo, .int .i64 (nth c.lots lot).green.hi] 32)).heap.size = W.heap.size + 1 := by simp
      generalize (W.alloc (.cells #[.int .i64 (nth c.lots lot).green.lo, .int .i64 (nth c.lots lot).green.hi] 32)) = W1 at *
      have hsl : (lotSpan c hold lot).lo = (nth c.lots lot).green.lo := by rw [HSD.out]
      have hsh : (lotSpan c hold lot).hi = (nth c.lots lot).green.hi := by rw [HSD.out]
      have x0 := hbx 0
      have x1 := hbx 1
      simp only [List.getElem?_toArray, List.getElem?_cons_zero, List.getElem?_cons_succ] at x0 x1
      rw [← hsl] at x0 ⊢
      rw [← hsh] at x1
      have HX0 := hide x0
      have HX1 := hide x1
      have hk1 : Keep (fun k => k = bm ∨ k = ps ∨ k = pl ∨ C k) W W1 := Keep.of_below' hA _
      have HK1 := hide hk1
      have HM1 := hide (HM.out.keep HF.out (Keep.of_below' hA (fun _ => False)) (fun _ h => h.elim) (HM.out.look.k.keep (Keep.of_below' hA (fun _ => False)) (fun h => h)))
      have H1 := hide (HIS.out pre W W1 H0.out (Keep.of_below' hA _) HM1.out.look.k)
      clear hsl hsh x0 x1 hbx hk1 hA t0 t1 t2 t3 e1 q3 s7 hba
      have hlo := HSP.out.1
      have hhi := HSP.out.2.1
      have h40 := HSP.out.2.2.1
      generalize hlo' : (lotSpan c hold lot).lo = lo at *
      generalize hhi' : (lotSpan c hold lot).hi = hi at *
      have HLO' := hide hlo'
      have HHI' := hide hhi'
      clear hlo' hhi'
      go_loopw [11] (fun v11 wr => ∃ (x : Int) (s' last' : St), lo ≤ x ∧ x ≤ hi + 1 ∧ v11 = .int .i64 x ∧ ItM wr L U b bm p1 ph pf py pn ps pl l c (A1) A2 (some ⟨bl, ol, none⟩) A4 c1 c2 c3 c4 but hold s' last' ∧ Hid (StAt c hold wm g s') ∧ last'.Ok ∧
        Hid (last' = last ∨ last' ∈ todoS c hold wm (d + 1) lot g) ∧ Hid (∀ y, lo ≤ y → y ≤ hi → x ≤ y → last' ∉ todoS c hold wm d (lot + 1) (g ++ [y])) ∧ I (pre ++ (doneTo c hold wm d lot g x).filter (okS c but)) wr ∧ Keep (fun k => k = bm ∨ k = ps ∨ k = pl ∨ C k) W1 wr) (fun v11 _ => (hi + 1 - intOf v11).toNat)
      case atStart =>
        refine ⟨lo, s, last, by omega, by omega, rfl, HM1.out, HS, hlok, hide (.inl rfl), hide (fun y h1 h2 _ hm => HNI.out ?_), ?_, Keep.refl _ _⟩
        · rw [todo_succ, List.mem_flatMap]
          exact ⟨y, mem_spanVals.2 ⟨by have := HLO'.out; omega, by have := HHI'.out; omega⟩, hm⟩
        · rw [← HLO'.out, doneTo_lo]; simpa using H1.out
      case round =>
        clear HM1 H1
        obtain ⟨x, s', last', hx0, hx1, rfl, hMr, HSr, hlok', HLr, HNr, hIr, hkr⟩ := hrel
        have hns : ¬ (W.heap.size = bm ∨ W.heap.size = ps ∨ W.heap.size = pl ∨ C W.heap.size) := by
          have f1 := HF.out.hm
          have f2 := HF.out.hLU
          have f3 := HM.out.rl.lt
          rintro (h | h | h | h)
          · omega
          · omega
          · omega
          · rcases HF.out.c _ h with h' | h' <;> omega
        have y1 := (hkr.cell (o := 1) (by omega) hns).trans HX1.out
        have HNS := hide hns
        have HMr := hide hMr
        have HIr := hide hIr
        have HKr := hide hkr
        clear hns hMr hIr hkr
        by_cases hxh : x ≤ hi
        · have ey := HMr.out.en
          have r1 := HMr.out.rs.cell (i := 2 + lot) (by omega)
          have r2 := HMr.out.rs.frozen (2 + lot)
          have hn1 : ¬ pn = ps := HF.out.n.2.1
          have hn2 : ¬ ps = pn := fun h => hn1 h.symm
          have hbx : -9223372036854775808 ≤ x ∧ x ≤ 100 := by omega
          go_upto_region 13 with (fail)
          have hT4 : OwnE 110 (wr.setCell ⟨ps, 2 + lot, none⟩ (.int .i64 x)) U ps 8 (stRow { s' with greens := s'.greens.set lot x }) := by
            rw [← stRow_set HSr.out.len (by omega)]; exact HMr.out.rs.set (2 + lot) x
          have hk4 : Keep (fun k => k = ps) wr (wr.setCell ⟨ps, 2 + lot, none⟩ (.int .i64 x)) := Keep.setCell _ _ _ _ rfl
          have y1' := (hk4.cell (o := 1) (b := W.heap.size) (cell_lt y1) (by omega)).trans y1
          have ey' := (hk4.cell (o := 0) (b := pn) (cell_lt ey) hn1).trans ey
          generalize (wr.setCell ⟨ps, 2 + lot, none⟩ (.int .i64 x)) = w4 at *
          have hM4 := HMr.out.turn HF.out (hk4.mono (fun k _ h => .inl h)) hT4 (HMr.out.rl.block (hk4.block _ HMr.out.rl.lt.2 (fun h => HF.out.sl h.symm)))
          have hI4 := HIS.out _ wr w4 HIr.out (hk4.mono (fun k _ h => by have := HF.out.s; right; omega)) hM4.look.k
          have hst := HSr.out.set (by rw [HG.out]; omega) hll (x := x) (by omega)
          rw [HG.out] at hst
          have IHC := hide (IH.out (g ++ [x]) _ last' _ w4 (by simp [HG.out]) hst hlok' (HNr.out x hx0 hxh (Int.le_refl _)) (fun z hz hok => HT.out z (by
            rw [todo_succ, List.mem_flatMap]
            exact ⟨x, mem_spanVals.2 ⟨by have := HLO'.out; omega, by have := HHI'.out; omega⟩, hz⟩) hok) hM4 hI4)
          have HK4 := hide (HKr.out.trans (hk4.mono (S' := fun k => k = bm ∨ k = ps ∨ k = pl ∨ C k) (fun k _ h => .inr (.inl h))))
          have hdn := doneTo_succ (c := c) (hold := hold) (wm := wm) (d := d) (k := lot) (g := g) (x := x) (by have := HLO'.out; omega) (by have := HHI'.out; omega)
          have HDN := hide hdn
          have hnat : ((lot + 1 : Nat) : Int) = (lot : Int) + 1 := by omega
          rw [hnat] at IHC
          clear hT4 hk4 hM4 hI4 hst r1 r2 ey y1 hdn hnat
          go_wp2_with (refine IHC.out.mono ?_; rintro e W' (⟨rfl, hI5, hk5, s5, last5, hM5, hR5, hl5, hlok5⟩ | ⟨rfl, ⟨q, hq0, hqp, hIx5⟩, hn5, hk5⟩))
          · refine ⟨⟨x + 1, s5, last5, by omega, by omega, rfl, hM5, hide hR5.less, hlok5, hide ?_, hide ?_, ?_, HK4.out.trans hk5⟩, by simp [intOf]; omega⟩
            · rcases hl5 with rfl | h
              · exact HLr.out
              · right
                rw [todo_succ, List.mem_flatMap]
                exact ⟨x, mem_spanVals.2 ⟨by have := HLO'.out; omega, by have := HHI'.out; omega⟩, h⟩
            · intro y h1 h2 h3 hm
              rcases hl5 with rfl | h
              · exact HNr.out y h1 h2 (by omega) hm
              · have := todo_apart h hm; omega
            · rw [HDN.out, List.filter_append, ← List.append_assoc]; exact hI5
          · go_ret
            refine .inr ⟨rfl, ⟨(doneTo c hold wm d lot g x).filter (okS c but) ++ q, by simp [hq0], ?_, by rw [← List.append_assoc]; exact hIx5⟩, hn5, HK1.out.trans (HK4.out.trans hk5)⟩
            obtain ⟨r, hr⟩ := hqp
            have hpre : doneTo c hold wm d lot g (x + 1) <+: todoS c hold wm (d + 1) lot g := by
              rw [todo_succ, doneTo]
              exact take_flat_prefix _ _ _
            have h2 := hpre.filter (okS c but)
            rw [HDN.out, List.filter_append, ← hr] at h2
            exact (List.prefix_append_right_inj _).2 (List.prefix_append q r) |>.trans h2
        · have hxe : hi < x := by omega
          go_wp2
          go_ret
          refine .inl ⟨rfl, ?_, HK1.out.trans HKr.out, s', last', HMr.out, HSr.out, HLr.out, hlok'⟩
          rw [← doneTo_all (x := x) (by rw [HHI'.out]; exact hxe) (by rw [HLO'.out]; exact hx0)]
          exact HIr.out
    · have hsd : lotSpan c hold lot = ⟨(nth c.lots lot).green.lo, (nth c.lots lot).green.lo⟩ := by rw [lotSpan, if_neg hho]
      rw [hbit, if_neg (by simpa using hho)] at hba
      have HSD := hide hsd
      clear hsd hbit hho
      go_enter Try.func109, Try.ntmps109
      go_wp2_with fail
      have hA : Below W.heap.size W (W.alloc (.cells #[.int .i64 (nth c.lots lot).green.lo, .int .i64 (nth c.lots lot).green.lo] 32)) := (Below.refl _ _).alloc (Nat.le_refl _) _
      have hbx : ∀ o : Nat, (W.alloc (.cells #[.int .i64 (nth c.lots lot).green.lo, .int .i64 (nth c.lots lot).green.lo] 32)).cell? ⟨W.heap.size, o, none⟩ = (#[Value.int .i64 (nth c.lots lot).green.lo, .int .i64 (nth c.lots lot).green.lo])[o]? := fun o => by
        rw [World.cell?_alloc_at _ _ _ _ rfl]
      have hsz : (W.alloc (.cells #[.int .i64 (nth c.lots lot).green.lo, .int .i64 (nth c.lots lot).green.lo] 32)).heap.size = W.heap.size + 1 := by simp
      generalize (W.alloc (.cells #[.int .i64 (nth c.lots lot).green.lo, .int .i64 (nth c.lots lot).green.lo] 32)) = W1 at *
      have hsl : (lotSpan c hold lot).lo = (nth c.lots lot).green.lo := by rw [HSD.out]
      have hsh : (lotSpan c hold lot).hi = (nth c.lots lot).green.lo := by rw [HSD.out]
      have x0 := hbx 0
      have x1 := hbx 1
      simp only [List.getElem?_toArray, List.getElem?_cons_zero, List.getElem?_cons_succ] at x0 x1
      rw [← hsl] at x0 ⊢
      rw [← hsh] at x1
      have HX0 := hide x0
      have HX1 := hide x1
      have hk1 : Keep (fun k => k = bm ∨ k = ps ∨ k = pl ∨ C k) W W1 := Keep.of_below' hA _
      have HK1 := hide hk1
      have HM1 := hide (HM.out.keep HF.out (Keep.of_below' hA (fun _ => False)) (fun _ h => h.elim) (HM.out.look.k.keep (Keep.of_below' hA (fun _ => False)) (fun h => h)))
      have H1 := hide (HIS.out pre W W1 H0.out (Keep.of_below' hA _) HM1.out.look.k)
      clear hsl hsh x0 x1 hbx hk1 hA t0 t1 t2 t3 e1 q3 s7 hba
      have hlo := HSP.out.1
      have hhi := HSP.out.2.1
      have h40 := HSP.out.2.2.1
      generalize hlo' : (lotSpan c hold lot).lo = lo at *
      generalize hhi' : (lotSpan c hold lot).hi = hi at *
      have HLO' := hide hlo'
      have HHI' := hide hhi'
      clear hlo' hhi'
      go_loopw [11] (fun v11 wr => ∃ (x : Int) (s' last' : St), lo ≤ x ∧ x ≤ hi + 1 ∧ v11 = .int .i64 x ∧ ItM wr L U b bm p1 ph pf py pn ps pl l c (A1) A2 (some ⟨bl, ol, none⟩) A4 c1 c2 c3 c4 but hold s' last' ∧ Hid (StAt c hold wm g s') ∧ last'.Ok ∧
        Hid (last' = last ∨ last' ∈ todoS c hold wm (d + 1) lot g) ∧ Hid (∀ y, lo ≤ y → y ≤ hi → x ≤ y → last' ∉ todoS c hold wm d (lot + 1) (g ++ [y])) ∧ I (pre ++ (doneTo c hold wm d lot g x).filter (okS c but)) wr ∧ Keep (fun k => k = bm ∨ k = ps ∨ k = pl ∨ C k) W1 wr) (fun v11 _ => (hi + 1 - intOf v11).toNat)
      case atStart =>
        refine ⟨lo, s, last, by omega, by omega, rfl, HM1.out, HS, hlok, hide (.inl rfl), hide (fun y h1 h2 _ hm => HNI.out ?_), ?_, Keep.refl _ _⟩
        · rw [todo_succ, List.mem_flatMap]
          exact ⟨y, mem_spanVals.2 ⟨by have := HLO'.out; omega, by have := HHI'.out; omega⟩, hm⟩
        · rw [← HLO'.out, doneTo_lo]; simpa using H1.out
      case round =>
        clear HM1 H1
        obtain ⟨x, s', last', hx0, hx1, rfl, hMr, HSr, hlok', HLr, HNr, hIr, hkr⟩ := hrel
        have hns : ¬ (W.heap.size = bm ∨ W.heap.size = ps ∨ W.heap.size = pl ∨ C W.heap.size) := by
          have f1 := HF.out.hm
          have f2 := HF.out.hLU
          have f3 := HM.out.rl.lt
          rintro (h | h | h | h)
          · omega
          · omega
          · omega
          · rcases HF.out.c _ h with h' | h' <;> omega
        have y1 := (hkr.cell (o := 1) (by omega) hns).trans HX1.out
        have HNS := hide hns
        have HMr := hide hMr
        have HIr := hide hIr
        have HKr := hide hkr
        clear hns hMr hIr hkr
        by_cases hxh : x ≤ hi
        · have ey := HMr.out.en
          have r1 := HMr.out.rs.cell (i := 2 + lot) (by omega)
          have r2 := HMr.out.rs.frozen (2 + lot)
          have hn1 : ¬ pn = ps := HF.out.n.2.1
          have hn2 : ¬ ps = pn := fun h => hn1 h.symm
          have hbx : -9223372036854775808 ≤ x ∧ x ≤ 100 := by omega
          go_upto_region 13 with (fail)
          have hT4 : OwnE 110 (wr.setCell ⟨ps, 2 + lot, none⟩ (.int .i64 x)) U ps 8 (stRow { s' with greens := s'.greens.set lot x }) := by
            rw [← stRow_set HSr.out.len (by omega)]; exact HMr.out.rs.set (2 + lot) x
          have hk4 : Keep (fun k => k = ps) wr (wr.setCell ⟨ps, 2 + lot, none⟩ (.int .i64 x)) := Keep.setCell _ _ _ _ rfl
          have y1' := (hk4.cell (o := 1) (b := W.heap.size) (cell_lt y1) (by omega)).trans y1
          have ey' := (hk4.cell (o := 0) (b := pn) (cell_lt ey) hn1).trans ey
          generalize (wr.setCell ⟨ps, 2 + lot, none⟩ (.int .i64 x)) = w4 at *
          have hM4 := HMr.out.turn HF.out (hk4.mono (fun k _ h => .inl h)) hT4 (HMr.out.rl.block (hk4.block _ HMr.out.rl.lt.2 (fun h => HF.out.sl h.symm)))
          have hI4 := HIS.out _ wr w4 HIr.out (hk4.mono (fun k _ h => by have := HF.out.s; right; omega)) hM4.look.k
          have hst := HSr.out.set (by rw [HG.out]; omega) hll (x := x) (by omega)
          rw [HG.out] at hst
          have IHC := hide (IH.out (g ++ [x]) _ last' _ w4 (by simp [HG.out]) hst hlok' (HNr.out x hx0 hxh (Int.le_refl _)) (fun z hz hok => HT.out z (by
            rw [todo_succ, List.mem_flatMap]
            exact ⟨x, mem_spanVals.2 ⟨by have := HLO'.out; omega, by have := HHI'.out; omega⟩, hz⟩) hok) hM4 hI4)
          have HK4 := hide (HKr.out.trans (hk4.mono (S' := fun k => k = bm ∨ k = ps ∨ k = pl ∨ C k) (fun k _ h => .inr (.inl h))))
          have hdn := doneTo_succ (c := c) (hold := hold) (wm := wm) (d := d) (k := lot) (g := g) (x := x) (by have := HLO'.out; omega) (by have := HHI'.out; omega)
          have HDN := hide hdn
          have hnat : ((lot + 1 : Nat) : Int) = (lot : Int) + 1 := by omega
          rw [hnat] at IHC
          clear hT4 hk4 hM4 hI4 hst r1 r2 ey y1 hdn hnat
          go_wp2_with (refine IHC.out.mono ?_; rintro e W' (⟨rfl, hI5, hk5, s5, last5, hM5, hR5, hl5, hlok5⟩ | ⟨rfl, ⟨q, hq0, hqp, hIx5⟩, hn5, hk5⟩))
          · refine ⟨⟨x + 1, s5, last5, by omega, by omega, rfl, hM5, hide hR5.less, hlok5, hide ?_, hide ?_, ?_, HK4.out.trans hk5⟩, by simp [intOf]; omega⟩
            · rcases hl5 with rfl | h
              · exact HLr.out
              · right
                rw [todo_succ, List.mem_flatMap]
                exact ⟨x, mem_spanVals.2 ⟨by have := HLO'.out; omega, by have := HHI'.out; omega⟩, h⟩
            · intro y h1 h2 h3 hm
              rcases hl5 with rfl | h
              · exact HNr.out y h1 h2 (by omega) hm
              · have := todo_apart h hm; omega
            · rw [HDN.out, List.filter_append, ← List.append_assoc]; exact hI5
          · go_ret
            refine .inr ⟨rfl, ⟨(doneTo c hold wm d lot g x).filter (okS c but) ++ q, by simp [hq0], ?_, by rw [← List.append_assoc]; exact hIx5⟩, hn5, HK1.out.trans (HK4.out.trans hk5)⟩
            obtain ⟨r, hr⟩ := hqp
            have hpre : doneTo c hold wm d lot g (x + 1) <+: todoS c hold wm (d + 1) lot g := by
              rw [todo_succ, doneTo]
              exact take_flat_prefix _ _ _
            have h2 := hpre.filter (okS c but)
            rw [HDN.out, List.filter_append, ← hr] at h2
            exact (List.prefix_append_right_inj _).2 (List.prefix_append q r) |>.trans h2
        · have hxe : hi < x := by omega
          go_wp2
          go_ret
          refine .inl ⟨rfl, ?_, HK1.out.trans HKr.out, s', last', HMr.out, HSr.out, HLr.out, hlok'⟩
          rw [← doneTo_all (x := x) (by rw [HHI'.out]; exact hxe) (by rw [HLO'.out]; exact hx0)]
          exact HIr.out
end Go.Proofs.Ytbkknliggnhpcaa
/- turn's iterator of truths: all truths of a hold come in turn. -/
namespace Go.Proofs.Ytbkknliggnhpcaa
open Go.RowKit
attribute [local go_sem ↓] Go.wp_at_zero Go.wp_at_succ

theorem wp_ex {P : Program} {cd : Code} {Q : Exit → Act → World → Prop} {a : Act} {w : World} {A : Nat → Act} (R : Nat → World → Prop) (h : cd.wp P (fun e a' v => ∃ g, e = .normal ∧ a' = A g ∧ R g v) a w) (hq : ∀ g v, R g v → Q .normal (A g) v) : cd.wp P Q a w :=
  Code.wp_mono (fun _ _ _ ⟨g, h1, h2, h3⟩ => by rw [h1, h2]; exact hq g _ h3) h
def zst (c : Cargo) (hold : Nat) : St := ⟨hold, 0, [0, 0, 0, 0, 0], (ofB c hold c.lots.length : Nat)⟩
theorem OwnE.base {e : TypeId} {w : World} {base base' g n : Nat} {xs : List Int} (h : OwnE e w base g n xs) (hb : base' ≤ base) : OwnE e w base' g n xs := own_base h hb
/-- An array of eight integers that the call has just made. -/
theorem OwnE.made8 (w : World) (e : TypeId) (a b c d f g h i : Int) : OwnE e (w.alloc (.cells #[iv a, iv b, iv c, iv d, iv f, iv g, iv h, iv i] e)) w.heap.size w.heap.size 8 [a, b, c, d, f, g, h, i] :=
  World.ownsRow_lit w #[iv a, iv b, iv c, iv d, iv f, iv g, iv h, iv i] 8 (Nat.le_refl _) (by simp [maxLen]) rfl

def ist : St := ⟨-1, 0, [0, 0, 0, 0, 0], 0⟩
theorem ist_ok : ist.Ok := by
  have h : ∀ i, nth [(0 : Int), 0, 0, 0, 0] i = 0 := fun i => by
    match i with
    | 0 | 1 | 2 | 3 | 4 => rfl
    | i + 5 => rfl
  exact ⟨rfl, (wfI_iff _).2 (by decide), (wfI_iff _).2 (by decide), fun i => (wfI_iff _).2 (by show _ ≤ nth [(0 : Int), 0, 0, 0, 0] i ∧ nth [(0 : Int), 0, 0, 0, 0] i ≤ _; rw [h]; decide), (wfI_iff _).2 (by decide)⟩
/-- What has come when the warmths below x are done. -/
def doneW (c : Cargo) (hold : Nat) (x : Int) : List St := ((spanVals (nth c.holds hold)).take (x - (nth c.holds hold).lo).toNat).flatMap fun wm => todoS c hold wm c.lots.length 0 []
theorem doneW_lo (c : Cargo) (hold : Nat) : doneW c hold (nth c.holds hold).lo = [] := by simp [doneW]
theorem doneW_succ {c : Cargo} {hold : Nat} {x : Int} (h1 : (nth c.holds hold).lo ≤ x) (h2 : x ≤ (nth c.holds hold).hi) : doneW c hold (x + 1) = doneW c hold x ++ todoS c hold x c.lots.length 0 [] := by
  rw [doneW, show (x + 1 - (nth c.holds hold).lo).toNat = (x - (nth c.holds hold).lo).toNat + 1 by omega, take_map_range _ (by omega), List.flatMap_append, doneW]
  congr 1
  simp only [List.flatMap_cons, List.flatMap_nil, List.append_nil]
  rw [show (nth c.holds hold).lo + ((x - (nth c.holds hold).lo).toNat : Int) = x by omega]
theorem doneW_all {c : Cargo} {hold : Nat} {x : Int} (h : (nth c.holds hold).hi < x) (h0 : (nth c.holds hold).lo ≤ x) : doneW c hold x = statesS c hold := by
  rw [doneW, spanVals_take _ (by omega), statesS]
theorem doneW_prefix (c : Cargo) (hold : Nat) (x : Int) : doneW c hold x <+: statesS c hold := take_flat_prefix _ _ _
def warmOf (wr : World) (ps : Nat) : Int := intOf ((wr.cell? ⟨ps, 1, none⟩).getD undef)

set_option maxHeartbeats 4000000 in
set_option maxRecDepth 100000 in
theorem truths1_any {C : Nat → Prop} {W : World} {L b bm p1 ph l : Nat} {c : Cargo} {A1 A2 A3 A4 : Option Addr} {c1 c2 c3 c4 : Nat} {but hold : Nat} {I Ix : List St → World → Prop}
    (hv : Valid c) (hbut : but < 32) (hh : hold < c.holds.length) (hC : ∀ k, C k → k = bm ∨ ((L ≤ k ∧ k ≠ b) ∧ k < W.heap.size ∧ k ≠ p1 ∧ k ≠ ph))
    (hI : ∀ pre V V', I pre V → Keep (fun k => k = bm ∨ W.heap.size ≤ k) V V' → Known V' bm (timesV c) → I pre V')
    (hY : ∀ pre x W1, x ∈ truthsS c hold but → I pre W1 → LookL W1 L b bm c A1 A2 A3 A4 c1 c2 c3 c4 but (timesV c) → YieldAt Fence.wide 0 Try.prog l #[stVal x] W1 fun e W' =>
      Keep C W1 W' ∧ Known W' bm (timesV c) ∧ ((e = .returned (.bool true) ∧ I (pre ++ [x]) W') ∨ (e = .returned (.bool false) ∧ Ix (pre ++ [x]) W')))
    (h : LookL W L b bm c A1 A2 A3 A4 c1 c2 c3 c4 but (timesV c)) (e1 : W.cell? ⟨p1, 0, none⟩ = some (.pointer (some ⟨b, 0, none⟩))) (eh : W.cell? ⟨ph, 0, none⟩ = some (.int .i64 hold)) (h0 : I [] W) :
    Calls Try.prog 107 #[.func (.yield l) #[] #[], .pointer (some ⟨p1, 0, none⟩), .pointer (some ⟨ph, 0, none⟩)] W
      (fun e W' => (∃ v, e = .returned v) ∧ Known W' bm (timesV c) ∧ Keep (fun k => k = bm ∨ C k) W W' ∧ (I (truthsS c hold but) W' ∨ ∃ q, q ≠ [] ∧ q <+: truthsS c hold but ∧ Ix q W')) := by
  have z1 := cell_lt e1
  have zh := cell_lt eh
  have HH := hide h
  have HV := hide hv
  have H0 := hide h0
  have HY := hide hY
  have HI := hide hI
  have HC := hide hC
  clear h hv h0 hY hI hC
  go_enter Try.func107, Try.ntmps107
  go_wp2_with fail
  have hA : Below W.heap.size W ((W.alloc (.cells #[.func (.yield l) #[] #[]] 147)).alloc (.cells #[.func (.func 108) #[.pointer (some ⟨b, 0, none⟩)] #[]] 148)) := ((Below.refl _ _).alloc (Nat.le_refl _) _).alloc (by simp) _
  have hsz : ((W.alloc (.cells #[.func (.yield l) #[] #[]] 147)).alloc (.cells #[.func (.func 108) #[.pointer (some ⟨b, 0, none⟩)] #[]] 148)).heap.size = W.heap.size + 1 + 1 := by simp
  have hey : ((W.alloc (.cells #[.func (.yield l) #[] #[]] 147)).alloc (.cells #[.func (.func 108) #[.pointer (some ⟨b, 0, none⟩)] #[]] 148)).cell? ⟨W.heap.size, 0, none⟩ = some (.func (.yield l) #[] #[]) := by
    rw [World.cell?_alloc_past _ _ _ (by simp), World.cell?_alloc_at _ _ _ _ rfl]; rfl
  have hef : ((W.alloc (.cells #[.func (.yield l) #[] #[]] 147)).alloc (.cells #[.func (.func 108) #[.pointer (some ⟨b, 0, none⟩)] #[]] 148)).cell? ⟨W.heap.size + 1, 0, none⟩ = some (.func (.func 108) #[.pointer (some ⟨b, 0, none⟩)] #[]) := by
    rw [World.cell?_alloc_at _ _ _ _ (by simp)]; rfl
  generalize ((W.alloc (.cells #[.func (.yield l) #[] #[]] 147)).alloc (.cells #[.func (.func 108) #[.pointer (some ⟨b, 0, none⟩)] #[]] 148)) = W2 at *
  have e1' := (hA.cell (p := ⟨p1, 0, none⟩) z1).trans e1
  have eh' := (hA.cell (p := ⟨ph, 0, none⟩) zh).trans eh
  have z1' : p1 < W2.heap.size := by omega
  have zh' : ph < W2.heap.size := by omega
  have hL2 := HH.out.keep' (Keep.of_below' hA (fun _ => False)) (fun _ h => h.elim)
  have HL2 := hide hL2
  have HA := hide hA
  have HEY := hide hey
  have HEF := hide hef
  have HSZ := hide hsz
  clear hL2 hA hey hef hsz e1 eh
  have hL3 := HL2.out.keep' (Keep.of_below' (Below.refl W2.heap.size W2).drew (fun _ => False)) (fun _ h => h.elim)
  have HL3 := hide hL3
  clear hL3
  apply wp_ex (fun g v => Below W2.heap.size W2 v ∧ OwnE 110 v W2.heap.size g 8 (stRow (zst c hold)))
  case h =>
    obtain ⟨S, hSd⟩ : ∃ S : World → Prop, S = fun w' => (w'.cell? ⟨p1, 0, none⟩ = some (.pointer (some ⟨b, 0, none⟩)) ∧ w'.cell? ⟨ph, 0, none⟩ = some (.int .i64 hold)) := ⟨_, rfl⟩
    have HSD := hide hSd
    clear hSd
    refine wp_region_held_drew (S := S) (by kernel_rfl) (by rw [HSD.out]; exact ⟨e1', eh'⟩) (fun hHeld => ?_)
    refine wpAnyH_take (i := 0) (v := ?_) rfl (by kernel_rfl) (by kernel_rfl) (by kernel_rfl) (fun _ _ _ h => absurd h (by rintro ⟨_, h, _⟩; cases h)) (Or.inl ⟨by rfl, fun W hSw => ?_⟩) hHeld ?_
    rotate_left
    · rw [HSD.out] at hSw; obtain ⟨x0, x1⟩ := hSw; go_simp; try rfl
    simp only [Act.put, List.setIfInBounds_toArray, List.set_cons_zero, List.set_cons_succ]
    refine wpAnyH_take (i := 1) (v := ?_) rfl (by kernel_rfl) (by kernel_rfl) (by kernel_rfl) (fun _ _ _ h => absurd h (by rintro ⟨_, h, _⟩; cases h)) (Or.inl ⟨by rfl, fun W hSw => ?_⟩) hHeld ?_
    rotate_left
    · rw [HSD.out] at hSw; obtain ⟨x0, x1⟩ := hSw; go_simp; try rfl
    simp only [Act.put, List.setIfInBounds_toArray, List.set_cons_zero, List.set_cons_succ]
    refine wpAnyH_take (i := 2) (v := ?_) rfl (by kernel_rfl) (by kernel_rfl) (by kernel_rfl) (fun _ _ _ h => absurd h (by rintro ⟨_, h, _⟩; cases h)) (Or.inl ⟨by rfl, fun W hSw => ?_⟩) hHeld ?_
    rotate_left
    · rw [HSD.out] at hSw; obtain ⟨x0, x1⟩ := hSw; go_simp; try rfl
    simp only [Act.put, List.setIfInBounds_toArray, List.set_cons_zero, List.set_cons_succ]
    refine wpAnyH_ready (rs := [3, 5]) (by kernel_rfl) (by simp) ?_
    refine AllReadyH.cons rfl (fun K hK => ?_) (AllReadyH.cons rfl (fun K hK => ?_) AllReadyH.nil)
    · go_simp
      go_at_call 90
      refine (of_any' HL3.out.look HV.out.small hold).mono ?_
      rintro e w2 ⟨rfl, hb2⟩
      refine hK.out _ _ (by rw [HSD.out]; exact ⟨(hb2.cell (p := ⟨_, _, _⟩) z1').trans e1', (hb2.cell (p := ⟨_, _, _⟩) zh').trans eh'⟩) (fun hHeld => ?_)
      clear hK K
      try simp only [Act.put, List.setIfInBounds_toArray, List.set_cons_zero, List.set_cons_succ]
      refine wpAnyH_take (i := 4) (v := ?_) rfl (by kernel_rfl) (by kernel_rfl) (by kernel_rfl) (fun _ _ _ h => absurd h (by rintro ⟨_, h, _⟩; cases h)) (Or.inl ⟨by rfl, fun W hSw => ?_⟩) hHeld ?_
      rotate_left
      · rw [HSD.out] at hSw; obtain ⟨x0, x1⟩ := hSw; go_simp; try rfl
      simp only [Act.put, List.setIfInBounds_toArray, List.set_cons_zero, List.set_cons_succ]
      refine wpAnyH_ready (rs := [5]) (by kernel_rfl) (by simp) ?_
      refine AllReadyH.cons rfl (fun K hK => ?_) AllReadyH.nil
      go_simp
      have hO := OwnE.made8 w2 110 0 0 0 0 0 0 0 0
      have hB3 : Below W2.heap.size W2 (w2.alloc (.cells #[iv 0, iv 0, iv 0, iv 0, iv 0, iv 0, iv 0, iv 0] 110)) := (((Below.refl W2.heap.size W2).drew).trans hb2).alloc hb2.size _
      have hO := OwnE.base hO hb2.size
      simp only [iv] at hO hB3
      refine hK.out _ _ (by rw [HSD.out]; exact ⟨(hB3.cell (p := ⟨_, _, _⟩) z1').trans e1', (hB3.cell (p := ⟨_, _, _⟩) zh').trans eh'⟩) (fun hHeld => ?_)
      clear hK K
      try simp only [Act.put, List.setIfInBounds_toArray, List.set_cons_zero, List.set_cons_succ]
      generalize (w2.alloc (.cells #[.int .i64 0, .int .i64 0, .int .i64 0, .int .i64 0, .int .i64 0, .int .i64 0, .int .i64 0, .int .i64 0] 110)) = w3 at *
      generalize w2.heap.size = g at *
      have r0 := hO.cell (i := 0) (by omega)
      have r1 := hO.cell (i := 1) (by omega)
      have r2 := hO.cell (i := 2) (by omega)
      have r3 := hO.cell (i := 3) (by omega)
      have r4 := hO.cell (i := 4) (by omega)
      have r5 := hO.cell (i := 5) (by omega)
      have r6 := hO.cell (i := 6) (by omega)
      have r7 := hO.cell (i := 7) (by omega)
      have g0 := hO.frozen 0
      have g1 := hO.frozen 1
      have g2 := hO.frozen 2
      have g3 := hO.frozen 3
      have g4 := hO.frozen 4
      have g5 := hO.frozen 5
      have g6 := hO.frozen 6
      have g7 := hO.frozen 7
      simp only [nth8_0, nth8_1, nth8_2, nth8_3, nth8_4, nth8_5, nth8_6, nth8_7] at r0 r1 r2 r3 r4 r5 r6 r7
      refine wpAnyH_ready (rs := [6]) (by kernel_rfl) (by simp) ?_
      refine AllReadyH.cons rfl (fun K hK => ?_) AllReadyH.nil
      go_simp
      have hg : W2.heap.size ≤ g := hO.lt.1
      have hO8 := hO.store8 hold 0 0 0 0 0 0 (ofB c hold c.lots.length : Nat)
      have hB8 := (keep_store8 (w := w3) (g := g) (fun k => k = g) rfl (.int .i64 hold) (.int .i64 0) (.int .i64 0) (.int .i64 0) (.int .i64 0) (.int .i64 0) (.int .i64 0) (.int .i64 (ofB c hold c.lots.length : Nat))).below (B := W2.heap.size) (fun k h => by omega) hB3.size
      have hBZ := hB3.trans hB8
      refine hK.out _ _ (by rw [HSD.out]; exact ⟨(hBZ.cell (p := ⟨_, _, _⟩) z1').trans e1', (hBZ.cell (p := ⟨_, _, _⟩) zh').trans eh'⟩) (fun hHeld => ?_)
      clear hK K
      try simp only [Act.put, List.setIfInBounds_toArray, List.set_cons_zero, List.set_cons_succ]
      refine wpAnyH_done (by kernel_rfl) ?_ _
      exact ⟨g, rfl, rfl, hBZ, hO8⟩
    · go_simp
      have hO := OwnE.made8 W2.drew 110 0 0 0 0 0 0 0 0
      have hB3 : Below W2.heap.size W2 (W2.drew.alloc (.cells #[iv 0, iv 0, iv 0, iv 0, iv 0, iv 0, iv 0, iv 0] 110)) := ((Below.refl W2.heap.size W2).drew).alloc (Nat.le_refl _) _
      have hdr : (W2.drew.alloc (.cells #[iv 0, iv 0, iv 0, iv 0, iv 0, iv 0, iv 0, iv 0] 110)) = (W2.alloc (.cells #[iv 0, iv 0, iv 0, iv 0, iv 0, iv 0, iv 0, iv 0] 110)).drew := rfl
      have hO := OwnE.base (base' := W2.heap.size) hO (Nat.le_refl _)
      rw [hdr] at hO hB3
      simp only [iv] at hO hB3
      clear hdr
      refine hK.out _ _ (by rw [HSD.out]; exact ⟨(hB3.cell (p := ⟨_, _, _⟩) z1').trans e1', (hB3.cell (p := ⟨_, _, _⟩) zh').trans eh'⟩) (fun hHeld => ?_)
      clear hK K
      try simp only [Act.put, List.setIfInBounds_toArray, List.set_cons_zero, List.set_cons_succ]
      have hLa := HL2.out.keep' (Keep.of_below' hB3 (fun _ => False)) (fun _ h => h.elim)
      have hds : W2.drew.heap.size = W2.heap.size := rfl
      try rw [hds] at hO
      generalize (W2.alloc (.cells #[.int .i64 0, .int .i64 0, .int .i64 0, .int .i64 0, .int .i64 0, .int .i64 0, .int .i64 0, .int .i64 0] 110)).drew = wa at *
      clear hds
      refine wpAnyH_ready (rs := [3]) (by kernel_rfl) (by simp) ?_
      refine AllReadyH.cons rfl (fun K hK => ?_) AllReadyH.nil
      go_simp
      go_at_call 90
      refine (of_any' hLa.look HV.out.small hold).mono ?_
      rintro e w3 ⟨rfl, hb2⟩
      replace hO := hO.below hb2 hO.lt.2
      replace hB3 := hB3.trans (hb2.mono hB3.size)
      refine hK.out _ _ (by rw [HSD.out]; exact ⟨(hB3.cell (p := ⟨_, _, _⟩) z1').trans e1', (hB3.cell (p := ⟨_, _, _⟩) zh').trans eh'⟩) (fun hHeld => ?_)
      clear hK K
      try simp only [Act.put, List.setIfInBounds_toArray, List.set_cons_zero, List.set_cons_succ]
      refine wpAnyH_take (i := 4) (v := ?_) rfl (by kernel_rfl) (by kernel_rfl) (by kernel_rfl) (fun _ _ _ h => absurd h (by rintro ⟨_, h, _⟩; cases h)) (Or.inl ⟨by rfl, fun W hSw => ?_⟩) hHeld ?_
      rotate_left
      · rw [HSD.out] at hSw; obtain ⟨x0, x1⟩ := hSw; go_simp; try rfl
      try simp only [Act.put, List.setIfInBounds_toArray, List.set_cons_zero, List.set_cons_succ]
      have r0 := hO.cell (i := 0) (by omega)
      have r1 := hO.cell (i := 1) (by omega)
      have r2 := hO.cell (i := 2) (by omega)
      have r3 := hO.cell (i := 3) (by omega)
      have r4 := hO.cell (i := 4) (by omega)
      have r5 := hO.cell (i := 5) (by omega)
      have r6 := hO.cell (i := 6) (by omega)
      have r7 := hO.cell (i := 7) (by omega)
      have g0 := hO.frozen 0
      have g1 := hO.frozen 1
      have g2 := hO.frozen 2
      have g3 := hO.frozen 3
      have g4 := hO.frozen 4
      have g5 := hO.frozen 5
      have g6 := hO.frozen 6
      have g7 := hO.frozen 7
      simp only [nth8_0, nth8_1, nth8_2, nth8_3, nth8_4, nth8_5, nth8_6, nth8_7] at r0 r1 r2 r3 r4 r5 r6 r7
      refine wpAnyH_ready (rs := [6]) (by kernel_rfl) (by simp) ?_
      refine AllReadyH.cons rfl (fun K hK => ?_) AllReadyH.nil
      go_simp
      have hg : W2.heap.size ≤ W2.heap.size := Nat.le_refl _
      have hO8 := hO.store8 hold 0 0 0 0 0 0 (ofB c hold c.lots.length : Nat)
      have hB8 := (keep_store8 (w := w3) (g := W2.heap.size) (fun k => k = W2.heap.size) rfl (.int .i64 hold) (.int .i64 0) (.int .i64 0) (.int .i64 0) (.int .i64 0) (.int .i64 0) (.int .i64 0) (.int .i64 (ofB c hold c.lots.length : Nat))).below (B := W2.heap.size) (fun k h => by omega) hB3.size
      have hBZ := hB3.trans hB8
      refine hK.out _ _ (by rw [HSD.out]; exact ⟨(hBZ.cell (p := ⟨_, _, _⟩) z1').trans e1', (hBZ.cell (p := ⟨_, _, _⟩) zh').trans eh'⟩) (fun hHeld => ?_)
      clear hK K
      try simp only [Act.put, List.setIfInBounds_toArray, List.set_cons_zero, List.set_cons_succ]
      refine wpAnyH_done (by kernel_rfl) ?_ _
      exact ⟨W2.heap.size, rfl, rfl, hBZ, hO8⟩
  case hq =>
    intro ps V ⟨hBV, hOs⟩
    have hps := hOs.lt.2
    go_upto_region 6 with (fail)
    have hOl := OwnE.made8 V 110 (-1) 0 0 0 0 0 0 0
    have hBl : Below V.heap.size V (V.alloc (.cells #[.int .i64 (-1), .int .i64 0, .int .i64 0, .int .i64 0, .int .i64 0, .int .i64 0, .int .i64 0, .int .i64 0] 110)) := (Below.refl _ _).alloc (Nat.le_refl _) _
    simp only [iv] at hOl
    have hszl : (V.alloc (.cells #[.int .i64 (-1), .int .i64 0, .int .i64 0, .int .i64 0, .int .i64 0, .int .i64 0, .int .i64 0, .int .i64 0] 110)).heap.size = V.heap.size + 1 := by simp
    have hBn : Below (V.alloc (.cells #[.int .i64 (-1), .int .i64 0, .int .i64 0, .int .i64 0, .int .i64 0, .int .i64 0, .int .i64 0, .int .i64 0] 110)).heap.size (V.alloc (.cells #[.int .i64 (-1), .int .i64 0, .int .i64 0, .int .i64 0, .int .i64 0, .int .i64 0, .int .i64 0, .int .i64 0] 110)) ((V.alloc (.cells #[.int .i64 (-1), .int .i64 0, .int .i64 0, .int .i64 0, .int .i64 0, .int .i64 0, .int .i64 0, .int .i64 0] 110)).alloc (.cells #[.func (.func 109) #[] #[.pointer (some ⟨p1, 0, none⟩), .pointer (some ⟨ps, 0, none⟩), .pointer (some ⟨V.heap.size, 0, none⟩), .pointer (some ⟨W.heap.size + 1, 0, none⟩), .pointer (some ⟨ph, 0, none⟩), .pointer (some ⟨W.heap.size, 0, none⟩), .pointer (some ⟨V.heap.size + 1, 0, none⟩)]] 129)) := (Below.refl _ _).alloc (Nat.le_refl _) _
    have hszn : ((V.alloc (.cells #[.int .i64 (-1), .int .i64 0, .int .i64 0, .int .i64 0, .int .i64 0, .int .i64 0, .int .i64 0, .int .i64 0] 110)).alloc (.cells #[.func (.func 109) #[] #[.pointer (some ⟨p1, 0, none⟩), .pointer (some ⟨ps, 0, none⟩), .pointer (some ⟨V.heap.size, 0, none⟩), .pointer (some ⟨W.heap.size + 1, 0, none⟩), .pointer (some ⟨ph, 0, none⟩), .pointer (some ⟨W.heap.size, 0, none⟩), .pointer (some ⟨V.heap.size + 1, 0, none⟩)]] 129)).heap.size = V.heap.size + 1 + 1 := by simp
    have hcn : ((V.alloc (.cells #[.int .i64 (-1), .int .i64 0, .int .i64 0, .int .i64 0, .int .i64 0, .int .i64 0, .int .i64 0, .int .i64 0] 110)).alloc (.cells #[.func (.func 109) #[] #[.pointer (some ⟨p1, 0, none⟩), .pointer (some ⟨ps, 0, none⟩), .pointer (some ⟨V.heap.size, 0, none⟩), .pointer (some ⟨W.heap.size + 1, 0, none⟩), .pointer (some ⟨ph, 0, none⟩), .pointer (some ⟨W.heap.size, 0, none⟩), .pointer (some ⟨V.heap.size + 1, 0, none⟩)]] 129)).cell? ⟨V.heap.size + 1, 0, none⟩ = some (.func (.func 109) #[] #[.pointer (some ⟨p1, 0, none⟩), .pointer (some ⟨ps, 0, none⟩), .pointer (some ⟨V.heap.size, 0, none⟩), .pointer (some ⟨W.heap.size + 1, 0, none⟩), .pointer (some ⟨ph, 0, none⟩), .pointer (some ⟨W.heap.size, 0, none⟩), .pointer (some ⟨V.heap.size + 1, 0, none⟩)]) := by
      rw [World.cell?_alloc_at _ _ _ _ (by simp)]; rfl
    have hBln : Below V.heap.size V ((V.alloc (.cells #[.int .i64 (-1), .int .i64 0, .int .i64 0, .int .i64 0, .int .i64 0, .int .i64 0, .int .i64 0, .int .i64 0] 110)).alloc (.cells #[.func (.func 109) #[] #[.pointer (some ⟨p1, 0, none⟩), .pointer (some ⟨ps, 0, none⟩), .pointer (some ⟨V.heap.size, 0, none⟩), .pointer (some ⟨W.heap.size + 1, 0, none⟩), .pointer (some ⟨ph, 0, none⟩), .pointer (some ⟨W.heap.size, 0, none⟩), .pointer (some ⟨V.heap.size + 1, 0, none⟩)]] 129)) := hBl.trans (hBn.mono hBl.size)
    replace hOl := hOl.below hBn (by rw [hszl]; omega)
    replace hOs := hOs.below hBln hOs.lt.2
    generalize ((V.alloc (.cells #[.int .i64 (-1), .int .i64 0, .int .i64 0, .int .i64 0, .int .i64 0, .int .i64 0, .int .i64 0, .int .i64 0] 110)).alloc (.cells #[.func (.func 109) #[] #[.pointer (some ⟨p1, 0, none⟩), .pointer (some ⟨ps, 0, none⟩), .pointer (some ⟨V.heap.size, 0, none⟩), .pointer (some ⟨W.heap.size + 1, 0, none⟩), .pointer (some ⟨ph, 0, none⟩), .pointer (some ⟨W.heap.size, 0, none⟩), .pointer (some ⟨V.heap.size + 1, 0, none⟩)]] 129)) = W3 at *
    clear hBl hszl hBn
    have hsz := HSZ.out
    have hsV := hBV.size
    have hs3 := hBln.size
    have hosl := hOs.lt
    have hW3 : Below W.heap.size W W3 := HA.out.trans ((hBV.mono (by omega)).trans (hBln.mono (by omega)))
    have HM3 : Hid (ItM W3 L W.heap.size b bm p1 ph (W.heap.size + 1) W.heap.size (V.heap.size + 1) ps V.heap.size l c A1 A2 A3 A4 c1 c2 c3 c4 but hold (zst c hold) ist) := hide ⟨HH.out.keep' (Keep.of_below' hW3 (fun _ => False)) (fun _ h => h.elim),
      ((hBln.cell (p := ⟨p1, 0, none⟩) (by show p1 < _; omega)).trans (hBV.cell (p := ⟨p1, 0, none⟩) z1')).trans e1',
      ((hBln.cell (p := ⟨ph, 0, none⟩) (by show ph < _; omega)).trans (hBV.cell (p := ⟨ph, 0, none⟩) zh')).trans eh',
      ((hBln.cell (p := ⟨W.heap.size + 1, 0, none⟩) (by show W.heap.size + 1 < _; omega)).trans (hBV.cell (p := ⟨W.heap.size + 1, 0, none⟩) (by show W.heap.size + 1 < _; omega))).trans HEF.out,
      ((hBln.cell (p := ⟨W.heap.size, 0, none⟩) (by show W.heap.size < _; omega)).trans (hBV.cell (p := ⟨W.heap.size, 0, none⟩) (by show W.heap.size < _; omega))).trans HEY.out,
      hcn, hOs.base (by omega), hOl.base (by omega)⟩
    have hFx : Fix C L W.heap.size b bm p1 ph (W.heap.size + 1) W.heap.size (V.heap.size + 1) ps V.heap.size := by
      have h1 := HH.out.hL
      have h2 := HH.out.hm
      have h3 := hosl.1
      exact ⟨h1, h2, HH.out.hb, HC.out, z1, zh, ⟨by omega, by omega, by omega⟩, ⟨by omega, by omega, by omega⟩, ⟨by omega, by omega, by omega⟩, by omega, by omega, by omega⟩
    have HF := hide hFx
    have HW3 := hide hW3
    have HI3 := hide (HI.out [] W W3 H0.out (Keep.of_below' hW3 _) HM3.out.look.k)
    have a1 := HM3.out.e1
    have ah := HM3.out.eh
    have a2 := HM3.out.look.q2
    obtain ⟨bh, oh, rfl, hbh, u0, u1⟩ := HM3.out.look.v.holds.spans hh
    have r1 := HM3.out.rs.cell (i := 1) (by omega)
    have g1 := HM3.out.rs.frozen 1
    have hh0 : (0 : Int) ≤ (hold : Int) := Int.natCast_nonneg _
    have hh1 : (hold : Int) < (c.holds.length : Int) := by omega
    rw [stRow, nth8_1] at r1
    clear hFx hW3 hcn hOs hOl hBln hBV e1' eh' u1
    apply wp_one
    case h =>
      go_region
      all_goals exact ⟨rfl, rfl, rfl⟩
    case hq =>
    have hw0 := HV.out.warm hold hh
    generalize hlo' : (nth c.holds hold).lo = lo at *
    generalize hhi' : (nth c.holds hold).hi = hi at *
    have HLO := hide hlo'
    have HHI := hide hhi'
    clear hlo' hhi'
    have hT4 : OwnE 110 (W3.setCell ⟨ps, 1, none⟩ (.int .i64 lo)) W.heap.size ps 8 (stRow { zst c hold with warm := lo }) := HM3.out.rs.set 1 lo
    have hk4 : Keep (fun k => k = ps) W3 (W3.setCell ⟨ps, 1, none⟩ (.int .i64 lo)).drew := Keep.trans (Keep.setCell _ _ _ _ rfl) (Keep.of_below' (Below.refl _ _).drew _)
    replace hT4 : OwnE 110 (W3.setCell ⟨ps, 1, none⟩ (.int .i64 lo)).drew W.heap.size ps 8 (stRow { zst c hold with warm := lo }) := hT4.block rfl
    generalize (W3.setCell ⟨ps, 1, none⟩ (.int .i64 lo)).drew = W4 at *
    have HM4 := hide (HM3.out.turn HF.out (hk4.mono (fun k _ h => .inl h)) hT4 (HM3.out.rl.block (hk4.block _ HM3.out.rl.lt.2 (fun h => HF.out.sl h.symm))))
    have HI4 := hide (HI.out [] W3 W4 HI3.out (hk4.mono (fun k _ h => by have := HF.out.s; right; omega)) HM4.out.look.k)
    have HK4 := hide (((Keep.of_below' HW3.out (fun k => k = bm ∨ k = ps ∨ k = V.heap.size ∨ C k))).trans (hk4.mono (fun k _ h => .inr (.inl h))))
    clear hT4 hk4 r1 g1 a1 ah a2 u0 HM3 HI3
    go_wp2_with fail
    go_loopw [28] (fun _ wr => ∃ (x : Int) (s last : St), lo ≤ x ∧ x ≤ hi + 1 ∧ ItM wr L W.heap.size b bm p1 ph (W.heap.size + 1) W.heap.size (V.heap.size + 1) ps V.heap.size l c A1 (some ⟨bh, oh, none⟩) A3 A4 c1 c2 c3 c4 but hold s last ∧ Hid (StAt c hold x [] s) ∧ last.Ok ∧ Hid (last.hold = -1 ∨ (last.hold = hold ∧ last.warm < x)) ∧
        I ((doneW c hold x).filter (okS c but)) wr ∧ Keep (fun k => k = bm ∨ k = ps ∨ k = V.heap.size ∨ C k) W wr) (fun _ wr => (hi + 1 - warmOf wr ps).toNat)
    case atStart =>
      refine ⟨lo, _, ist, by omega, by omega, HM4.out, hide ⟨rfl, rfl, rfl, rfl, rfl, fun k _ => ?_, fun k => ?_⟩, ist_ok, hide (.inl rfl), ?_, HK4.out⟩
      · match k with
        | 0 | 1 | 2 | 3 | 4 => rfl
        | i + 5 => rfl
      · match k with
        | 0 | 1 | 2 | 3 | 4 => exact (by decide : (0 : Int) ≤ 0 ∧ (0 : Int) ≤ 40)
        | i + 5 => exact (by decide : (0 : Int) ≤ 0 ∧ (0 : Int) ≤ 40)
      · have hd0 := doneW_lo c hold
        rw [HLO.out] at hd0
        rw [hd0]; exact HI4.out
    case round =>
      clear HM4 HI4 HK4
      obtain ⟨x, s, last, hx0, hx1, hMr, HSr, hlok, HLr, hIr, hkr⟩ := hrel
      have a1 := hMr.e1
      have ah := hMr.eh
      have a2 := hMr.look.q2
      obtain ⟨bh', oh', hEq, hbh', u0, u1⟩ := hMr.look.v.holds.spans hh
      have hEq' : bh' = bh ∧ oh' = oh := by simpa using hEq.symm
      obtain ⟨rfl, rfl⟩ := hEq'
      have r1 := hMr.rs.cell (i := 1) (by omega)
      rw [stRow, nth8_1, HSr.out.ww] at r1
      rw [HHI.out] at u1
      have hwr : warmOf wr ps = x := by rw [warmOf, r1]; rfl
      have HWR := hide hwr
      have HMr := hide hMr
      have HIr := hide hIr
      have HKr := hide hkr
      clear hMr hIr hkr u0 hEq hwr
      by_cases hxh : x ≤ hi
      · go_wp2_with fail
        go_quiet (fail)
        go_upto_region 9 with (fail)
        have hkx : Keep (fun k => k = bm ∨ k = ps ∨ k = V.heap.size ∨ C k) wr (wr.drewN nq) := Keep.of_below' (below_drewN (Below.refl _ _) nq) _
        have hkx' : Keep (fun _ => False) wr (wr.drewN nq) := Keep.of_below' (below_drewN (Below.refl _ _) nq) _
        generalize wr.drewN nq = wx at *
        have hMx := HMr.out.keep HF.out hkx' (fun _ h => h.elim) (HMr.out.look.k.keep hkx' (fun h => h))
        have hIx := HI.out _ wr wx HIr.out (hkx'.mono (fun _ _ h => h.elim)) hMx.look.k
        have HKx := hide (HKr.out.trans hkx)
        have en := hMx.en
        have hxs : x ∈ spanVals (nth c.holds hold) := mem_spanVals.2 ⟨by rw [HLO.out]; exact hx0, by rw [HHI.out]; exact hxh⟩
        have hNX := next_any HF.out HV.out hbut (wm := x) (by omega) (by have := HV.out.holds; omega) HI.out HY.out c.lots.length 0 (by omega) [] s last _ wx rfl HSr.out hlok (fun hm => by
            obtain ⟨hw1, hw2⟩ := todo_warm hm
            rcases HLr.out with h | h
            · rw [h] at hw2; omega
            · omega) (fun z hz hok => List.mem_filter.2 ⟨todo_mem HV.out hh hxs hz, hok⟩) hMx hIx
        rw [show ((0 : Nat) : Int) = 0 from rfl] at hNX
        have HNX := hide hNX
        have HXS := hide hxs
        have HDS := hide (doneW_succ (c := c) (hold := hold) (x := x) (by rw [HLO.out]; exact hx0) (by rw [HHI.out]; exact hxh))
        clear hkx hkx' hMx hIx a1 ah a2 u1 r1 hNX hxs
        go_wp2_with fail
        refine HNX.out.mono ?_
        rintro e W' (⟨rfl, hI5, hk5, s5, last5, hM5, hR5, hl5, hlok5⟩ | ⟨rfl, ⟨q, hq0, hqp, hIx5⟩, hn5, hk5⟩)
        · have r1 := hM5.rs.cell (i := 1) (by omega)
          have g1 := hM5.rs.frozen 1
          rw [stRow, nth8_1, hR5.ww] at r1
          have hbx : 0 ≤ x ∧ x ≤ 100 := by omega
          go_wp2
          have hT6 : OwnE 110 (W'.setCell ⟨ps, 1, none⟩ (.int .i64 (x + 1))) W.heap.size ps 8 (stRow { s5 with warm := x + 1 }) := hM5.rs.set 1 (x + 1)
          have hk6 : Keep (fun k => k = ps) W' (W'.setCell ⟨ps, 1, none⟩ (.int .i64 (x + 1))) := Keep.setCell _ _ _ _ rfl
          have hwm : warmOf (W'.setCell ⟨ps, 1, none⟩ (.int .i64 (x + 1))) ps = x + 1 := by
            rw [warmOf, World.cell?_setCell_same' _ _ _ (by rw [r1]; rfl)]; rfl
          refine ⟨⟨x + 1, { s5 with warm := x + 1 }, last5, by omega, by omega, hM5.turn HF.out (hk6.mono (fun k _ h => .inl h)) hT6 (hM5.rl.block (hk6.block _ hM5.rl.lt.2 (fun h => HF.out.sl h.symm))),
            hide ⟨hR5.hd, rfl, hR5.th, hR5.len, hR5.take, hR5.zero, hR5.bd⟩, hlok5, hide ?_, ?_, HKx.out.trans (hk5.trans (hk6.mono (fun k _ h => .inr (.inl h))))⟩, ?_⟩
          · rcases hl5 with rfl | h
            · rcases HLr.out with h | h
              · exact .inl h
              · exact .inr ⟨h.1, by omega⟩
            · obtain ⟨h1, h2⟩ := todo_warm h
              exact .inr ⟨h2, by omega⟩
          · refine HI.out _ W' _ ?_ (hk6.mono (fun k _ h => by have := HF.out.s; right; omega)) (hM5.look.k.keep hk6 (fun h => by have := HF.out.s; have := HF.out.hLU; have := HF.out.hm; omega))
            rw [HDS.out, List.filter_append]; exact hI5
          · rw [hwm, HWR.out]; omega
        · go_wp2
          refine bodyPost_ret (results_none rfl _ _ _) rfl ⟨⟨_, rfl⟩, hn5, (HKx.out.trans hk5).mono (fun k hk h => ?_), .inr ⟨(doneW c hold x).filter (okS c but) ++ q, by simp [hq0], ?_, hIx5⟩⟩
          · have h1 := HF.out.s
            have h2 := HF.out.l
            rcases h with h | h | h | h
            · exact .inl h
            · omega
            · omega
            · exact .inr h
          · have h2 := (doneW_prefix c hold (x + 1)).filter (okS c but)
            rw [HDS.out, List.filter_append] at h2
            exact (List.prefix_append_right_inj _).2 hqp |>.trans h2
      · go_wp2_with fail
        go_quiet (fail)
        go_wp2
        go_end0
        have hkx' : Keep (fun _ => False) wr (wr.drewN nq) := Keep.of_below' (below_drewN (Below.refl _ _) nq) _
        have hkn := HMr.out.look.k.keep hkx' (fun h => h)
        refine ⟨⟨_, rfl⟩, hkn, (HKr.out.trans (hkx'.mono (fun _ _ h => h.elim))).mono (fun k hk h => ?_), .inl ?_⟩
        · have h1 := HF.out.s
          have h2 := HF.out.l
          rcases h with h | h | h | h
          · exact .inl h
          · omega
          · omega
          · exact .inr h
        · have := HI.out _ wr _ HIr.out (hkx'.mono (fun _ _ h => h.elim)) hkn
          rwa [doneW_all (by rw [HHI.out]; omega) (by rw [HLO.out]; exact hx0)] at this
end Go.Proofs.Ytbkknliggnhpcaa
