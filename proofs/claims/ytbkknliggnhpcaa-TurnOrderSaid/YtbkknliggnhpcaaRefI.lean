/- The contract of the reference's Turns of chapter 07. -/
import Derived.Test.YtbkknliggnhpcaaGC
import Derived.Test.YtbkknliggnhpcaaGG
import Derived.StillTailTactics
set_option linter.unusedVariables false
set_option linter.unusedSimpArgs false
namespace Go.Proofs.Ytbkknliggnhpcaa
open Go.RowKit
attribute [local go_sem ↓] Go.wp_at_zero Go.wp_at_succ

def turnsE (c : Cargo) (lot : Int) : Int := truthE c (indexE c lot c.lots.length)
theorem indexE_valid {c : Cargo} {n below : Int} (h : indexE c n below = 0) : Valid c ∧ 0 ≤ n ∧ n ≤ below - 1 := by
  unfold indexE at h
  split at h
  · rename_i h1
    split at h
    · omega
    · rename_i h2
      exact ⟨valid_of h1, offP_false.1 (by simpa using h2)⟩
  · rename_i h1; exact absurd h h1
theorem truthE_zero {c : Cargo} {e : Int} (h : truthE c e = 0) : e = 0 ∧ someM c [] = true := by
  unfold truthE at h
  split at h
  · omega
  · rename_i h1
    refine ⟨h, ?_⟩
    cases hs : someM c [] with
    | true => rfl
    | false => exact absurd ⟨h, hs⟩ h1
theorem turnsE_valid {c : Cargo} {lot : Int} (h : turnsE c lot = 0) : Valid c ∧ someM c [] = true ∧ 0 ≤ lot ∧ lot < c.lots.length := by
  obtain ⟨h1, h2⟩ := truthE_zero h
  obtain ⟨h3, h4, h5⟩ := indexE_valid h1
  exact ⟨h3, h2, h4, by omega⟩
/-- The hours at which it turns. -/
def turnedH (n : Nat) (hs : List Int) : List Int := hs.filter fun h => decide (h ≠ (n : Int) + 1)
def spanTo (n : Nat) (hs : List Int) (j : Nat) : Bool × List Int := (hs.take j).foldl (spanStep n) (true, [0, 0])
def turnedTo (n : Nat) (hs : List Int) (j : Nat) : Nat := (turnedH n (hs.take j)).length
theorem spanTo_succ {n : Nat} {hs : List Int} {j : Nat} (h : j < hs.length) : spanTo n hs (j + 1) = spanStep n (spanTo n hs j) (nth hs j) := by
  rw [spanTo, take_nth h, List.foldl_append]; rfl
theorem turnedTo_succ {n : Nat} {hs : List Int} {j : Nat} (h : j < hs.length) : turnedTo n hs (j + 1) = turnedTo n hs j + if nth hs j = (n : Int) + 1 then 0 else 1 := by
  rw [turnedTo, take_nth h, turnedH, List.filter_append, List.length_append]
  by_cases hx : nth hs j = (n : Int) + 1 <;> simp [turnedTo, turnedH, hx]
theorem turnedTo_le (n : Nat) (hs : List Int) (j : Nat) : turnedTo n hs j ≤ j := by
  have h1 := List.length_filter_le (fun h => decide (h ≠ (n : Int) + 1)) (hs.take j)
  have h2 := List.length_take_le j hs
  unfold turnedTo turnedH; omega
theorem spanTo_ok {n : Nat} {hs : List Int} : ∀ {j : Nat}, j ≤ hs.length → (spanTo n hs j).1 = decide (turnedTo n hs j = 0) ∧ ∃ lo hi, (spanTo n hs j).2 = [lo, hi]
  | 0, _ => ⟨rfl, 0, 0, rfl⟩
  | j + 1, h => by
    obtain ⟨h1, lo, hi, h2⟩ := spanTo_ok (n := n) (hs := hs) (j := j) (by omega)
    rw [spanTo_succ (by omega), turnedTo_succ (by omega), spanStep, h1, h2]
    by_cases hx : nth hs j = (n : Int) + 1
    · simp [hx]
    · simp only [hx, decide_false, Bool.and_false, if_false]
      refine ⟨by simp, ?_⟩
      unfold spanUp
      split
      · exact ⟨_, _, rfl⟩
      · exact ⟨_, _, rfl⟩
def turnsR (c : Cargo) (lot : Int) : (List Int × Int) × Int := if turnsE c lot ≠ 0 then (([0, 0], 0), turnsE c lot) else
  ((((hoursM c lot.toNat).foldl (spanStep c.heat.length) (true, [0, 0])).2, settledM (turnedH c.heat.length (hoursM c lot.toNat)).length (hoursM c lot.toNat).length), 0)
theorem hoursM_len {c : Cargo} (hv : Valid c) {l : Nat} (hl : l < c.lots.length) : (hoursM c l).length ≤ 1024 := by
  have := hv.lot l hl
  rw [hoursM, List.length_map]
  exact waysM_len hv (by omega)

set_option maxHeartbeats 4000000 in
set_option maxRecDepth 100000 in
theorem turns7_any {A1 A2 A3 A4 : Option Addr} {c1 c2 c3 c4 : Nat} {c : Cargo} {w : World} (h : CargoV w w.heap.size c A1 A2 A3 A4 c1 c2 c3 c4) (lot : Int) :
    Calls Try.prog 19 #[cargoVal c A1 A2 A3 A4 c1 c2 c3 c4, .int .i64 lot] w fun e w' => e = .returned (.tuple #[.agg #[.int .i64 (nth (turnsR c lot).1.1 0), .int .i64 (nth (turnsR c lot).1.1 1)], .int .i64 (turnsR c lot).1.2, .int .i64 (turnsR c lot).2]) ∧ Below w.heap.size w w' := by
  have hm3 := h.m3
  have hm1 := h.m1
  unfold maxLen at hm3 hm1
  have hB0 : Below w.heap.size w ((w.alloc (.cells #[.slice A1 c.heat.length c1, .int .i64 c.gas, .slice A2 c.holds.length c2, .slice A3 c.lots.length c3, .slice A4 c.seen.length c4] 27)).alloc (.cells #[.int .i64 0, .int .i64 0] 32)) := ((Below.refl _ _).alloc (Nat.le_refl _) _).alloc (by simp) _
  have hcl : ∀ o : Nat, ((w.alloc (.cells #[.slice A1 c.heat.length c1, .int .i64 c.gas, .slice A2 c.holds.length c2, .slice A3 c.lots.length c3, .slice A4 c.seen.length c4] 27)).alloc (.cells #[.int .i64 0, .int .i64 0] 32)).cell? ⟨w.heap.size, o, none⟩ = (#[Value.slice A1 c.heat.length c1, .int .i64 c.gas, .slice A2 c.holds.length c2, .slice A3 c.lots.length c3, .slice A4 c.seen.length c4])[o]? := fun o => by
    rw [World.cell?_alloc_past _ _ _ (by simp), World.cell?_alloc_at _ _ _ _ rfl]
  have hsp : OwnE 32 ((w.alloc (.cells #[.slice A1 c.heat.length c1, .int .i64 c.gas, .slice A2 c.holds.length c2, .slice A3 c.lots.length c3, .slice A4 c.seen.length c4] 27)).alloc (.cells #[.int .i64 0, .int .i64 0] 32)) w.heap.size (w.heap.size + 1) 2 [0, 0] := by
    have := (OwnE.made2 (w.alloc (.cells #[.slice A1 c.heat.length c1, .int .i64 c.gas, .slice A2 c.holds.length c2, .slice A3 c.lots.length c3, .slice A4 c.seen.length c4] 27)) 32 0 0).base (base' := w.heap.size) (by simp)
    simpa using this
  have hs1 : ((w.alloc (.cells #[.slice A1 c.heat.length c1, .int .i64 c.gas, .slice A2 c.holds.length c2, .slice A3 c.lots.length c3, .slice A4 c.seen.length c4] 27)).alloc (.cells #[.int .i64 0, .int .i64 0] 32)).heap.size = w.heap.size + 1 + 1 := by simp
  have HB0 := hide hB0
  have HCL := hide hcl
  have HS1 := hide hs1
  have HSP := hide hsp
  have HC0 := hide (h.next hB0)
  have HRR := hide (show turnsR c lot = if turnsE c lot ≠ 0 then (([0, 0], 0), turnsE c lot) else ((((hoursM c lot.toNat).foldl (spanStep c.heat.length) (true, [0, 0])).2, settledM (turnedH c.heat.length (hoursM c lot.toNat)).length (hoursM c lot.toNat).length), 0) from rfl)
  clear hB0 hcl hs1 h hsp
  go_enter Try.func19, Try.ntmps19
  go_wp2_with fail
  generalize ((w.alloc (.cells #[.slice A1 c.heat.length c1, .int .i64 c.gas, .slice A2 c.holds.length c2, .slice A3 c.lots.length c3, .slice A4 c.seen.length c4] 27)).alloc (.cells #[.int .i64 0, .int .i64 0] 32)) = w0 at *
  have pb0 := HCL.out 0
  have pb1 := HCL.out 1
  have pb2 := HCL.out 2
  have pb3 := HCL.out 3
  have pb4 := HCL.out 4
  simp only [List.getElem?_toArray, List.getElem?_cons_succ, List.getElem?_cons_zero] at pb0 pb1 pb2 pb3 pb4
  have hwz : w.heap.size < w0.heap.size := by have := HS1.out; omega
  have HCG : Hid (∀ t : Later w0, CargoV (grow w0 t) (grow w0 t).heap.size c A1 A2 A3 A4 c1 c2 c3 c4) := fun t => HC0.out.next grow_below
  have hbel : (0 : Int) ≤ (c.lots.length : Int) ∧ (c.lots.length : Int) ≤ 9223372036854775807 := by omega
  refine wp_region_grow (by kernel_rfl) (by kernel_rfl) ?_
  have hgc := @grow_cell
  repeat (first | go_big_quiet_step (((first | (go_at_call 74; exact Calls.grow_of (index7_any (HCG.out _) _ _ (by omega))) | (go_at_call 73; exact Calls.grow_of (truth7_any (HCG.out _) _ (fun h => (indexE_valid h).1)))))) | quiet_step (((first | (go_at_call 74; exact Calls.grow_of (index7_any (HCG.out _) _ _ (by omega))) | (go_at_call 73; exact Calls.grow_of (truth7_any (HCG.out _) _ (fun h => (indexE_valid h).1)))))))
  refine wpQuiet_nil ?_
  rintro _ ⟨t, rfl⟩
  have hbt := grow_below (w := w0) (t := t)
  have HC2 := hide (HC0.out.next hbt)
  clear hgc
  generalize grow w0 t = w2 at *
  have hz2 := hbt.size
  have hwz2 : w.heap.size + 1 < w2.heap.size := by have := HS1.out; omega
  have p0 := (hbt.cell (p := ⟨w.heap.size, 0, none⟩) hwz).trans pb0
  have p1 := (hbt.cell (p := ⟨w.heap.size, 1, none⟩) hwz).trans pb1
  have p2 := (hbt.cell (p := ⟨w.heap.size, 2, none⟩) hwz).trans pb2
  have p3 := (hbt.cell (p := ⟨w.heap.size, 3, none⟩) hwz).trans pb3
  have p4 := (hbt.cell (p := ⟨w.heap.size, 4, none⟩) hwz).trans pb4
  have HSP := hide (HSP.out.below hbt HSP.out.lt.2)
  have HB2 := hide (HB0.out.trans (hbt.mono (by have := HS1.out; omega)))
  have HTE := hide (show truthE c (indexE c lot (c.lots.length : Nat)) = turnsE c lot from rfl)
  rw [HTE.out]
  clear hbt pb0 pb1 pb2 pb3 pb4 HC0 HB0 HCL HS1 HCG
  have hs0 := HSP.out.cell (i := 0) (by omega)
  have hs1 := HSP.out.cell (i := 1) (by omega)
  have hf0 := HSP.out.frozen 0
  have hf1 := HSP.out.frozen 1
  rw [nth2_0] at hs0
  rw [nth2_1] at hs1
  have HTV := hide (turnsE_valid (c := c) (lot := lot))
  generalize turnsE c lot = E at *
  cases hce : (E != 0) with
  | true =>
    have HNE := hide (show E ≠ 0 by simpa using hce)
    go_wp2_with fail
    refine bodyPost_ret (v := .tuple #[.agg #[.int .i64 0, .int .i64 0], .int .i64 0, .int .i64 E]) ?_ rfl ?_
    · simp [results, Try.results19, go_sem, hs0, hs1, hf0, hf1]
    · have hR := HRR.out
      rw [if_pos HNE.out] at hR
      rw [hR]
      exact ⟨rfl, (HB2.out.setCell (by simp) _).setCell (by simp) _⟩
  | false =>
    have hE : E = 0 := by simpa using hce
    obtain ⟨hv, -, hl0, hl1⟩ := HTV.out hE
    obtain ⟨lot, rfl⟩ : ∃ k : Nat, lot = (k : Int) := ⟨lot.toNat, by omega⟩
    have hlt : lot < c.lots.length := by omega
    have hR := HRR.out
    rw [if_neg (by simp [hE]), Int.toNat_natCast] at hR
    have HR := hide hR
    have HV := hide hv
    have hhl := hoursM_len hv hlt
    have hht := hv.hours
    clear hv hR HRR HTV
    subst hE
    go_wp2_with (go_at_call 75; refine (hours7_any HC2.out HV.out hlt).mono ?_; rintro e w3 ⟨AA, cA, rfl, hAll, hb3⟩; generalize hoursM c lot = hs at *)
    have hz3 := hb3.size
    have hA : Below w3.heap.size w3 (w3.alloc (.cells #[.int .i64 0, .int .i64 0] 32)) := (Below.refl _ _).alloc (Nat.le_refl _) _
    have hso : OwnE 32 (w3.alloc (.cells #[.int .i64 0, .int .i64 0] 32)) w3.heap.size w3.heap.size 2 [0, 0] := OwnE.made2 w3 32 0 0
    have hA2 := hb3.trans (hA.mono hz3)
    have HI := hide ((hAll.below hA))
    have p0 := (hA2.cell (p := ⟨w.heap.size, 0, none⟩) (by show w.heap.size < _; omega)).trans p0
    have p1 := (hA2.cell (p := ⟨w.heap.size, 1, none⟩) (by show w.heap.size < _; omega)).trans p1
    have p2 := (hA2.cell (p := ⟨w.heap.size, 2, none⟩) (by show w.heap.size < _; omega)).trans p2
    have p3 := (hA2.cell (p := ⟨w.heap.size, 3, none⟩) (by show w.heap.size < _; omega)).trans p3
    have p4 := (hA2.cell (p := ⟨w.heap.size, 4, none⟩) (by show w.heap.size < _; omega)).trans p4
    have HSP3 := hide (HSP.out.below hA2 HSP.out.lt.2)
    have HBA := hide (HB2.out.trans (hA2.mono (by omega)))
    have hzA : (w3.alloc (.cells #[.int .i64 0, .int .i64 0] 32)).heap.size = w3.heap.size + 1 := by simp
    have hzA' : w3.heap.size < (w3.alloc (.cells #[.int .i64 0, .int .i64 0] 32)).heap.size := by omega
    have HSO := hide hso
    clear hso hA hA2 hb3 hAll HSP HB2 hs0 hs1 hf0 hf1 hzA
    generalize (w3.alloc (.cells #[.int .i64 0, .int .i64 0] 32)) = w4 at *
    have HST := hide (fun (j : Nat) (h : j < hs.length) => spanTo_succ (n := c.heat.length) h)
    have HTT := hide (fun (j : Nat) (h : j < hs.length) => turnedTo_succ (n := c.heat.length) h)
    have HOK := hide (fun (j : Nat) (h : j ≤ hs.length) => spanTo_ok (n := c.heat.length) h)
    have HTL := hide (fun (j : Nat) => turnedTo_le c.heat.length hs j)
    go_loopw [10, 11] (fun v10 v11 wr => ∃ j : Nat, j ≤ hs.length ∧ v11 = .int .i64 j ∧ v10 = .int .i64 (turnedTo c.heat.length hs j : Nat) ∧ Below w3.heap.size w4 wr ∧ OwnE 32 wr w3.heap.size w3.heap.size 2 (spanTo c.heat.length hs j).2) (fun _ v11 _ => hs.length - (intOf v11).toNat)
    case atStart => exact ⟨0, Nat.zero_le _, rfl, rfl, Below.refl _ _, HSO.out⟩
    case round =>
      obtain ⟨j, hj, rfl, rfl, hB, hO⟩ := hrel
      have hsz := hB.size
      by_cases hlt : j < hs.length
      · obtain ⟨hok1, lo, hi, hok2⟩ := HOK.out j (by omega)
        have hst := HST.out j hlt
        have htt := HTT.out j hlt
        have htl := HTL.out j
        rw [spanStep, hok1, hok2] at hst
        rw [hok2] at hO
        obtain ⟨ba, oa, rfl, hba, hca⟩ := HI.out.at_ hlt
        have q0 := (hB.cell (p := ⟨w.heap.size, 0, none⟩) (by show w.heap.size < _; omega)).trans p0
        have q1 := (hB.cell (p := ⟨w.heap.size, 1, none⟩) (by show w.heap.size < _; omega)).trans p1
        have q2 := (hB.cell (p := ⟨w.heap.size, 2, none⟩) (by show w.heap.size < _; omega)).trans p2
        have q3 := (hB.cell (p := ⟨w.heap.size, 3, none⟩) (by show w.heap.size < _; omega)).trans p3
        have q4 := (hB.cell (p := ⟨w.heap.size, 4, none⟩) (by show w.heap.size < _; omega)).trans p4
        have qa := (hB.cell (p := ⟨ba, oa + j, none⟩) hba).trans hca
        have z1 : w.heap.size < wr.heap.size := by omega
        have z2 : ba < wr.heap.size := by omega
        have hj0 : (0 : Int) ≤ (j : Int) := Int.natCast_nonneg _
        have hj1 : (j : Int) < (hs.length : Int) := by omega
        have HSU := hide hst
        have HTU := hide htt
        have HBR := hide hB
        have HO := hide hO
        have HCA := hide hca
        clear hok1 hok2 hst htt hca hB hO p0 p1 p2 p3 p4
        have hn6 : c.heat.length ≤ 1000000 := by omega
        generalize nth hs j = x at *
        generalize turnedTo c.heat.length hs j = T at *
        have hT0 : (0 : Int) ≤ (T : Int) := Int.natCast_nonneg _
        have hT1 : (T : Int) ≤ 1024 := by omega
        go_wp2_with fail
        refine wp_region_grow (by kernel_rfl) (by kernel_rfl) ?_
        have hgc := @grow_cell
        repeat (first | go_big_quiet_step (((go_at_call 39; exact Calls.grow_of (never_any c _ hn6)))) | quiet_step (((go_at_call 39; exact Calls.grow_of (never_any c _ hn6)))))
        refine wpQuiet_nil ?_
        rintro _ ⟨t, rfl⟩
        have hbt := grow_below (w := wr) (t := t)
        clear hgc q0 q1 q2 q3 q4
        have qa := (hbt.cell (p := ⟨ba, oa + j, none⟩) z2).trans qa
        have HOT := hide (HO.out.below hbt HO.out.lt.2)
        have HBT := hide (HBR.out.trans (hbt.mono (by omega)))
        have hzt := hbt.size
        clear hbt HO HBR
        generalize grow wr t = w5 at *
        cases hx : (x == (c.heat.length : Int) + 1) with
        | true =>
          have HX := hide (show x = (c.heat.length : Int) + 1 by simpa using hx)
          go_wp2_with fail
          go_roundw
          case rel => exact ⟨j + 1, by omega, by go_num, by rw [HTU.out, if_pos HX.out]; rfl, HBT.out, by rw [HSU.out, if_pos HX.out]; exact HOT.out⟩
          case measure => simp [intOf]; omega
        | false =>
          have HX := hide (show ¬ x = (c.heat.length : Int) + 1 by simpa using hx)
          have hs0 := HOT.out.cell (i := 0) (by omega)
          have hs1 := HOT.out.cell (i := 1) (by omega)
          have hf0 := HOT.out.frozen 0
          have hf1 := HOT.out.frozen 1
          rw [nth2_0] at hs0
          rw [nth2_1] at hs1
          have z3 : w3.heap.size < w5.heap.size := by omega
          cases hz : ((T : Int) == 0) with
          | true =>
            have HT := hide (show T = 0 by simpa using hz)
            go_wp2_with fail
            apply wp_one
            case h =>
              go_region
              all_goals first | exact ⟨rfl, rfl, rfl⟩ | trace_state
            case hq =>
            have HO6 : Hid (OwnE 32 ((w5.setCell ⟨w3.heap.size, 0, none⟩ (.int .i64 x)).setCell ⟨w3.heap.size, 1, none⟩ (.int .i64 x)).drew w3.heap.size w3.heap.size 2 [x, x]) := hide (OwnE.block ((HOT.out.set 0 x).set 1 x) rfl)
            have HB6 : Hid (Below w3.heap.size w4 ((w5.setCell ⟨w3.heap.size, 0, none⟩ (.int .i64 x)).setCell ⟨w3.heap.size, 1, none⟩ (.int .i64 x)).drew) := hide (((HBT.out.setCell (Nat.le_refl _) _).setCell (Nat.le_refl _) _).drew)
            clear hs0 hs1 hf0 hf1 HOT HBT qa
            generalize ((w5.setCell ⟨w3.heap.size, 0, none⟩ (.int .i64 x)).setCell ⟨w3.heap.size, 1, none⟩ (.int .i64 x)).drew = w6 at *
            have z5 : w3.heap.size < w6.heap.size := by have := HO6.out.lt.2; exact this
            have u0 : w6.cell? ⟨w3.heap.size, 0, none⟩ = some (.int .i64 x) := HO6.out.cell (i := 0) (by omega)
            have u1 : w6.cell? ⟨w3.heap.size, 1, none⟩ = some (.int .i64 x) := HO6.out.cell (i := 1) (by omega)
            have uf0 := HO6.out.frozen 0
            have uf1 := HO6.out.frozen 1
            have ua := (HB6.out.cell (p := ⟨ba, oa + j, none⟩) hba).trans HCA.out
            have z6 : ba < w6.heap.size := by omega
            have HJ := hide (fun W => join_any ⟨x, x⟩ x W)
            go_wp2_with fail
            go_still_tail 5, (by kernel_rfl)
            change wpList _ _ _ _ _ w6.drew
            have HO7 : Hid (OwnE 32 w6.drew w3.heap.size w3.heap.size 2 [x, x]) := hide (HO6.out.block rfl)
            have HB7 := hide (HB6.out.drew)
            have z7 : w3.heap.size < w6.drew.heap.size := z5
            clear u0 u1 uf0 uf1 ua HO6 HB6
            generalize w6.drew = w7 at *
            go_wp2_with (go_at_call 76
                         refine (HJ.out _).mono ?_
                         rintro e w8 ⟨rfl, hb8⟩
                         have ho8 := HO7.out.below hb8 z7
                         have v0 := ho8.cell (i := 0) (by omega)
                         have v1 := ho8.cell (i := 1) (by omega)
                         rw [nth2_0] at v0
                         rw [nth2_1] at v1
                         have vf0 := ho8.frozen 0
                         have vf1 := ho8.frozen 1
                         have HO8 := hide ho8
                         have HB8 := hide (HB7.out.trans (hb8.mono (by omega)))
                         have z8 : w3.heap.size < w8.heap.size := by have := hb8.size; omega
                         clear ho8 hb8)
            go_roundw
            case rel =>
              refine ⟨j + 1, by omega, by go_num, by rw [HTU.out, if_neg HX.out]; go_num, (HB8.out.setCell (Nat.le_refl _) _).setCell (Nat.le_refl _) _, ?_⟩
              rw [HSU.out, if_neg HX.out, spanUp, decide_eq_true HT.out, if_pos rfl]
              show OwnE _ _ _ _ _ [min x x, max x x]
              rw [Int.min_self, Int.max_self]
              exact (HO8.out.set 0 x).set 1 x
            case measure => simp [intOf]; omega
          | false =>
            have HT := hide (show ¬ T = 0 by simpa using hz)
            obtain ⟨w6, rfl⟩ : ∃ w6 : World, w6 = w5 := ⟨_, rfl⟩
            have HO6 := HOT
            have HB6 := HBT
            clear hs0 hs1 hf0 hf1 HOT HBT qa
            have z5 : w3.heap.size < w6.heap.size := by have := HO6.out.lt.2; exact this
            have u0 : w6.cell? ⟨w3.heap.size, 0, none⟩ = some (.int .i64 lo) := HO6.out.cell (i := 0) (by omega)
            have u1 : w6.cell? ⟨w3.heap.size, 1, none⟩ = some (.int .i64 hi) := HO6.out.cell (i := 1) (by omega)
            have uf0 := HO6.out.frozen 0
            have uf1 := HO6.out.frozen 1
            have ua := (HB6.out.cell (p := ⟨ba, oa + j, none⟩) hba).trans HCA.out
            have z6 : ba < w6.heap.size := by omega
            have HJ := hide (fun W => join_any ⟨lo, hi⟩ x W)
            go_wp2_with fail
            go_still_tail 5, (by kernel_rfl)
            change wpList _ _ _ _ _ w6.drew
            have HO7 : Hid (OwnE 32 w6.drew w3.heap.size w3.heap.size 2 [lo, hi]) := hide (HO6.out.block rfl)
            have HB7 := hide (HB6.out.drew)
            have z7 : w3.heap.size < w6.drew.heap.size := z5
            clear u0 u1 uf0 uf1 ua HO6 HB6
            generalize w6.drew = w7 at *
            go_wp2_with (go_at_call 76
                         refine (HJ.out _).mono ?_
                         rintro e w8 ⟨rfl, hb8⟩
                         have ho8 := HO7.out.below hb8 z7
                         have v0 := ho8.cell (i := 0) (by omega)
                         have v1 := ho8.cell (i := 1) (by omega)
                         rw [nth2_0] at v0
                         rw [nth2_1] at v1
                         have vf0 := ho8.frozen 0
                         have vf1 := ho8.frozen 1
                         have HO8 := hide ho8
                         have HB8 := hide (HB7.out.trans (hb8.mono (by omega)))
                         have z8 : w3.heap.size < w8.heap.size := by have := hb8.size; omega
                         clear ho8 hb8)
            go_roundw
            case rel =>
              refine ⟨j + 1, by omega, by go_num, by rw [HTU.out, if_neg HX.out]; go_num, (HB8.out.setCell (Nat.le_refl _) _).setCell (Nat.le_refl _) _, ?_⟩
              rw [HSU.out, if_neg HX.out, spanUp, decide_eq_false HT.out, if_neg (by simp)]
              exact (HO8.out.set 0 (min lo x)).set 1 (max hi x)
            case measure => simp [intOf]; omega
      · have hjj : j = hs.length := by omega
        obtain ⟨hok1, lo, hi, hok2⟩ := HOK.out j (by omega)
        rw [hok2] at hO
        have hR := HR.out
        have e1 : hs.foldl (spanStep c.heat.length) (true, [0, 0]) = spanTo c.heat.length hs j := by rw [spanTo, hjj, List.take_length]
        have e2 : (turnedH c.heat.length hs).length = turnedTo c.heat.length hs j := by rw [turnedTo, hjj, List.take_length]
        rw [e1, e2, hok2] at hR
        have HR2 := hide hR
        have htl := HTL.out j
        have t0 := hO.cell (i := 0) (by omega)
        have t1 := hO.cell (i := 1) (by omega)
        rw [nth2_0] at t0
        rw [nth2_1] at t1
        have z5 : w3.heap.size < wr.heap.size := by omega
        have ho := HSP3.out.below hB (by have := HSP3.out.lt.2; omega)
        have HO := hide ho
        have HBR := hide hB
        have hzs := ho.lt.2
        clear hok1 hok2 e1 e2 hR hO ho hB
        generalize turnedTo c.heat.length hs j = T at *
        have hT0 : (0 : Int) ≤ (T : Int) := Int.natCast_nonneg _
        have hl0 : (0 : Int) ≤ (hs.length : Int) := Int.natCast_nonneg _
        go_wp2_with fail
        refine wp_region_still_tail 5 (by kernel_rfl) (by kernel_rfl) ?_
        simp only [List.take_succ_cons, List.take_zero, List.drop_succ_cons, List.drop_zero]
        repeat still_step
        still_call ((settled_any _ _ _).mono (fun _ _ ⟨h1, h2⟩ => ⟨h1, h2.symm⟩))
        refine wpStill_nil ?_
        change wpList _ _ _ _ _ wr.drew
        have HOD : Hid (OwnE 32 wr.drew w.heap.size (w.heap.size + 1) 2 [0, 0]) := hide (HO.out.block rfl)
        have HBD := hide (HBA.out.trans (HBR.out.drew.mono (by omega)))
        have zzd : w.heap.size + 1 < wr.drew.heap.size := HO.out.lt.2
        clear t0 t1
        generalize wr.drew = w7 at *
        have r0 := HOD.out.cell (i := 0) (by omega)
        have r1 := HOD.out.cell (i := 1) (by omega)
        have rf0 := HOD.out.frozen 0
        have rf1 := HOD.out.frozen 1
        rw [nth2_0] at r0
        rw [nth2_1] at r1
        generalize settledM (T : Nat) (hs.length : Nat) = how at *
        go_wp2_with fail
        refine bodyPost_ret (v := .tuple #[.agg #[.int .i64 lo, .int .i64 hi], .int .i64 how, .int .i64 0]) ?_ rfl ?_
        · simp [results, Try.results19, go_sem, r0, r1, rf0, rf1]
        · rw [HR2.out]
          exact ⟨rfl, (HBD.out.setCell (by simp) _).setCell (by simp) _⟩

end Go.Proofs.Ytbkknliggnhpcaa
