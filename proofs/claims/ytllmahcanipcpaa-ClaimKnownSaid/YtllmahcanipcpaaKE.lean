/- Contracts of Check's function literals of package claim: of a party, of a day, of a claim. -/
import Derived.Test.YtllmahcanipcpaaKD
import Derived.Deep.DeepCutAuto
set_option linter.unusedVariables false
set_option linter.unusedSimpArgs false
namespace Go.Proofs.Ytllmahcanipcpaa
open Go.RowKit

theorem row_pre {w : World} {B n k : Nat} {A : Option Addr} {f : Nat → Value} (h : Row w B A n f) (hk : k ≤ n) : Row w B A k f := fun h0 => by
  obtain ⟨b, o, e, hb, hc⟩ := h (by omega)
  exact ⟨b, o, e, hb, fun j hj => hc j (by omega)⟩
set_option maxHeartbeats 1000000 in
set_option maxRecDepth 100000 in
theorem party_any {g i : Nat} {f : File} {a : FA} {w : World} (h : BoxF w g f a) (hi : i < f.parties.length) :
    Calls Try.prog 28 #[.int .i64 (i : Int), .string (nth f.parties i), .pointer (some ⟨g, 0, none⟩)] w fun e w' => e = .returned (.int .i64 (partyE f i (nth f.parties i))) ∧ Below w.heap.size w w' := by
  obtain ⟨z, x0, _, _, _, _⟩ := h.cells
  have hm := h.v.m1
  have hmm := hm
  unfold maxLen at hmm
  obtain ⟨b, off, hA, hbb, _⟩ := h.v.parties.strs hi
  have HR := hide h.v.parties
  have HPE := hide (show partyE f i (nth f.parties i) = if nameB (nth f.parties i) then (if (f.parties.take i).any (eqS (nth f.parties i)) then 5 else 0) else 6 from rfl)
  have HN := hide (name_any (nth f.parties i))
  have hi0 : (0 : Int) ≤ (i : Int) := Int.natCast_nonneg _
  have hi1 : (i : Int) ≤ (f.parties.length : Int) := by omega
  have hi2 : (i : Int) ≤ (a.c1 : Int) := by omega
  have hi3 : i ≤ a.c1 := by omega
  rw [hA] at x0 HR
  clear h hA
  generalize (nth f.parties i) = v at *
  generalize a.c1 = c1 at *
  cases hb : nameB v
  all_goals have HB := hide hb
  all_goals rw [hb] at HPE
  all_goals clear hb
  · go_enter Try.func28, Try.ntmps28
    go_wp2_with (go_at_call 29; refine (HN.out _).mono ?_; rintro e w1 ⟨rfl, hb⟩; rw [HB.out])
    go_ret
    exact ⟨ret_i (by rw [HPE.out]; rfl), hb⟩
  · cases hc : (f.parties.take i).any (eqS v)
    all_goals have HC := hide hc
    all_goals rw [hc] at HPE
    all_goals clear hc
    all_goals
      go_enter Try.func28, Try.ntmps28
      go_wp2_with (first
        | (go_at_call 29; refine (HN.out _).mono ?_; rintro e w1 ⟨rfl, hb⟩; rw [HB.out]; have y0 := (hb.cell (p := ⟨g, 0, none⟩) z).trans x0)
        | (go_at_call 30; refine (containsS_any (row_pre (HR.out.below hb) (Nat.le_of_lt hi)) (Nat.le_of_lt hi) (by omega) v).mono ?_; rintro e w2 ⟨rfl, rfl⟩; rw [HC.out]))
      go_ret
      exact ⟨ret_i (by rw [HPE.out]; rfl), hb⟩
set_option maxHeartbeats 400000 in
theorem day_any (i d : Int) (w : World) : Calls Try.prog 32 #[.int .i64 i, .int .i64 d] w fun e w' => e = .returned (.int .i64 (dayE 0 d)) ∧ Below w.heap.size w w' := by
  have HD := hide (show dayE 0 d = if offP 0 60 d then 7 else 0 from rfl)
  cases h1 : offP 0 60 d
  all_goals have H := hide h1
  all_goals rw [h1] at HD
  all_goals clear h1
  all_goals
    go_enter Try.func32, Try.ntmps32
    go_wp2_with (go_at_call 33; refine (off_1 (by simp) _ _ _).mono ?_; rintro e w1 ⟨rfl, hb⟩; rw [H.out])
    go_ret
    exact ⟨ret_i (by rw [HD.out]; rfl), hb⟩
set_option maxHeartbeats 2000000 in
set_option maxRecDepth 100000 in
theorem claimE_any {g : Nat} {f : File} {a : FA} {w : World} (h : BoxF w g f a) (i : Nat) (c : Claim) :
    Calls Try.prog 43 #[.int .i64 (i : Int), .agg #[.int .i64 c.lot, .int .i64 c.against, .int .i64 c.day], .pointer (some ⟨g, 0, none⟩)] w fun e w' => e = .returned (.int .i64 (claimE f i c)) ∧ Below w.heap.size w w' := by
  obtain ⟨z, x0, _, x2, _, _⟩ := h.cells
  have hm1 := h.v.m1
  have hm3 := h.v.m3
  unfold maxLen at hm1 hm3
  have HPE := hide (show claimE f i c = if offP 0 ((f.lots.length : Int) - 1) c.lot || offP 0 ((f.parties.length : Int) - 1) c.against then 4 else if offP 0 60 c.day then 7 else 0 from rfl)
  have hA : Below w.heap.size w (w.alloc (.cells #[.int .i64 c.lot, .int .i64 c.against, .int .i64 c.day] 52)) := (Below.refl _ _).alloc (Nat.le_refl _) _
  have bk : Blk (w.alloc (.cells #[.int .i64 c.lot, .int .i64 c.against, .int .i64 c.day] 52)) w.heap.size 52 #[.int .i64 c.lot, .int .i64 c.against, .int .i64 c.day] := Blk.made
  have HX := hide (h.next hA)
  have HB := hide hA
  have HK := hide bk
  have hw1 : IntKind.i64.wrap ((f.lots.length : Int) - 1) = (f.lots.length : Int) - 1 := IntWalk.i64_in _ (by omega)
  have hw2 : IntKind.i64.wrap ((f.parties.length : Int) - 1) = (f.parties.length : Int) - 1 := IntWalk.i64_in _ (by omega)
  clear h hA bk z x0 x2
  generalize hq1 : offP 0 ((f.lots.length : Int) - 1) c.lot = q1 at *
  generalize hq2 : offP 0 ((f.parties.length : Int) - 1) c.against = q2 at *
  generalize hq3 : offP 0 60 c.day = q3 at *
  have Q1 := hide hq1
  have Q2 := hide hq2
  have Q3 := hide hq3
  clear hq1 hq2 hq3
  go_enter Try.func43, Try.ntmps43
  go_upto_region 1 with (fail)
  generalize (w.alloc (.cells #[.int .i64 c.lot, .int .i64 c.against, .int .i64 c.day] 52)) = v0 at *
  obtain ⟨z, x0, x1, x2, x3, x4⟩ := HX.out.cells
  have k0 : v0.cell? ⟨w.heap.size, 0, none⟩ = some (.int .i64 c.lot) := HK.out.at_ 0
  have k1 : v0.cell? ⟨w.heap.size, 1, none⟩ = some (.int .i64 c.against) := HK.out.at_ 1
  have k2 : v0.cell? ⟨w.heap.size, 2, none⟩ = some (.int .i64 c.day) := HK.out.at_ 2
  have zk := HK.out.lt
  cases q1
  · cases q2
    · cases q3
      all_goals
        go_upto_region 3 with (first
          | (go_at_call 33; (with_reducible refine (off_1 (by simp) 0 ((f.lots.length : Int) - 1) c.lot).mono ?_); rintro e v1 ⟨rfl, hb⟩; rw [Q1.out]; have HB := hide (HB.out.trans (hb.mono HB.out.size)); have HX := hide (HX.out.next hb); have HK := hide (HK.out.next hb); clear hb z x0 x1 x2 x3 x4 k0 k1 k2 zk; obtain ⟨z, x0, x1, x2, x3, x4⟩ := HX.out.cells; have k1 : v1.cell? ⟨w.heap.size, 1, none⟩ = some (.int .i64 c.against) := HK.out.at_ 1)
          | (go_at_call 33; (with_reducible refine (off_1 (by simp) 0 ((f.parties.length : Int) - 1) c.against).mono ?_); rintro e v2 ⟨rfl, hb⟩; rw [Q2.out]; have HB := hide (HB.out.trans (hb.mono HB.out.size)); have HK := hide (HK.out.next hb); clear hb z x0 x1 x2 x3 x4 k1))
        have k2 : v2.cell? ⟨w.heap.size, 2, none⟩ = some (.int .i64 c.day) := HK.out.at_ 2
        go_wp2_with (go_at_call 33; refine (off_1 (by simp) _ _ _).mono ?_; rintro e v3 ⟨rfl, hb⟩; rw [Q3.out])
        go_ret
        exact ⟨ret_i (by rw [HPE.out]; rfl), HB.out.trans (hb.mono HB.out.size)⟩
    · go_wp2_with (first
        | (go_at_call 33; (with_reducible refine (off_1 (by simp) 0 ((f.lots.length : Int) - 1) c.lot).mono ?_); rintro e v1 ⟨rfl, hb⟩; rw [Q1.out]; have HB := hide (HB.out.trans (hb.mono HB.out.size)); have HX := hide (HX.out.next hb); have HK := hide (HK.out.next hb); clear hb z x0 x1 x2 x3 x4 k0 k1 k2 zk; obtain ⟨z, x0, x1, x2, x3, x4⟩ := HX.out.cells; have k1 : v1.cell? ⟨w.heap.size, 1, none⟩ = some (.int .i64 c.against) := HK.out.at_ 1)
        | (go_at_call 33; (with_reducible refine (off_1 (by simp) 0 ((f.parties.length : Int) - 1) c.against).mono ?_); rintro e v2 ⟨rfl, hb⟩; rw [Q2.out]; have HB := hide (HB.out.trans (hb.mono HB.out.size)); clear hb))
      go_ret
      exact ⟨ret_i (by rw [HPE.out]; rfl), HB.out⟩
  · go_wp2_with (go_at_call 33; refine (off_1 (by simp) _ _ _).mono ?_; rintro e v1 ⟨rfl, hb⟩; rw [Q1.out])
    go_ret
    exact ⟨ret_i (by rw [HPE.out]; rfl), HB.out.trans (hb.mono HB.out.size)⟩
end Go.Proofs.Ytllmahcanipcpaa
