/- Contracts of the reference's Settles, Sum and told. -/
import Derived.Test.YtllmahcanipcpaaGreatSH
import Derived.OwnWalkIn
import Derived.TacticsInMore
import Derived.Deep.DeepCutAuto
set_option linter.unusedVariables false
set_option linter.unusedSimpArgs false
namespace Go.Proofs.YtllmahcanipcpaaGreat
open Go.RowKit
attribute [local go_sem ↓] Go.wp_at_zero Go.wp_at_succ
attribute [local go_sem] Oper.semAt_some

def settlesTo (f : File) (p : List Int) (l : Int) (k : Nat) : Bool := (List.range k).any fun i => (nth f.claims i).lot == l && paidB f p i
theorem settlesTo_succ (f : File) (p : List Int) (l : Int) (k : Nat) : settlesTo f p l (k + 1) = (settlesTo f p l k || ((nth f.claims k).lot == l && paidB f p k)) := by simp [settlesTo, List.range_succ]
set_option maxHeartbeats 2000000 in
set_option maxRecDepth 100000 in
theorem settles7_any {f : File} {fa : FA} {w : World} {A : Option Addr} {N c : Nat} {p : List Int} (h : FileV w w.heap.size f fa) (hv : Fair f) (hp : IntsS w w.heap.size A N c p) (hP : Pl f p) (l : Int) :
    Calls Tryz.prog 30 #[fileVal f fa, .int .i64 l, .slice A N c] w fun e w' => e = .returned (.bool (settlesB f p l)) ∧ Below w.heap.size w w' := by
  obtain ⟨B1, B2, B3, B4, B5, d1, d2, d3, d4, d5, R, K⟩ := fa
  have HBX := hide (BoxF.made h)
  have HB0 : Hid (Below w.heap.size w (w.alloc (.cells (fileCells f ⟨B1, B2, B3, B4, B5, d1, d2, d3, d4, d5, R, K⟩) 28))) := hide ((Below.refl _ _).alloc (Nat.le_refl _) _)
  have HP0 := hide (hp.next HB0.out)
  have HPL := hide hP
  have HV := hide hv
  have hm5 := h.m5
  have hm3 := h.m3
  unfold maxLen at hm5 hm3
  dsimp only at hm5 hm3
  clear h hp hP hv
  have HS := hide (settlesTo_succ f p l)
  have HSB := hide (show settlesB f p l = settlesTo f p l f.claims.length from rfl)
  have HS0 := hide (show settlesTo f p l 0 = false from rfl)
  go_enter Tryz.func30, Tryz.ntmps30
  go_upto_region 1 with (fail)
  generalize (w.alloc (.cells (fileCells f ⟨B1, B2, B3, B4, B5, d1, d2, d3, d4, d5, R, K⟩) 28)) = w0 at *
  go_wp2_with fail
  go_loopw [7, 8] (fun v7 v8 wr => ∃ k : Nat, k ≤ f.claims.length ∧ v8 = .int .i64 k ∧ v7 = .bool (settlesTo f p l k) ∧ Below w0.heap.size w0 wr) (fun _ v8 _ => f.claims.length - (intOf v8).toNat)
  case atStart => exact ⟨0, Nat.zero_le _, rfl, by rw [HS0.out], Below.refl _ _⟩
  case round =>
    obtain ⟨k, hk, rfl, rfl, hB⟩ := hrel
    have hk0 : (0 : Int) ≤ (k : Int) := Int.natCast_nonneg _
    have HBr := hide (HBX.out.next hB)
    have HPr := hide (HP0.out.next hB)
    obtain ⟨hz, e1, e2, e3, e4, e5⟩ := HBr.out.cells
    dsimp only at e1 e2 e3 e4 e5
    have hzr := hB.size
    by_cases hlt : k < f.claims.length
    · have hk1 : (k : Int) < (f.claims.length : Int) := by omega
      obtain ⟨bc, oc, hA5, hbc, y0, y1, y2⟩ := HBr.out.v.claims.claims hlt
      dsimp only at hA5
      subst hA5
      have HB := hide hB
      clear hB
      have HSU := hide (HS.out k)
      cases hm : settlesTo f p l k with
      | true =>
        have HX := hide (show settlesTo f p l (k + 1) = true by rw [HSU.out, hm]; rfl)
        go_wp2_with fail
        go_roundw
        case rel => exact ⟨k + 1, by omega, by go_num, by rw [HX.out], HB.out⟩
        case measure => simp [intOf]; omega
      | false =>
        cases hl : ((nth f.claims k).lot == l) with
        | false =>
          have HX := hide (show settlesTo f p l (k + 1) = false by rw [HSU.out, hm, hl]; rfl)
          go_wp2_with fail
          go_roundw
          case rel => exact ⟨k + 1, by omega, by go_num, by rw [HX.out], HB.out⟩
          case measure => simp [intOf]; omega
        | true =>
          have HX := hide (show settlesTo f p l (k + 1) = paidB f p k by rw [HSU.out, hm, hl]; rfl)
          have hpc := paid7_any HBr.out.v HV.out HPr.out HPL.out hlt
          generalize paidB f p k = pb at *
          go_wp2_with (go_at_call 34; refine hpc.mono ?_; rintro e w2 ⟨rfl, hb2⟩)
          go_roundw
          case rel => exact ⟨k + 1, by omega, by go_num, by rw [HX.out], HB.out.trans (hb2.mono hzr)⟩
          case measure => simp [intOf]; omega
    · have hkk : k = f.claims.length := by omega
      have HX := hide (show settlesTo f p l k = settlesB f p l by rw [HSB.out, hkk])
      clear hkk
      go_wp2_with fail
      go_ret
      exact ⟨by rw [HX.out]; rfl, HB0.out.trans (hB.mono HB0.out.size)⟩
theorem sumTo_bd {f : File} (hv : Valid f) (p : List Int) (party : Int) : ∀ k, k ≤ f.claims.length → 0 ≤ sumTo f p party k ∧ sumTo f p party k ≤ 99 * k
  | 0, _ => by simp [sumTo]
  | k + 1, h => by
    have ih := sumTo_bd hv p party k (by omega)
    have hc := hv.claim k (by omega)
    have hl := hv.lot (nth f.claims k).lot.toNat (by omega)
    rw [sumTo]
    split <;> omega
set_option maxHeartbeats 2000000 in
set_option maxRecDepth 100000 in
theorem sum7_any {f : File} {fa : FA} {w : World} {A : Option Addr} {N c : Nat} {p : List Int} (h : FileV w w.heap.size f fa) (hv : Valid f) (hp : IntsS w w.heap.size A N c p) (hP : Pl f p) (l : Int) :
    Calls Tryz.prog 32 #[fileVal f fa, .int .i64 l, .slice A N c] w fun e w' => e = .returned (.int .i64 (sumM f p l)) ∧ Below w.heap.size w w' := by
  obtain ⟨B1, B2, B3, B4, B5, d1, d2, d3, d4, d5, R, K⟩ := fa
  have HBX := hide (BoxF.made h)
  have HB0 : Hid (Below w.heap.size w (w.alloc (.cells (fileCells f ⟨B1, B2, B3, B4, B5, d1, d2, d3, d4, d5, R, K⟩) 28))) := hide ((Below.refl _ _).alloc (Nat.le_refl _) _)
  have HP0 := hide (hp.next HB0.out)
  have HPL := hide hP
  have HV := hide hv
  have hm5 := h.m5
  have hm3 := h.m3
  unfold maxLen at hm5 hm3
  dsimp only at hm5 hm3
  clear h hp hP hv
  have HS := hide (fun k => show sumTo f p l (k + 1) = sumTo f p l k + (if (nth f.claims k).against == l && paidB f p k then (nth f.lots (nth f.claims k).lot.toNat).worth else 0) from rfl)
  have HSB := hide (show sumM f p l = sumTo f p l f.claims.length from rfl)
  have HS0 := hide (show sumTo f p l 0 = 0 from rfl)
  have HBD := hide (sumTo_bd HV.out p l)
  have hcl5 := HV.out.claims
  go_enter Tryz.func32, Tryz.ntmps32
  go_upto_region 1 with (fail)
  generalize (w.alloc (.cells (fileCells f ⟨B1, B2, B3, B4, B5, d1, d2, d3, d4, d5, R, K⟩) 28)) = w0 at *
  go_wp2_with fail
  go_loopw [7, 8] (fun v7 v8 wr => ∃ k : Nat, k ≤ f.claims.length ∧ v8 = .int .i64 k ∧ v7 = .int .i64 (sumTo f p l k) ∧ Below w0.heap.size w0 wr) (fun _ v8 _ => f.claims.length - (intOf v8).toNat)
  case atStart => exact ⟨0, Nat.zero_le _, rfl, by rw [HS0.out], Below.refl _ _⟩
  case round =>
    obtain ⟨k, hk, rfl, rfl, hB⟩ := hrel
    have hk0 : (0 : Int) ≤ (k : Int) := Int.natCast_nonneg _
    have HBr := hide (HBX.out.next hB)
    have HPr := hide (HP0.out.next hB)
    obtain ⟨hz, e1, e2, e3, e4, e5⟩ := HBr.out.cells
    dsimp only at e1 e2 e3 e4 e5
    have hzr := hB.size
    by_cases hlt : k < f.claims.length
    · have hk1 : (k : Int) < (f.claims.length : Int) := by omega
      obtain ⟨bc, oc, hA5, hbc, y0, y1, y2⟩ := HBr.out.v.claims.claims hlt
      dsimp only at hA5
      subst hA5
      have HB := hide hB
      clear hB
      have HSU := hide (HS.out k)
      have HC := hide (HV.out.claim k hlt)
      have hb1 := (HBD.out k (by omega)).1
      have hb2 := (HBD.out k (by omega)).2
      cases hl : ((nth f.claims k).against == l) with
      | false =>
        have HX := hide (show sumTo f p l (k + 1) = sumTo f p l k by rw [HSU.out, hl]; simp)
        generalize sumTo f p l k = sk at *
        go_wp2_with fail
        go_roundw
        case rel => exact ⟨k + 1, by omega, by go_num, by rw [HX.out], HB.out⟩
        case measure => simp [intOf]; omega
      | true =>
        have hpc := paid7_any HBr.out.v HV.out.fair HPr.out HPL.out hlt
        cases hpb : paidB f p k with
        | false =>
          have HX := hide (show sumTo f p l (k + 1) = sumTo f p l k by rw [HSU.out, hl, hpb]; simp)
          rw [hpb] at hpc
          clear hpb
          generalize sumTo f p l k = sk at *
          go_wp2_with (go_at_call 34; refine hpc.mono ?_; rintro e w2 ⟨rfl, hb2⟩)
          go_roundw
          case rel => exact ⟨k + 1, by omega, by go_num, by rw [HX.out], HB.out.trans (hb2.mono hzr)⟩
          case measure => simp [intOf]; omega
        | true =>
          have HX := hide (show sumTo f p l (k + 1) = sumTo f p l k + (nth f.lots (nth f.claims k).lot.toNat).worth by rw [HSU.out, hl, hpb]; rfl)
          rw [hpb] at hpc
          clear hpb
          have HLW := hide (HV.out.lot (nth f.claims k).lot.toNat (by have := HC.out; omega))
          generalize sumTo f p l k = sk at *
          go_upto_region 6 with (go_at_call 34; refine hpc.mono ?_; rintro e w2 ⟨rfl, hb3⟩)
          have HB2 := hide (HB.out.trans (hb3.mono hzr))
          have HBs := hide (HBr.out.next hb3)
          clear e1 e2 e3 e4 e5 y0 y1 y2 hbc hz hb3 hpc
          obtain ⟨hz, e1, e2, e3, e4, e5⟩ := HBs.out.cells
          dsimp only at e1 e2 e3 e4 e5
          obtain ⟨b2, o2, hA6, hbc, y0, y1, y2⟩ := HBs.out.v.claims.claims hlt
          dsimp only at hA6
          injection hA6 with hA6
          injection hA6 with hA6 hA7 hA8
          subst hA6 hA7
          clear hA8
          generalize nth f.claims k = ck at *
          obtain ⟨kl, ka, kd⟩ := ck
          dsimp only at *
          have hkl0 := HC.out.1
          have hkl1 := HC.out.2.1
          obtain ⟨kl, rfl⟩ : ∃ j : Nat, kl = j := ⟨kl.toNat, by omega⟩
          rw [Int.toNat_natCast] at HLW HX
          have hkl : kl < f.lots.length := by omega
          obtain ⟨bl, ol, hA3, hbl, l0, l1, l2, l3⟩ := HBs.out.v.lots.lots hkl
          dsimp only at hA3
          subst hA3
          have hwo := HLW.out.2.2.2
          generalize (nth f.lots kl).worth = wo at *
          have hwr : IntKind.i64.wrap (sk + wo) = sk + wo := IntWalk.i64_in _ (by omega)
          go_quiet (fail)
          go_wp2_with fail
          go_roundw
          case rel => exact ⟨k + 1, by omega, by go_num, by rw [HX.out], below_drewN HB2.out _⟩
          case measure => simp [intOf]; omega
    · have hkk : k = f.claims.length := by omega
      have HX := hide (show sumTo f p l k = sumM f p l by rw [HSB.out, hkk])
      clear hkk
      go_wp2_with fail
      go_ret
      exact ⟨by rw [HX.out]; rfl, HB0.out.trans (hB.mono HB0.out.size)⟩
end Go.Proofs.YtllmahcanipcpaaGreat
