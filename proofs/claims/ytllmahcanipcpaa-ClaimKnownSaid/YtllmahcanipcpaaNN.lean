/- The contracts of claim's Pays and Held. -/
import Derived.Test.YtllmahcanipcpaaNM
import Derived.OwnWalkIn
import Derived.TacticsInMore
import Derived.Deep.DeepCutAuto
set_option linter.unusedVariables false
set_option linter.unusedSimpArgs false
namespace Go.Proofs.Ytllmahcanipcpaa
open Go.RowKit
attribute [local go_sem ↓] Go.wp_at_zero Go.wp_at_succ
attribute [local go_sem] Oper.semAt_some

def told3 (T : List (List Int)) (q : List Int → Bool) : Int := if T.all q then 1 else if T.any q then 0 else 2
def payV (f : File) (n : Int) : Int × Int := if enterE f n f.claims.length 0 = 0 then (told3 (truthsB f 0) (fun p => paidB f p n.toNat), 0) else (0, enterE f n f.claims.length 0)
def heldL (f : File) : List Nat := (List.range f.claims.length).filter fun i => (truthsB f 0).any (fun p => paidB f p i) && !(truthsB f 0).all (fun p => paidB f p i)
def heldV (f : File) : List Nat × Int := if enterE f 0 1 0 = 0 then (heldL f, 0) else ([], enterE f 0 1 0)
theorem some_ne {f : File} {but : Nat} (h : someB f but = true) : truthsB f but ≠ [] := by
  intro e; rw [someB, e] at h; cases h
def sureN (f : File) (T : List (List Int)) : Nat := bitsN (fun i => T.all fun p => paidB f p i) f.claims.length
theorem sureI_eq {f : File} {T : List (List Int)} (h : T ≠ []) : sureI f T = (sureN f T : Nat) := if_neg h
theorem sureN_test (f : File) (T : List (List Int)) {i : Nat} (hi : i < f.claims.length) : (sureN f T).testBit i = T.all fun p => paidB f p i := by rw [sureN, bitsN_test, decide_eq_true hi, Bool.true_and]
theorem mayN_test (f : File) (T : List (List Int)) {i : Nat} (hi : i < f.claims.length) : (mayN f T).testBit i = T.any fun p => paidB f p i := by rw [mayN, bitsN_test, decide_eq_true hi, Bool.true_and]
set_option maxRecDepth 100000 in
theorem bits_andNot {m k : Nat} (hm : m < 32) (hk : k < 32) : bits BinOp.andNot .i64 (m : Int) (k : Int) = ((m ^^^ (m &&& k) : Nat) : Int) := by
  have h : ∀ m : Fin 32, ∀ j : Fin 32, bits BinOp.andNot .i64 ((m : Nat) : Int) ((j : Nat) : Int) = (((m : Nat) ^^^ ((m : Nat) &&& (j : Nat)) : Nat) : Int) := of_decide_eq_true (by kernel_rfl)
  exact h ⟨m, hm⟩ ⟨k, hk⟩
theorem bitsN_diff (q r : Nat → Bool) (n : Nat) : bitsN q n ^^^ (bitsN q n &&& bitsN r n) = bitsN (fun i => q i && !r i) n := bitsN_ext fun i => by
  rw [Nat.testBit_xor, Nat.testBit_and, bitsN_test, bitsN_test]; cases decide (i < n) <;> cases q i <;> cases r i <;> rfl
set_option maxHeartbeats 4000000 in
set_option maxRecDepth 100000 in
theorem pays_any {w : World} {f : File} {a : FA} (h : FileV w w.heap.size f a) (n : Int) :
    Calls Try.prog 16 #[fileVal f a, .int .i64 n] w fun e w' => e = .returned (.tuple #[.int .i64 (payV f n).1, .int .i64 (payV f n).2]) ∧ Below w.heap.size w w' := by
  have hB0 : Below w.heap.size w (w.alloc (.cells (fileCells f a) 28)) := (Below.refl _ _).alloc (Nat.le_refl _) _
  have HC0 := hide (h.next hB0)
  have HB0 := hide hB0
  clear h hB0
  go_enter Try.func16, Try.ntmps16
  go_wp2_with fail
  generalize (w.alloc (.cells (fileCells f a) 28)) = w0 at *
  refine (enter_any HC0.out n _ 0 (by have := HC0.out.m5; unfold maxLen at this; omega)).mono ?_
  rintro e w1 (⟨hE, hv, b, bm, rfl, hbb, hbm, hL, hB1⟩ | ⟨hE, rfl, hB1⟩)
  · obtain ⟨hl0, hl1, -, hso⟩ := enter_in hE
    have hne := some_ne hso
    have HX := hide (show payV f n = (told3 (truthsB f 0) (fun p => paidB f p n.toNat), 0) by rw [payV, if_pos hE])
    obtain ⟨k, rfl⟩ : ∃ k : Nat, n = (k : Int) := ⟨n.toNat, by omega⟩
    rw [Int.toNat_natCast] at HX
    have hkl : k < f.claims.length := by omega
    have hcl := hv.claims
    have h5 : k < 5 := by omega
    have hb1 := bits_and (m := sureN f (truthsB f 0)) (bitsN_32 _ hcl) h5
    have hb2 := bits_and (m := mayN f (truthsB f 0)) (bitsN_32 _ hcl) h5
    rw [sureN_test _ _ hkl] at hb1
    rw [mayN_test _ _ hkl] at hb2
    have hk0 : (0 : Int) ≤ (k : Int) := Int.natCast_nonneg _
    have HSE := hide (sureI_eq (f := f) hne)
    generalize sureN f (truthsB f 0) = sn at *
    have HST := hide (fsettled_any (but := 0) hL hv (by omega))
    generalize mayN f (truthsB f 0) = mn at *
    rw [HSE.out] at HST
    have HB1 := hide (HB0.out.trans (hB1.mono HB0.out.size))
    have hz : b < w1.heap.size := hL.hb
    clear hE hB1 hso hne hL HSE
    unfold told3 at HX
    cases ha : (truthsB f 0).all (fun p => paidB f p k) with
    | true =>
      rw [ha] at hb1 HX
      simp only [if_true] at hb1 HX
      go_wp2_with (go_at_call 58; refine HST.out.mono ?_; rintro e w2 ⟨rfl, hk2, -⟩)
      go_ret2
      exact ⟨by rw [HX.out]; rfl, HB1.out.trans (hk2.below (fun k h => by have := HB0.out.size; omega) HB1.out.size)⟩
    | false =>
      rw [ha] at hb1 HX
      cases hy : (truthsB f 0).any (fun p => paidB f p k) with
      | true =>
        rw [hy] at hb2 HX
        simp only [Bool.false_eq_true, if_false, if_true] at hb1 hb2 HX
        go_wp2_with (go_at_call 58; refine HST.out.mono ?_; rintro e w2 ⟨rfl, hk2, -⟩)
        go_ret2
        exact ⟨by rw [HX.out]; rfl, HB1.out.trans (hk2.below (fun k h => by have := HB0.out.size; omega) HB1.out.size)⟩
      | false =>
        rw [hy] at hb2 HX
        simp only [Bool.false_eq_true, if_false] at hb1 hb2 HX
        go_wp2_with (go_at_call 58; refine HST.out.mono ?_; rintro e w2 ⟨rfl, hk2, -⟩)
        go_ret2
        exact ⟨by rw [HX.out]; rfl, HB1.out.trans (hk2.below (fun k h => by have := HB0.out.size; omega) HB1.out.size)⟩
  · have HX := hide (show payV f n = (0, enterE f n f.claims.length 0) by rw [payV, if_neg hE])
    generalize hEE : enterE f n f.claims.length 0 = E at *
    have hnb : (E != 0) = true := by simpa using hE
    have HB1 := hide (HB0.out.trans (hB1.mono HB0.out.size))
    clear hEE hE hB1
    go_wp2_with fail
    go_ret2
    exact ⟨by rw [HX.out]; rfl, HB1.out⟩
set_option maxHeartbeats 4000000 in
set_option maxRecDepth 100000 in
theorem held_any {w : World} {f : File} {a : FA} (h : FileV w w.heap.size f a) :
    Calls Try.prog 17 #[fileVal f a] w fun e w' => ∃ A cp, e = .returned (.tuple #[.slice A (heldV f).1.length cp, .int .i64 (heldV f).2]) ∧ IntsS w' w'.heap.size A (heldV f).1.length cp (natInts (heldV f).1) ∧ Below w.heap.size w w' := by
  have hB0 : Below w.heap.size w (w.alloc (.cells (fileCells f a) 28)) := (Below.refl _ _).alloc (Nat.le_refl _) _
  have q1 : Blk (w.alloc (.cells (fileCells f a) 28)) w.heap.size 28 (fileCells f a) := Blk.made
  have HC0 := hide (h.next hB0)
  have HB0 := hide hB0
  have HQ1 := hide q1
  clear h hB0 q1
  go_enter Try.func17, Try.ntmps17
  go_wp2_with fail
  generalize (w.alloc (.cells (fileCells f a) 28)) = w0 at *
  have hz0 := HQ1.out.lt
  refine (enter_any HC0.out 0 1 0 (by omega)).mono ?_
  rintro e w1 (⟨hE, hv, b, bm, rfl, hbb, hbm, hL, hB1⟩ | ⟨hE, rfl, hB1⟩)
  · obtain ⟨hl0, hl1, -, hso⟩ := enter_in hE
    have hne := some_ne hso
    have HX := hide (show heldV f = (heldL f, 0) by rw [heldV, if_pos hE])
    have hcl := hv.claims
    have hb1 := bits_andNot (m := mayN f (truthsB f 0)) (k := sureN f (truthsB f 0)) (bitsN_32 _ hcl) (bitsN_32 _ hcl)
    have HLI := hide (show listN (mayN f (truthsB f 0) ^^^ (mayN f (truthsB f 0) &&& sureN f (truthsB f 0))) f.claims.length = heldL f by rw [mayN, sureN, bitsN_diff, listN_bits]; rfl)
    have HLT : Hid (mayN f (truthsB f 0) ^^^ (mayN f (truthsB f 0) &&& sureN f (truthsB f 0)) < 32) := by show _ < 32; rw [mayN, sureN, bitsN_diff]; exact bitsN_32 _ hcl
    have HSE := hide (sureI_eq (f := f) hne)
    generalize sureN f (truthsB f 0) = sn at *
    have HST := hide (fsettled_any (but := 0) hL hv (by omega))
    generalize mayN f (truthsB f 0) = mn at *
    rw [HSE.out] at HST
    generalize mn ^^^ (mn &&& sn) = dn at *
    have hB01 := HB0.out.trans (hB1.mono HB0.out.size)
    have HR1 := hide (HQ1.out.next hB1)
    have hz1 := hB1.size
    have hz : b < w1.heap.size := hL.hb
    have hbmz := hL.hm
    have HB1 := hide hB01
    clear hE hB1 hso hne hL HSE hB01
    go_upto_region 5 with (go_at_call 58; refine HST.out.mono ?_; rintro e w2 ⟨rfl, hk2, -⟩)
    have n1 := HR1.out.keep hk2 (by omega)
    have p4 := n1.at_ 4
    simp only [fileCells, List.getElem?_toArray, List.getElem?_cons_zero, List.getElem?_cons_succ] at p4
    have HB2 := hide (HB1.out.trans (hk2.below (fun k h => by omega) HB1.out.size))
    have hz2 := n1.lt
    clear hk2 n1
    go_wp2_with (go_at_call 51; refine (list_any HLT.out hcl _).mono ?_; rintro e w5 ⟨gl, cl, rfl, hi, hgl, hb5⟩)
    go_ret2
    exact ⟨_, cl, by rw [HX.out, ← HLI.out]; rfl, by rw [HX.out, ← HLI.out]; exact hi, HB2.out.trans (hb5.mono HB2.out.size)⟩
  · have HX := hide (show heldV f = ([], enterE f 0 1 0) by rw [heldV, if_neg hE])
    generalize hEE : enterE f 0 1 0 = E at *
    have hnb : (E != 0) = true := by simpa using hE
    have HB1 := hide (HB0.out.trans (hB1.mono HB0.out.size))
    clear hEE hE hB1
    go_wp2_with fail
    go_ret2
    exact ⟨none, 0, by rw [HX.out]; rfl, by rw [HX.out]; exact IntsS.nil_, HB1.out⟩
end Go.Proofs.Ytllmahcanipcpaa
