/- The contract of claim's some: is there a truth. -/
import Derived.Test.YtllmahcanipcpaaNE
import Derived.OwnWalkIn
import Derived.TacticsInMore
set_option linter.unusedVariables false
set_option linter.unusedSimpArgs false
namespace Go.Proofs.Ytllmahcanipcpaa
open Go.RowKit
attribute [local go_sem ↓] Go.wp_at_zero Go.wp_at_succ
attribute [local go_sem] Oper.semAt_some

theorem Keep.fin {bm : Nat} {w w1 w2 : World} (h : Keep (fun k => k = bm ∨ w.heap.size ≤ k) w w1) (h' : Keep (fun k => w.heap.size ≤ k) w1 w2) : Keep (fun k => k = bm) w w2 :=
  (h.trans (h'.mono (S' := fun k => k = bm ∨ w.heap.size ≤ k) (fun k _ h => .inr h))).mono (fun k hk h => h.elim id (fun h => by omega))
def someB (f : File) (but : Nat) : Bool := !(truthsB f but).isEmpty
set_option maxHeartbeats 4000000 in
set_option maxRecDepth 100000 in
theorem some_any {w : World} {L b bm : Nat} {f : File} {a : FA} {but : Nat} {V : List Int → Int} (h : LookG w L b bm f a but V) (hv : Valid f) (hbut : but < 32) :
    Calls Try.prog 63 #[.pointer (some ⟨b, 0, none⟩)] w fun e w' => e = .returned (.bool (someB f but)) ∧ Keep (fun k => k = bm) w w' ∧ Known w' bm V := by
  have HH := hide h
  have HV := hide hv
  have hb0 := h.hb
  have hm0 := h.hm
  have hL0 := h.hL
  have hA : Below w.heap.size w (w.alloc (.cells #[.bool false] 4)) := (Below.refl _ _).alloc (Nat.le_refl _) _
  have bk : Blk (w.alloc (.cells #[.bool false] 4)) w.heap.size 4 #[.bool false] := Blk.made
  clear h hv
  refine (callsIn_wide (n := 0)).1 (callsIn_of_wp_marks Try.func63 rfl trivial ?_ rfl)
  refine (wpIn_wide (n := 0)).2 ?_
  simp only [Try.ntmps63, List.size_toArray, List.length_cons, List.length_nil, Nat.reduceAdd, Nat.reduceSub, Array.replicate_succ, Array.replicate_zero, List.push_toArray, List.append_toArray, List.nil_append, List.cons_append]
  go_wp2_with fail
  generalize (w.alloc (.cells #[.bool false] 4)) = w0 at *
  refine truths_any.mono ?_
  rintro e w1 ⟨p1, rfl, hp1, hp1', e1, hB1⟩
  have hBw := hA.trans (hB1.mono hA.size)
  have hL1 := HH.out.still hBw
  have bk1 := bk.next hB1
  have hz0 := bk.lt
  have hz1 := hB1.size
  have HBW := hide hBw
  have HL1 := hide hL1
  clear hA hBw hL1 hB1 bk
  go_wp2_with fail
  refine wp_range rfl (enters_of Try.func77 (by kernel_rfl) rfl) rfl (truths_iter (C := fun k => k = w.heap.size) HV.out hbut (fun k hk => .inr ⟨⟨by omega, by omega⟩, by omega, by omega⟩) HL1.out e1) (fun k h => by omega) (fun k h => by omega)
    (fun V V' h hk => h.keep hk (by omega)) (fun pre W => pre = [] ∧ Blk W w.heap.size 4 #[.bool false]) (fun cd _ W => cd = .ret ∧ Blk W w.heap.size 4 #[.bool true]) (fun _ _ _ h hk hm => ⟨h.1, h.2.keep hk (by omega)⟩) (fun _ _ _ _ h hk => ⟨h.1, h.2.keep hk (by omega)⟩) HL1.out.k ⟨rfl, bk1⟩ ?body ?done ?stop
  case body =>
    rintro l pre x W1 hl hx ⟨hi, bi⟩ hm hz
    refine wpIn_skip ⟨Keep.refl _ _, hm, fun W3 hk3 => wpIn_block (wpIn_seq ?_)⟩
    have b3 := bi.keep hk3 (by omega)
    have r0 := b3.at_ 0
    have g0 := b3.free 0
    simp only [List.getElem?_toArray, List.getElem?_cons_zero] at r0
    apply wpIn_one
    case h =>
      gi_wp2
      first | exact ⟨rfl, rfl, rfl⟩ | exact ⟨rfl, rfl⟩ | exact rfl
    case hq =>
    refine wpIn_ret ?_
    have hk4 : Keep (fun k => k = w.heap.size) W3 (W3.setCell ⟨w.heap.size, 0, none⟩ (.bool true)) := Keep.setCell _ _ _ _ rfl
    exact ⟨hk4, (hm.keep hk3 (by omega)).keep hk4 (by omega), rfl, b3.store 0 _⟩
  case done =>
    rintro D W' hD ⟨hT, bi⟩ hm hk hd
    have HS := hide (show someB f but = false by rw [someB, hT]; rfl)
    have HMS : Hid (MarksOk (w.heap.size + 1) [{ target := .collected D, args := #[] }] W') := ⟨⟨D, by omega, rfl, hd, by simp⟩, trivial⟩
    have HKK : Hid (Keep (fun k => k = bm ∨ w.heap.size ≤ k) w W') := (Keep.of_below' HBW.out _).trans (hk.mono (fun k _ h => h.imp id (fun h => by omega)))
    have HKN := hide hm
    have r0 := bi.at_ 0
    have g0 := bi.free 0
    simp only [List.getElem?_toArray, List.getElem?_cons_zero] at r0
    have hz' := bi.lt
    have HBI := hide bi
    clear hk hT hd hm bi
    go_wp2_with fail
    have hk4 : Keep (fun k => k = w.heap.size) W' (W'.setCell ⟨w.heap.size, 0, none⟩ (.bool false)) := Keep.setCell _ _ _ _ rfl
    have b4 := HBI.out.store 0 (.bool false)
    refine leaves_marks (B := w.heap.size + 1) ((HMS.out.keep hk4 (by omega))) (fun w' hkw' => ?_)
    have r4 := (b4.keep hkw' (by omega)).at_ 0
    refine ⟨.bool false, by simp [results, Try.results63, go_sem, r4], by rw [HS.out], ?_, ?_⟩
    · exact (HKK.out.trans (hk4.mono (fun k _ h => .inr (by omega)))).fin (hkw'.mono (fun k _ h => by omega))
    · exact ((HKN.out.keep hk4 (by omega))).keep hkw' (by have := (HKN.out.keep hk4 (by omega)).lt; omega)
  case stop =>
    rintro D cd q W' hD hq0 hqp ⟨rfl, bi⟩ hm hk hd
    have hne : someB f but = true := by
      obtain ⟨r, hr⟩ := hqp
      rw [someB, ← hr]
      cases q with
      | nil => exact absurd rfl hq0
      | cons a q => rfl
    have HS := hide hne
    have HMS : Hid (MarksOk (w.heap.size + 1) [{ target := .collected D, args := #[] }] W') := ⟨⟨D, by omega, rfl, hd, by simp⟩, trivial⟩
    have HKK : Hid (Keep (fun k => k = bm ∨ w.heap.size ≤ k) w W') := (Keep.of_below' HBW.out _).trans (hk.mono (fun k _ h => h.imp id (fun h => by omega)))
    have HKN := hide hm
    have r0 := bi.at_ 0
    simp only [List.getElem?_toArray, List.getElem?_cons_zero] at r0
    have HBI := hide bi
    refine wpIn_ret ?_
    go_wp2_with fail
    refine leaves_marks (B := w.heap.size + 1) HMS.out (fun w' hkw' => ?_)
    have r4 := (HBI.out.keep hkw' (by omega)).at_ 0
    refine ⟨.bool true, by simp [results, Try.results63, go_sem, r4], by rw [HS.out], ?_, ?_⟩
    · exact HKK.out.fin (hkw'.mono (fun k _ h => by omega))
    · exact HKN.out.keep hkw' (by omega)
end Go.Proofs.Ytllmahcanipcpaa
