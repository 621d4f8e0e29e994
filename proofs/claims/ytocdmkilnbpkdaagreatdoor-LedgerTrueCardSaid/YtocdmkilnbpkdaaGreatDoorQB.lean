/- LedgerRound of the law. -/
import Derived.Test.YtocdmkilnbpkdaaGreatDoorQA
import Derived.OwnWalkIn
import Derived.TacticsInMore
import Derived.Deep.DeepCutAuto
set_option linter.unusedVariables false
set_option linter.unusedSimpArgs false
namespace Go.Proofs.YtocdmkilnbpkdaaGreatDoor
open Go.RowKit
attribute [local go_sem] Oper.semAt_some

theorem decLen : ((List.range 100).all fun n => decide ((Lib.decDigits n).length ≤ 2)) = true := by kernel_rfl
theorem decLen_le {n : Int} (h0 : 0 ≤ n) (h : n ≤ 99) : (decB n).data.toList.length ≤ 2 := by
 have := List.all_eq_true.1 decLen n.toNat (List.mem_range.2 (by omega))
 simpa [decB] using this
theorem flat_len {α : Type} {f : α → List UInt8} {m : Nat} : ∀ {l : List α}, (∀ x ∈ l, (f x).length ≤ m) → (l.flatMap f).length ≤ l.length * m
 | [], _ => by simp
 | x :: l, h => by
  have h1 := h x (by simp)
  have h2 := flat_len (l := l) (fun y hy => h y (by simp [hy]))
  rw [List.flatMap_cons, List.length_append, List.length_cons, Nat.succ_mul]
  omega
theorem line_len (a b c d : ByteArray) : (lineL [a, b, c, d]).length = a.data.toList.length + b.data.toList.length + c.data.toList.length + d.data.toList.length + 4 := by
 simp [lineL, Lib.join]; omega
theorem name_len {s : ByteArray} (h : nameB s = true) : s.data.toList.length ≤ 16 := by
 rw [nameB, Bool.and_eq_true, decide_eq_true_eq] at h
 exact h.1.2
theorem textL_len {b : Book} (h : (checkM b).2.2 = 0) : (textL b).length ≤ 500 := by
 have V := valid_of h
 have hn : ∀ i : Int, 0 ≤ i → i < b.steps.length → (nameAt b i).data.toList.length ≤ 16 := fun i h0 h1 => name_len (V.name i.toNat (by omega))
 rw [textL, wordsOf, List.flatMap_append, List.length_append]
 have h1 : ((b.steps.map (stepWs b)).flatMap lineL).length ≤ (b.steps.map (stepWs b)).length * 42 := flat_len (fun ws hw => by
  obtain ⟨s, hs, rfl⟩ := List.mem_map.1 hw
  obtain ⟨i, hi, rfl⟩ := List.mem_iff_getElem.1 hs
  rw [stepWs, line_len]
  have a1 := name_len (V.name i hi)
  have a2 := V.loss i hi
  rw [nth_eq hi] at a1 a2
  have a3 := decLen_le a2.1 (by omega)
  have a4 : (fromB b b.steps[i].from_).data.toList.length ≤ 16 := by
   rw [fromB]
   split
   · simp [wDash]
   · rename_i hne
     rcases Nat.eq_zero_or_pos i with h0 | h0
     · subst h0
       have := V.first
       rw [nth_eq hi] at this
       exact absurd this hne
     · have := V.from_ i h0 hi
       rw [nth_eq hi] at this
       exact hn _ this.1 (by omega)
  have a5 : wStep.data.toList.length = 4 := rfl
  omega)
 have h2 : ((b.tallies.map (tallyWs b)).flatMap lineL).length ≤ (b.tallies.map (tallyWs b)).length * 30 := flat_len (fun ws hw => by
  obtain ⟨s, hs, rfl⟩ := List.mem_map.1 hw
  obtain ⟨i, hi, rfl⟩ := List.mem_iff_getElem.1 hs
  rw [tallyWs, line_len]
  obtain ⟨a1, a2, a3⟩ := V.tally i hi
  rw [nth_eq hi] at a1 a2 a3
  have a4 := hn _ a1.1 a1.2
  have a5 := decLen_le a2.1 (by omega)
  have a6 := decLen_le a3.1 (by omega)
  have a7 : wTally.data.toList.length = 5 := rfl
  omega)
 rw [List.length_map] at h1 h2
 have := V.steps
 have := V.tallies
 omega
theorem stepB_self (s : Step) : stepB s s = true := by simp [stepB, eqS]
theorem tallyB_self (s : Tally) : tallyB s s = true := by simp [tallyB]
theorem equalB_self (b : Book) : equalB b b = true := by
 simp [equalB, stepsTo, talliesTo, stepB_self, tallyB_self]
theorem BookV.nil_ {w : World} {B : Nat} : BookV w B ⟨[], []⟩ ⟨none, none, 0, 0⟩ :=
 ⟨fun hm => absurd hm (by simp), fun hm => absurd hm (by simp), fun j hj => absurd hj (Nat.not_lt_zero _), by simp [maxLen], by simp [maxLen]⟩
set_option maxRecDepth 100000 in
theorem valid12_any {b : Book} {a : BA} {w : World} (h : BookV w w.heap.size b a) :
 Calls Tryz.prog 41 #[bookVal b a] w fun e w' => e = .returned (.bool (decide ((checkM b).2.2 = 0))) ∧ Below w.heap.size w w' := by
 have HX := hide (BoxB.made h)
 have HB := hide (show Below w.heap.size w (w.alloc (.cells (bookCells b a) 25)) from (Below.refl _ _).alloc (Nat.le_refl _) _)
 clear h
 go_enter Tryz.func41, Tryz.ntmps41
 go_upto_region 1 with (fail)
 generalize (w.alloc (.cells (bookCells b a) 25)) = v0 at *
 obtain ⟨z, x0, x1⟩ := HX.out.cells
 have hc := check12_any HX.out.v
 generalize hq0 : (checkM b).2.2 = ce at *
 have HQ0 := hide hq0
 clear hq0
 by_cases hq : ce = 0
 · subst hq
   go_wp2_with (go_at_call 18; refine hc.mono ?_; rintro e v1 ⟨rfl, hb⟩)
   go_ret
   exact ⟨by rw [HQ0.out]; rfl, HB.out.trans (hb.mono HB.out.size)⟩
 · have hd : (ce == 0) = false := by simp [hq]
   have HQ := hide hq
   clear hq
   go_wp2_with (go_at_call 18; refine hc.mono ?_; rintro e v1 ⟨rfl, hb⟩)
   go_ret
   exact ⟨by rw [HQ0.out, decide_eq_false HQ.out]; rfl, HB.out.trans (hb.mono HB.out.size)⟩
theorem validF {b : Book} {a : BA} {w : World} {ce : Int} (h : BookV w w.heap.size b a) (hv : ¬ ce = 0 ∧ (checkM b).2.2 = ce) :
 Calls Tryz.prog 41 #[bookVal b a] w fun e w' => e = .returned (.bool false) ∧ Below w.heap.size w w' :=
 (valid12_any h).mono fun _ _ h => by rw [decide_eq_false (by rw [hv.2]; exact hv.1)] at h; exact h
set_option maxHeartbeats 4000000 in
set_option maxRecDepth 100000 in
theorem ledgerRound_any {m : Int} {b : Book} {a : BA} {w : World} (hm : w.cell? ⟨0, 0, none⟩ = some (.int .i64 m)) (hw0 : 0 < w.heap.size) (h : BookV w w.heap.size b a) (tx : ByteArray) :
 Calls Tryz.prog 14 #[bookVal b a, .string tx] w fun e w' => e = .returned (.bool true) ∧ Below w.heap.size w w' := by
 obtain ⟨tl, rfl⟩ : ∃ l : List UInt8, tx = ⟨l.toArray⟩ := ⟨tx.data.toList, by simp⟩
 have hb0 : Below w.heap.size w (w.alloc (.cells (bookCells b a) 25)) := (Below.refl _ _).alloc (Nat.le_refl _) _
 have HX := hide (BoxB.made h)
 have HG := hide ((hb0.cell (p := ⟨0, 0, none⟩) hw0).trans hm)
 have HB := hide hb0
 have hz0 := Nat.lt_of_lt_of_le hw0 hb0.size
 clear h hm hb0
 go_enter Tryz.func14, Tryz.ntmps14
 go_upto_region 1 with (fail)
 generalize w.alloc (.cells (bookCells b a) 25) = w0 at *
 obtain ⟨gz, x0, x1⟩ := HX.out.cells
 by_cases hv : (checkM b).2.2 = 0
 · have HVB := hide (show decide ((checkM b).2.2 = 0) = true by rw [hv]; rfl)
   have hln := textL_len hv
   have HR := hide (show readR (textL b) = (b, 0) by rw [readR, if_neg (by omega), readV_iff.2 ⟨hv, rfl⟩])
   have HW := hide (show writeV b = (⟨(textL b).toArray⟩, 0) by rw [writeV, if_pos hv])
   generalize textL b = tb at *
   have hl1 : decide ((tb.length : Int) > 500) = false := by simp; omega
   have hl2 : ¬ (tb.length : Int) > 500 := by omega
   clear hv
   go_upto_region 2 with (go_at_call 33; refine (writeX HX.out.v HW.out).mono ?_; rintro e w1 ⟨rfl, hb⟩)
   clear gz x0 x1
   replace HG := hide ((hb.cell (p := ⟨0, 0, none⟩) hz0).trans HG.out)
   replace HB := hide (HB.out.trans (hb.mono HB.out.size))
   replace HX := hide (HX.out.next hb)
   replace hz0 := Nat.lt_of_lt_of_le hz0 hb.size
   clear hb
   obtain ⟨gz, x0, x1⟩ := HX.out.cells
   go_upto_region 3 with (go_at_call 41; refine (valid12_any HX.out.v).mono ?_; rintro e w2 ⟨rfl, hb⟩; rw [HVB.out])
   clear gz x0 x1
   replace HG := hide ((hb.cell (p := ⟨0, 0, none⟩) hz0).trans HG.out)
   replace HB := hide (HB.out.trans (hb.mono HB.out.size))
   replace HX := hide (HX.out.next hb)
   replace hz0 := Nat.lt_of_lt_of_le hz0 hb.size
   clear hb
   go_upto_region 4 with (go_at_call 35; refine (readX HG.out hz0 HR.out).mono ?_; rintro e w3 ⟨a2, rfl, hV, hb⟩)
   replace HG := hide ((hb.cell (p := ⟨0, 0, none⟩) hz0).trans HG.out)
   replace HB := hide (HB.out.trans (hb.mono HB.out.size))
   replace HX := hide (HX.out.next hb)
   replace hz0 := Nat.lt_of_lt_of_le hz0 hb.size
   clear hb
   have hb : Below w3.heap.size w3 (w3.alloc (.cells (bookCells b a2) 25)) := (Below.refl _ _).alloc (Nat.le_refl _) _
   have HY := hide (BoxB.made hV)
   clear hV
   replace HG := hide ((hb.cell (p := ⟨0, 0, none⟩) hz0).trans HG.out)
   replace HB := hide (HB.out.trans (hb.mono HB.out.size))
   replace HX := hide (HX.out.next hb)
   replace hz0 := Nat.lt_of_lt_of_le hz0 hb.size
   clear hb
   generalize w3.alloc (.cells (bookCells b a2) 25) = w4 at *
   generalize w3.heap.size = gy at *
   obtain ⟨gz, x0, x1⟩ := HX.out.cells
   obtain ⟨gz2, z0, z1⟩ := HY.out.cells
   go_upto_region 8 with (go_at_call 37; refine (equal_any HX.out.v HY.out.v).mono ?_; rintro e w5 ⟨rfl, hb⟩; rw [equalB_self])
   clear gz x0 x1 gz2 z0 z1 HY
   replace HG := hide ((hb.cell (p := ⟨0, 0, none⟩) hz0).trans HG.out)
   replace HB := hide (HB.out.trans (hb.mono HB.out.size))
   replace HX := hide (HX.out.next hb)
   replace hz0 := Nat.lt_of_lt_of_le hz0 hb.size
   clear hb
   cases hq : readV tl with
   | some c =>
    obtain ⟨hc1, hc2⟩ := readV_iff.1 hq
    have HR := hide (show readR tl = (c, 0) by rw [readR, if_neg (by rw [← hc2]; have := textL_len hc1; omega), hq])
    have HC1 := hide (show decide ((checkM c).2.2 = 0) = true by rw [hc1]; rfl)
    have HW := hide (show writeV c = (⟨tl.toArray⟩, 0) by rw [writeV, if_pos hc1, hc2])
    clear hc1 hc2 hq
    go_upto_region 9 with (go_at_call 35; refine (readX HG.out hz0 HR.out).mono ?_; rintro e y1 ⟨ac, rfl, hV, hb⟩)
    replace HG := hide ((hb.cell (p := ⟨0, 0, none⟩) hz0).trans HG.out)
    replace HB := hide (HB.out.trans (hb.mono HB.out.size))
    replace HX := hide (HX.out.next hb)
    replace hz0 := Nat.lt_of_lt_of_le hz0 hb.size
    clear hb
    have hb : Below y1.heap.size y1 (y1.alloc (.cells (bookCells c ac) 25)) := (Below.refl _ _).alloc (Nat.le_refl _) _
    have HY := hide (BoxB.made hV)
    clear hV
    replace HG := hide ((hb.cell (p := ⟨0, 0, none⟩) hz0).trans HG.out)
    replace HB := hide (HB.out.trans (hb.mono HB.out.size))
    replace HX := hide (HX.out.next hb)
    replace hz0 := Nat.lt_of_lt_of_le hz0 hb.size
    clear hb
    generalize y1.alloc (.cells (bookCells c ac) 25) = y2 at *
    generalize y1.heap.size = gy at *
    obtain ⟨gz2, z0, z1⟩ := HY.out.cells
    go_upto_region 12 with (go_at_call 33; refine (writeX HY.out.v HW.out).mono ?_; rintro e y3 ⟨rfl, hb⟩)
    clear z0 z1 gz2
    replace HG := hide ((hb.cell (p := ⟨0, 0, none⟩) hz0).trans HG.out)
    replace HB := hide (HB.out.trans (hb.mono HB.out.size))
    replace HX := hide (HX.out.next hb)
    replace HY := hide (HY.out.next hb)
    replace hz0 := Nat.lt_of_lt_of_le hz0 hb.size
    clear hb
    obtain ⟨gz2, z0, z1⟩ := HY.out.cells
    go_wp2_with (first | (go_at_call 41; refine (valid12_any HY.out.v).mono ?_; rintro e y4 ⟨rfl, hb⟩; rw [HC1.out]; replace HG := hide ((hb.cell (p := ⟨0, 0, none⟩) hz0).trans HG.out); replace HB := hide (HB.out.trans (hb.mono HB.out.size)); replace hz0 := Nat.lt_of_lt_of_le hz0 hb.size; clear hb) | (go_at_call 23; refine (awake12_any HG.out hz0).mono ?_; rintro e y5 ⟨rfl, hb⟩))
    go_ret
    exact ⟨rfl, HB.out.trans (hb.mono HB.out.size)⟩
   | none =>
    obtain ⟨er, hne, hr⟩ : ∃ er : Int, er ≠ 0 ∧ readR tl = (⟨[], []⟩, er) := by
     by_cases h5 : 500 < tl.length
     · exact ⟨3, by decide, by rw [readR, if_pos h5]⟩
     · exact ⟨6, by decide, readR_none h5 hq⟩
    have HR := hide hr
    have hne2 : (er != 0) = true := by simp [hne]
    clear hr hq hne
    go_upto_region 9 with (go_at_call 35; refine (readX HG.out hz0 HR.out).mono ?_; rintro e y1 ⟨ac, rfl, hV, hb⟩)
    replace HG := hide ((hb.cell (p := ⟨0, 0, none⟩) hz0).trans HG.out)
    replace HB := hide (HB.out.trans (hb.mono HB.out.size))
    replace HX := hide (HX.out.next hb)
    replace hz0 := Nat.lt_of_lt_of_le hz0 hb.size
    clear hb
    have hb : Below y1.heap.size y1 (y1.alloc (.cells (bookCells ⟨[], []⟩ ac) 25)) := (Below.refl _ _).alloc (Nat.le_refl _) _
    have HY := hide (BoxB.made hV)
    clear hV
    replace HG := hide ((hb.cell (p := ⟨0, 0, none⟩) hz0).trans HG.out)
    replace HB := hide (HB.out.trans (hb.mono HB.out.size))
    replace HX := hide (HX.out.next hb)
    replace hz0 := Nat.lt_of_lt_of_le hz0 hb.size
    clear hb
    generalize y1.alloc (.cells (bookCells ⟨[], []⟩ ac) 25) = y2 at *
    generalize y1.heap.size = gy at *
    obtain ⟨gz2, z0, z1⟩ := HY.out.cells
    go_wp2_with (first | (go_at_call 37; refine (equal_any (b := ⟨[], []⟩) (c := ⟨[], []⟩) (d := ⟨none, none, 0, 0⟩) HY.out.v BookV.nil_).mono ?_; rintro e y4 ⟨rfl, hb⟩; rw [show equalB ⟨[], []⟩ ⟨[], []⟩ = true from rfl]; replace HG := hide ((hb.cell (p := ⟨0, 0, none⟩) hz0).trans HG.out); replace HB := hide (HB.out.trans (hb.mono HB.out.size)); replace hz0 := Nat.lt_of_lt_of_le hz0 hb.size; clear hb) | (go_at_call 23; refine (awake12_any HG.out hz0).mono ?_; rintro e y5 ⟨rfl, hb⟩))
    go_ret
    exact ⟨rfl, HB.out.trans (hb.mono HB.out.size)⟩
 · have HW := hide (show writeV b = (⟨#[]⟩, (checkM b).2.2) by rw [writeV, if_neg hv])
   generalize hce0 : (checkM b).2.2 = ce at *
   have HVF := hide (show ¬ ce = 0 ∧ (checkM b).2.2 = ce from ⟨hv, hce0⟩)
   clear hce0
   have hce : (ce == 0) = false := by simp [hv]
   clear hv
   go_upto_region 2 with (go_at_call 33; refine (writeX HX.out.v HW.out).mono ?_; rintro e w1 ⟨rfl, hb⟩)
   clear gz x0 x1
   replace HG := hide ((hb.cell (p := ⟨0, 0, none⟩) hz0).trans HG.out)
   replace HB := hide (HB.out.trans (hb.mono HB.out.size))
   replace HX := hide (HX.out.next hb)
   replace hz0 := Nat.lt_of_lt_of_le hz0 hb.size
   clear hb
   obtain ⟨gz, x0, x1⟩ := HX.out.cells
   go_upto_region 8 with (go_at_call 41; refine (validF HX.out.v HVF.out).mono ?_; rintro e w2 ⟨rfl, hb⟩)
   clear gz x0 x1
   replace HG := hide ((hb.cell (p := ⟨0, 0, none⟩) hz0).trans HG.out)
   replace HB := hide (HB.out.trans (hb.mono HB.out.size))
   replace HX := hide (HX.out.next hb)
   replace hz0 := Nat.lt_of_lt_of_le hz0 hb.size
   clear hb
   cases hq : readV tl with
   | some c =>
    obtain ⟨hc1, hc2⟩ := readV_iff.1 hq
    have HR := hide (show readR tl = (c, 0) by rw [readR, if_neg (by rw [← hc2]; have := textL_len hc1; omega), hq])
    have HC1 := hide (show decide ((checkM c).2.2 = 0) = true by rw [hc1]; rfl)
    have HW := hide (show writeV c = (⟨tl.toArray⟩, 0) by rw [writeV, if_pos hc1, hc2])
    clear hc1 hc2 hq
    go_upto_region 9 with (go_at_call 35; refine (readX HG.out hz0 HR.out).mono ?_; rintro e y1 ⟨ac, rfl, hV, hb⟩)
    replace HG := hide ((hb.cell (p := ⟨0, 0, none⟩) hz0).trans HG.out)
    replace HB := hide (HB.out.trans (hb.mono HB.out.size))
    replace HX := hide (HX.out.next hb)
    replace hz0 := Nat.lt_of_lt_of_le hz0 hb.size
    clear hb
    have hb : Below y1.heap.size y1 (y1.alloc (.cells (bookCells c ac) 25)) := (Below.refl _ _).alloc (Nat.le_refl _) _
    have HY := hide (BoxB.made hV)
    clear hV
    replace HG := hide ((hb.cell (p := ⟨0, 0, none⟩) hz0).trans HG.out)
    replace HB := hide (HB.out.trans (hb.mono HB.out.size))
    replace HX := hide (HX.out.next hb)
    replace hz0 := Nat.lt_of_lt_of_le hz0 hb.size
    clear hb
    generalize y1.alloc (.cells (bookCells c ac) 25) = y2 at *
    generalize y1.heap.size = gy at *
    obtain ⟨gz2, z0, z1⟩ := HY.out.cells
    go_upto_region 12 with (go_at_call 33; refine (writeX HY.out.v HW.out).mono ?_; rintro e y3 ⟨rfl, hb⟩)
    clear z0 z1 gz2
    replace HG := hide ((hb.cell (p := ⟨0, 0, none⟩) hz0).trans HG.out)
    replace HB := hide (HB.out.trans (hb.mono HB.out.size))
    replace HX := hide (HX.out.next hb)
    replace HY := hide (HY.out.next hb)
    replace hz0 := Nat.lt_of_lt_of_le hz0 hb.size
    clear hb
    obtain ⟨gz2, z0, z1⟩ := HY.out.cells
    go_wp2_with (first | (go_at_call 41; refine (valid12_any HY.out.v).mono ?_; rintro e y4 ⟨rfl, hb⟩; rw [HC1.out]; replace HG := hide ((hb.cell (p := ⟨0, 0, none⟩) hz0).trans HG.out); replace HB := hide (HB.out.trans (hb.mono HB.out.size)); replace hz0 := Nat.lt_of_lt_of_le hz0 hb.size; clear hb) | (go_at_call 23; refine (awake12_any HG.out hz0).mono ?_; rintro e y5 ⟨rfl, hb⟩))
    go_ret
    exact ⟨rfl, HB.out.trans (hb.mono HB.out.size)⟩
   | none =>
    obtain ⟨er, hne, hr⟩ : ∃ er : Int, er ≠ 0 ∧ readR tl = (⟨[], []⟩, er) := by
     by_cases h5 : 500 < tl.length
     · exact ⟨3, by decide, by rw [readR, if_pos h5]⟩
     · exact ⟨6, by decide, readR_none h5 hq⟩
    have HR := hide hr
    have hne2 : (er != 0) = true := by simp [hne]
    clear hr hq hne
    go_upto_region 9 with (go_at_call 35; refine (readX HG.out hz0 HR.out).mono ?_; rintro e y1 ⟨ac, rfl, hV, hb⟩)
    replace HG := hide ((hb.cell (p := ⟨0, 0, none⟩) hz0).trans HG.out)
    replace HB := hide (HB.out.trans (hb.mono HB.out.size))
    replace HX := hide (HX.out.next hb)
    replace hz0 := Nat.lt_of_lt_of_le hz0 hb.size
    clear hb
    have hb : Below y1.heap.size y1 (y1.alloc (.cells (bookCells ⟨[], []⟩ ac) 25)) := (Below.refl _ _).alloc (Nat.le_refl _) _
    have HY := hide (BoxB.made hV)
    clear hV
    replace HG := hide ((hb.cell (p := ⟨0, 0, none⟩) hz0).trans HG.out)
    replace HB := hide (HB.out.trans (hb.mono HB.out.size))
    replace HX := hide (HX.out.next hb)
    replace hz0 := Nat.lt_of_lt_of_le hz0 hb.size
    clear hb
    generalize y1.alloc (.cells (bookCells ⟨[], []⟩ ac) 25) = y2 at *
    generalize y1.heap.size = gy at *
    obtain ⟨gz2, z0, z1⟩ := HY.out.cells
    go_wp2_with (first | (go_at_call 37; refine (equal_any (b := ⟨[], []⟩) (c := ⟨[], []⟩) (d := ⟨none, none, 0, 0⟩) HY.out.v BookV.nil_).mono ?_; rintro e y4 ⟨rfl, hb⟩; rw [show equalB ⟨[], []⟩ ⟨[], []⟩ = true from rfl]; replace HG := hide ((hb.cell (p := ⟨0, 0, none⟩) hz0).trans HG.out); replace HB := hide (HB.out.trans (hb.mono HB.out.size)); replace hz0 := Nat.lt_of_lt_of_le hz0 hb.size; clear hb) | (go_at_call 23; refine (awake12_any HG.out hz0).mono ?_; rintro e y5 ⟨rfl, hb⟩))
    go_ret
    exact ⟨rfl, HB.out.trans (hb.mono HB.out.size)⟩
end Go.Proofs.YtocdmkilnbpkdaaGreatDoor
