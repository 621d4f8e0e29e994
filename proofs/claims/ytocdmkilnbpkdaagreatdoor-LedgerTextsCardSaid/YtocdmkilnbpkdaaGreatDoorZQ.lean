/- First$1: the recursion of First. -/
import Derived.Test.YtocdmkilnbpkdaaGreatDoorZZ
import Derived.Laws.EntriesVeiled
import Derived.OwnWalkIn
import Derived.Maps.AppendAt
import Derived.RangeFuncBox
import Derived.OwnWalk
import Derived.TacticsInMore
import Derived.Deep.DeepCutAuto
set_option linter.unusedVariables false
set_option linter.unusedSimpArgs false
namespace Go.Proofs.YtocdmkilnbpkdaaGreatDoor
open Go.RowKit
attribute [local go_sem] Oper.semAt_some

theorem Tryz.infoTally : (Tryz.prog.info? 50).map (fun i => (i.zero, i.size, i.bytes)) = some (some (.agg #[.int .i64 0, .int .i64 0, .int .i64 0]), 3, 24) := by kernel_rfl
theorem Tryz.underTally : Tryz.prog.underlying 23 = some (.slice 50) := by kernel_rfl
def tallyVals (ts : List Tally) : List Value := (List.range (ts.length * 3)).map (talliesF ts)
theorem tallyVals_len (ts : List Tally) : (tallyVals ts).length = ts.length * 3 := by simp [tallyVals]
theorem tallyVals_at (ts : List Tally) {j : Nat} (h : j < ts.length * 3) : (tallyVals ts)[j]? = some (talliesF ts j) := by simp [tallyVals, h]
theorem talliesF_app (ts : List Tally) (t : Tally) {j : Nat} (h : j < ts.length * 3) : talliesF (ts ++ [t]) j = talliesF ts j := by
 have e : nth (ts ++ [t]) (j / 3) = nth ts (j / 3) := by
  unfold nth
  rw [List.getD_eq_getElem?_getD, List.getD_eq_getElem?_getD, List.getElem?_append_left (by omega)]
 unfold talliesF
 rw [e]
theorem tallyVals_snoc (ts : List Tally) (t : Tally) : tallyVals ts ++ [.int .i64 t.step, .int .i64 t.hands, .int .i64 t.off] = tallyVals (ts ++ [t]) := by
 have e : (ts ++ [t]).length * 3 = ts.length * 3 + 1 + 1 + 1 := by simp; omega
 have hn : nth (ts ++ [t]) ts.length = t := by simp [nth]
 rw [tallyVals, tallyVals, e, List.range_succ, List.range_succ, List.range_succ]
 simp only [List.map_append, List.map_cons, List.map_nil, List.append_assoc, List.cons_append, List.nil_append]
 congr 1
 · exact List.map_congr_left fun j hj => (talliesF_app ts t (List.mem_range.1 hj)).symm
 · unfold talliesF
   rw [show ts.length * 3 % 3 = 0 by omega, show (ts.length * 3 + 1) % 3 = 1 by omega, show (ts.length * 3 + 1 + 1) % 3 = 2 by omega, show ts.length * 3 / 3 = ts.length by omega, show (ts.length * 3 + 1) / 3 = ts.length by omega, show (ts.length * 3 + 1 + 1) / 3 = ts.length by omega, hn]
   rfl
theorem cells3_new (w : World) (a b c : Value) (t : TypeId) : ∀ j u, [a, b, c][j]? = some u → (w.alloc (.cells #[a, b, c] t)).cell? ((⟨w.heap.size, 0, none⟩ : Addr).add j) = some u := by
 intro j u hj
 rw [Addr.add_lit, Nat.zero_add, World.cell?_alloc_at _ _ _ _ rfl]
 simpa using hj
def firstL (b : Book) (i : Nat) : List Int := (List.range i).map (firstB b)
theorem firstL_succ (b : Book) (i : Nat) : firstL b (i + 1) = firstL b i ++ [firstB b i] := by simp [firstL, List.range_succ]
/-- What First has in memory ahead of step i. -/
structure FirI (L : Nat) (W : World) (b : Book) (a : BA) (z1 z2 z3 z4 i : Nat) (v2 v3 : Value) : Prop where
 v : BookV W L b a
 k1 : Blk W z1 25 (bookCells b a)
 k2 : Blk W z2 23 #[v2]
 k3 : Blk W z3 35 #[v3]
 k4 : Blk W z4 100 #[.func (.func 73) #[] #[.pointer (some ⟨z1, 0, none⟩), .pointer (some ⟨z2, 0, none⟩), .pointer (some ⟨z3, 0, none⟩), .pointer (some ⟨z4, 0, none⟩)]]
 o2 : W.ownsRow L 50 3 v2 (tellsB b i).tallies.length (tallyVals (tellsB b i).tallies)
 o3 : W.ownsRow L 3 1 v3 i ((firstL b i).map (Value.int .i64))
 s2 : ∀ k, v2.ownBlock = some k → k ≠ z1 ∧ k ≠ z2 ∧ k ≠ z3 ∧ k ≠ z4 ∧ v3.ownBlock ≠ some k
 s3 : ∀ k, v3.ownBlock = some k → k ≠ z1 ∧ k ≠ z2 ∧ k ≠ z3 ∧ k ≠ z4
 d : L ≤ z1 ∧ z1 < z2 ∧ z2 < z3 ∧ z3 < z4
/-- The book that is looked at: the tallies that have been told. -/
theorem FirI.book {L : Nat} {W : World} {b : Book} {a : BA} {z1 z2 z3 z4 i : Nat} {v2 v3 : Value} (f : FirI L W b a z1 z2 z3 z4 i v2 v3) :
 ∃ A c, v2 = .slice A (tellsB b i).tallies.length c ∧ BookV W W.heap.size (tellsB b i) ⟨a.A1, A, a.c1, c⟩ := by
 have hL : L ≤ W.heap.size := by have := f.k1.lt; have := f.d; omega
 have hs : (tellsB b i).steps = b.steps := tells_steps b i
 have hst : Row W W.heap.size a.A1 ((tellsB b i).steps.length * 3) (stepsF (tellsB b i).steps) := by rw [hs]; exact (f.v.more hL).steps
 have hsm : ∀ j, j < (tellsB b i).steps.length → (nth (tellsB b i).steps j).name.size ≤ maxLen := by rw [hs]; exact f.v.small
 have hm : (tellsB b i).steps.length ≤ a.c1 ∧ a.c1 ≤ maxLen := by rw [hs]; exact f.v.m1
 rcases f.o2.2 with ⟨h1, h2⟩ | ⟨g, cap, cur, h1, h2, h3, h4, h5, h6, h7⟩
 · refine ⟨none, 0, by rw [h1, h2], hst, ?_, hsm, hm, ?_⟩
   · intro h0; rw [h2] at h0; omega
   · rw [h2]; exact ⟨Nat.le_refl _, by simp⟩
 · refine ⟨some ⟨g, 0, none⟩, cap, h1, hst, fun _ => ⟨g, 0, rfl, (Array.getElem?_eq_some_iff.1 h3).1, fun j hj => ?_⟩, hsm, hm, h4, h5⟩
   have := f.o2.cells (g := g) (by rw [h1]; rfl) j _ (tallyVals_at _ hj)
   rw [Nat.zero_add]
   rw [Addr.add_lit, Nat.zero_add] at this; exact this
set_option maxHeartbeats 8000000 in
set_option maxRecDepth 100000 in
theorem next_rec {L : Nat} {b : Book} {a : BA} {z1 z2 z3 z4 : Nat} (hg : Good b) (hs : someB b (fun _ => false) = true) (ht : b.tallies.length ≤ 6) : ∀ (m i : Nat), i + m = b.steps.length → ∀ (W : World) (v2 v3 : Value), FirI L W b a z1 z2 z3 z4 i v2 v3 →
 Calls Tryz.prog 73 #[.int .i64 (i : Nat), .pointer (some ⟨z1, 0, none⟩), .pointer (some ⟨z2, 0, none⟩), .pointer (some ⟨z3, 0, none⟩), .pointer (some ⟨z4, 0, none⟩)] W fun e W' => e = .returned (.tuple #[]) ∧ (∃ v2' v3', FirI L W' b a z1 z2 z3 z4 b.steps.length v2' v3') ∧ Below L W W' := by
 intro m
 induction m with
 | zero =>
  intro i hi W v2 v3 f
  obtain rfl : i = b.steps.length := by omega
  have x0 := f.k1.at_ 0
  simp only [List.getElem?_toArray, List.getElem?_cons_zero] at x0
  have hzx := f.k1.lt
  have HF := hide f
  clear f hs hi
  have hn : (((b.steps.length : Nat) : Int) == (b.steps.length : Int)) = true := by simp
  go_enter Tryz.func73, Tryz.ntmps73
  go_wp2_with fail
  exact bodyPost_ret (v := .tuple #[]) (by simp [results, Tryz.results73, go_sem]) rfl ⟨rfl, ⟨_, _, HF.out⟩, Below.refl _ _⟩
 | succ m ih =>
  intro i hi W v2 v3 f
  have hlt : i < b.steps.length := by omega
  obtain ⟨A, c, rfl, hbk⟩ := f.book
  have x0 := f.k1.at_ 0
  have y0 := f.k2.at_ 0
  have y3 := f.k3.at_ 0
  have y4 := f.k4.at_ 0
  simp only [List.getElem?_toArray, List.getElem?_cons_zero] at x0 y0 y3 y4
  have hzx := f.k1.lt
  have hzy := f.k2.lt
  have hz3 := f.k3.lt
  have hz4 := f.k4.lt
  have HF := hide f
  have HBK := hide hbk
  have HGT := hide (tells_good hg hs i (by omega))
  have HST := hide (tells_some hg hs (i := i) (by omega))
  have HTH := hide (tells_hands b i)
  have HIH := hide ih
  have HHS := hide hs
  have hx6 : i < 6 := by have := hg.six; omega
  have hi0 : (0 : Int) ≤ (i : Int) := Int.natCast_nonneg _
  have hi6 : (i : Int) < 6 := by omega
  have hil : (i : Int) < (b.steps.length : Int) := by omega
  have hn : ((i : Int) == (b.steps.length : Int)) = false := by simp; omega
  have HTS := hide (tells_steps b i)
  have HHG := hide hg
  have HIM := hide (show i + 1 + m = b.steps.length by omega)
  clear f hbk hs ih hi hg
  go_enter Tryz.func73, Tryz.ntmps73
  go_wp2_with fail
  have hlook := look_any (but := 0) HBK.out HGT.out (by decide)
  rw [show bookVal (tellsB b i) ⟨a.A1, A, a.c1, c⟩ = .agg #[.slice a.A1 b.steps.length a.c1, .slice A (tellsB b i).tallies.length c] by rw [bookVal, HTS.out]] at hlook
  refine hlook.mono ?_
  rintro e w1 ⟨g, h, ok, rfl, hl, hlk, hb1⟩
  rw [no_but] at hlk
  obtain ⟨hok, hhs⟩ := look_hands HGT.out hlk
  rw [HST.out] at hok
  subst hok
  have hhi := hhs rfl i (by rw [HTS.out]; exact hlt)
  have hfi : (h i).lo = firstB b i := by rw [hhi, HTH.out]
  have sl := hl.at_lo hx6
  rw [hfi] at sl
  have hzg := hl.k.lt
  have hLz : L ≤ W.heap.size := by have := HF.out.d; omega
  have x1 := (hb1.cell (p := ⟨z1, 0, none⟩) hzx).trans x0
  have y1 := (hb1.cell (p := ⟨z2, 0, none⟩) hzy).trans y0
  have y5 := (hb1.cell (p := ⟨z3, 0, none⟩) hz3).trans y3
  have y6 := (hb1.cell (p := ⟨z4, 0, none⟩) hz4).trans y4
  have k1 := HF.out.k1.next hb1
  have k2 := HF.out.k2.next hb1
  have k3 := HF.out.k3.next hb1
  have k4 := HF.out.k4.next hb1
  have o2 := own_stab HF.out.o2 (fun k hk _ => hb1.block k hk)
  have o3 := own_stab HF.out.o3 (fun k hk _ => hb1.block k hk)
  have v1 := HF.out.v.keep (Keep.of_below' hb1 (fun _ => False)) hLz (fun _ h => h.elim)
  have S2 := hide HF.out.s2
  have S3 := hide HF.out.s3
  have hz2 := hb1.size
  have l3 : Hid (∀ k, v3.ownBlock = some k → k < W.heap.size) := hide (fun k hk => (World.ownsRow.lt HF.out.o3 k hk).2)
  have l2 : Hid (∀ k, (Value.slice A (tellsB b i).tallies.length c).ownBlock = some k → k < W.heap.size) := hide (fun k hk => (World.ownsRow.lt HF.out.o2 k hk).2)
  have HDD := hide HF.out.d
  have HB1 := hide (hb1.mono hLz)
  have HK1 := hide k1
  have HK2 := hide k2
  have HK3 := hide k3
  have HK4 := hide k4
  have HO2 := hide o2
  have HO3 := hide o3
  have HV1 := hide v1
  have f3 := k3.free 0
  have f2 := k2.free 0
  clear x0 y0 y3 y4 hl hlk hhs hhi hfi hlook HF HBK hb1 k1 k2 k3 k4 o2 o3 v1 HGT HST HTH
  have hle : (tellsB b i).tallies.length ≤ 12 := by rw [tells_len]; omega
  generalize hnt : (tellsB b i).tallies.length = nt at *
  have HNT := hide hnt
  clear hnt
  have HFN := hide (show firstL b (i + 1) = firstL b i ++ [firstB b i] from firstL_succ b i)
  have HTV := hide (tallyVals_snoc (tellsB b i).tallies ⟨i, firstB b i, 0⟩)
  obtain ⟨i0, hinf, hz0, hz1', hz2'⟩ := info_parts Tryz.infoInt
  obtain ⟨i2, hinf2, hy0, hy1, hy2⟩ := info_parts Tryz.infoTally
  generalize hnn : firstB b i = nn at *
  have HNN := hide hnn
  clear hnn
  go_upto_region 4 with (at_builtin; go_loud (refine wpList_append_own_at _ rfl _ _ 35 rfl L 3 i0 (.int .i64 0) 1 8 Tryz.underlying35 hinf hz0 hz1' hz2' rfl (by decide) _ _ _ rfl (HO3.out.alloc _) ⟨w1.heap.size, 0, none⟩ 1 1 [.int .i64 nn] rfl rfl (cell_one_new _ _ _) (by simp [Value.oneCell']) (by unfold maxLen; omega) (by omega) (by simp; omega) ?_; intro v' w2 hown' hgrow _ hat; obtain ⟨g', cap', rfl⟩ := ownsRow_succ hown'; have hkx : Keep (fun k => some k = v3.ownBlock) w1 w2 := (Keep.alloc w1 _ _).trans (Keep.of_grown hgrow); have m3 := HK3.out.keep hkx (fun h => (S3.out z3 h.symm).2.2.1 rfl); have c3 := m3.at_ 0; have f3' := m3.free 0; have hz3' := m3.lt))
  have hs3 : Keep (fun k => k = z3) w2 (w2.setCell ⟨z3, 0, none⟩ (.slice (some ⟨g', 0, none⟩) (i + 1) cap')) := Keep.setCell _ _ _ _ rfl
  have hD := HDD.out
  have n1 := (HK1.out.keep hkx (fun h => (S3.out z1 h.symm).1 rfl)).keep hs3 (by omega)
  have n2 := (HK2.out.keep hkx (fun h => (S3.out z2 h.symm).2.1 rfl)).keep hs3 (by omega)
  have n3 := m3.store 0 (.slice (some ⟨g', 0, none⟩) (i + 1) cap')
  have n4 := (HK4.out.keep hkx (fun h => (S3.out z4 h.symm).2.2.2 rfl)).keep hs3 (by omega)
  have hg'z : g' ≠ z1 ∧ g' ≠ z2 ∧ g' ≠ z3 ∧ g' ≠ z4 := by
   rcases hat with h1 | h1
   · exact S3.out g' h1.symm
   · have h2 : g' = (w1.alloc (.cells #[.int .i64 nn] 3)).heap.size := Option.some.inj h1
     rw [World.size_alloc] at h2
     omega
  have hk2 : ∀ k, (Value.slice A nt c).ownBlock = some k → k ≠ g' ∧ k ≠ z3 := fun k hk => by
   have h3 := S2.out k hk
   refine ⟨fun e => ?_, h3.2.2.1⟩
   rcases hat with h1 | h1
   · exact h3.2.2.2.2 (h1.symm.trans (by rw [e]; rfl))
   · have h2 : g' = (w1.alloc (.cells #[.int .i64 nn] 3)).heap.size := Option.some.inj h1
     have := l2.out k hk
     rw [World.size_alloc] at h2
     omega
  have q2 := own_stab HO2.out (w' := w2) (fun k hk e => hkx.block k hk (fun h => (S2.out k e).2.2.2.2 h.symm))
  have q2' := own_stab q2 (w' := w2.setCell ⟨z3, 0, none⟩ (.slice (some ⟨g', 0, none⟩) (i + 1) cap')) (fun k hk e => hs3.block k hk (hk2 k e).2)
  have q3 := own_stab hown' (w' := w2.setCell ⟨z3, 0, none⟩ (.slice (some ⟨g', 0, none⟩) (i + 1) cap')) (fun k hk e => hs3.block k hk (by have : g' = k := own_new e; omega))
  have v2' := (HV1.out.keep hkx (by omega) (fun k h => (World.ownsRow.lt HO3.out k h.symm).1)).keep hs3 (by have := hkx.size; omega) (fun k h => by omega)
  have hbl : Below L w1 (w2.setCell ⟨z3, 0, none⟩ (.slice (some ⟨g', 0, none⟩) (i + 1) cap')) := (hkx.below (fun k h => (World.ownsRow.lt HO3.out k h.symm).1) (by omega)).trans (hs3.below (fun k h => by omega) (by have := hkx.size; omega))
  have HB3 := hide (HB1.out.trans hbl)
  have hzw3 := hbl.size
  have hzk := hkx.size
  have N1 := hide n1
  have N2 := hide n2
  have N3 := hide n3
  have N4 := hide n4
  have Q2 := hide q2'
  have Q3 := hide q3
  have V2 := hide v2'
  have K2 := hide hk2
  have l2' : Hid (∀ k, (Value.slice A nt c).ownBlock = some k → k < w1.heap.size) := hide (fun k hk => (World.ownsRow.lt HO2.out k hk).2)
  have hgz3 : g' < (w2.setCell ⟨z3, 0, none⟩ (.slice (some ⟨g', 0, none⟩) (i + 1) cap')).heap.size := (World.ownsRow.lt q3 g' rfl).2
  clear n1 n2 n3 n4 q2 q2' q3 v2' hk2 hs3 hkx m3 c3 f3' hz3' hown' hgrow hat hbl HO2 HO3 HV1 HK1 HK2 HK3 HK4 x1 y1 y5 y6 f3 f2
  generalize (w2.setCell ⟨z3, 0, none⟩ (.slice (some ⟨g', 0, none⟩) (i + 1) cap')) = w3 at *
  have y1 := N2.out.at_ 0
  have y6 := N4.out.at_ 0
  simp only [List.getElem?_toArray, List.getElem?_cons_zero] at y1 y6
  have hzy1 := N2.out.lt
  have hz41 := N4.out.lt
  go_upto_region 5 with (at_builtin; go_loud (refine wpList_append_own_at _ rfl _ _ 23 rfl L 50 i2 (.agg #[.int .i64 0, .int .i64 0, .int .i64 0]) 3 24 Tryz.underTally hinf2 hy0 hy1 hy2 rfl (by decide) _ _ _ rfl (Q2.out.alloc _) ⟨w3.heap.size, 0, none⟩ 1 1 [.int .i64 (i : Int), .int .i64 nn, .int .i64 0] rfl rfl (cells3_new _ _ _ _ _) (by simp [Value.oneCell']) (by unfold maxLen; omega) (by omega) (by simp; omega) ?_; intro v' w4 hown' hgrow _ hat; obtain ⟨g2, cap2, rfl⟩ := ownsRow_succ hown'; have hkx : Keep (fun k => some k = (Value.slice A nt c).ownBlock) w3 w4 := (Keep.alloc w3 _ _).trans (Keep.of_grown hgrow); have m2 := N2.out.keep hkx (fun h => (S2.out z2 h.symm).2.1 rfl); have c3 := m2.at_ 0; have f3' := m2.free 0; have hz3' := m2.lt))
  have hs2 : Keep (fun k => k = z2) w4 (w4.setCell ⟨z2, 0, none⟩ (.slice (some ⟨g2, 0, none⟩) (nt + 1) cap2)) := Keep.setCell _ _ _ _ rfl
  have hD := HDD.out
  have n1 := (N1.out.keep hkx (fun h => (S2.out z1 h.symm).1 rfl)).keep hs2 (by omega)
  have n2 := m2.store 0 (.slice (some ⟨g2, 0, none⟩) (nt + 1) cap2)
  have n3 := (N3.out.keep hkx (fun h => (S2.out z3 h.symm).2.2.1 rfl)).keep hs2 (by omega)
  have n4 := (N4.out.keep hkx (fun h => (S2.out z4 h.symm).2.2.2.1 rfl)).keep hs2 (by omega)
  have hbig : g2 = (w3.alloc (.cells #[.int .i64 (i : Int), .int .i64 nn, .int .i64 0] 50)).heap.size ∨ (Value.slice A nt c).ownBlock = some g2 := by
   rcases hat with h1 | h1
   · exact .inr h1.symm
   · exact .inl (Option.some.inj h1)
  have hg2 : g2 ≠ z1 ∧ g2 ≠ z2 ∧ g2 ≠ z3 ∧ g2 ≠ z4 ∧ g2 ≠ g' := by
   rcases hbig with h1 | h1
   · rw [World.size_alloc] at h1
     omega
   · have h3 := S2.out g2 h1
     exact ⟨h3.1, h3.2.1, h3.2.2.1, h3.2.2.2.1, (K2.out g2 h1).1⟩
  have q2 := own_stab hown' (w' := (w4.setCell ⟨z2, 0, none⟩ (.slice (some ⟨g2, 0, none⟩) (nt + 1) cap2))) (fun k hk e => hs2.block k hk (by have : g2 = k := own_new e; omega))
  have q3 := own_stab (own_stab Q3.out (w' := w4) (fun k hk e => hkx.block k hk (fun h => by have h1 : g' = k := own_new e; exact (K2.out k h.symm).1 h1.symm))) (w' := (w4.setCell ⟨z2, 0, none⟩ (.slice (some ⟨g2, 0, none⟩) (nt + 1) cap2))) (fun k hk e => hs2.block k hk (by have : g' = k := own_new e; omega))
  have hzk2 := hkx.size
  have v5 := (V2.out.keep hkx (by omega) (fun k h => (World.ownsRow.lt Q2.out k h.symm).1)).keep hs2 (by omega) (fun k h => by omega)
  have hbl : Below L w3 (w4.setCell ⟨z2, 0, none⟩ (.slice (some ⟨g2, 0, none⟩) (nt + 1) cap2)) := (hkx.below (fun k h => (World.ownsRow.lt Q2.out k h.symm).1) (by omega)).trans (hs2.below (fun k h => by omega) (by omega))
  have hT : (tellsB b (i + 1)).tallies = (tellsB b i).tallies ++ [⟨i, nn, 0⟩] := by rw [← HNN.out]; rfl
  have hTl : (tellsB b (i + 1)).tallies.length = nt + 1 := by rw [hT, List.length_append, HNT.out]; rfl
  have hfi : FirI L (w4.setCell ⟨z2, 0, none⟩ (.slice (some ⟨g2, 0, none⟩) (nt + 1) cap2)) b a z1 z2 z3 z4 (i + 1) (.slice (some ⟨g2, 0, none⟩) (nt + 1) cap2) (.slice (some ⟨g', 0, none⟩) (i + 1) cap') :=
   ⟨v5, n1, n2, n3, n4, by rw [hTl, hT, ← tallyVals_snoc]; exact q2, by rw [HFN.out, List.map_append]; exact q3,
    fun k hk => by
     have e : g2 = k := own_new hk
     subst e
     exact ⟨hg2.1, hg2.2.1, hg2.2.2.1, hg2.2.2.2.1, fun h => hg2.2.2.2.2 (own_new h).symm⟩,
    fun k hk => by
     have e : g' = k := own_new hk
     subst e
     exact hg'z, HDD.out⟩
  have HFI := hide hfi
  have HB5 := hide (HB3.out.trans hbl)
  have y6' := n4.at_ 0
  simp only [List.getElem?_toArray, List.getElem?_cons_zero] at y6'
  have hz45 := n4.lt
  clear n1 n2 n3 n4 hbig hg2 q2 q3 v5 hbl hT hTl hfi hs2 hkx m2 c3 f3' hz3' hown' hgrow hat y1 y6 N1 N2 N3 N4 Q2 Q3 V2
  generalize (w4.setCell ⟨z2, 0, none⟩ (.slice (some ⟨g2, 0, none⟩) (nt + 1) cap2)) = w5 at *
  go_wp2_with fail
  have hrec := HIH.out (i + 1) HIM.out w5 _ _ HFI.out
  rw [show ((i + 1 : Nat) : Int) = (i : Int) + 1 by omega] at hrec
  refine hrec.mono ?_
  rintro e w6 ⟨rfl, hex, hb6⟩
  have HEX := hide hex
  have HB6 := hide (HB5.out.trans hb6)
  clear hex hb6 hrec
  go_wp2_with fail
  go_end0
  exact ⟨rfl, HEX.out, HB6.out⟩
end Go.Proofs.YtocdmkilnbpkdaaGreatDoor
