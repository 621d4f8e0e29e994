/- The contract of (*book).out: what the steps behind a step have together. -/
import Derived.Test.YtocdmkilnbpkdaaGreatDoorZF
import Derived.Laws.EntriesVeiled
import Derived.OwnWalkIn
import Derived.TacticsInMore
import Derived.Deep.DeepCutAuto
set_option linter.unusedVariables false
set_option linter.unusedSimpArgs false
namespace Go.Proofs.YtocdmkilnbpkdaaGreatDoor
open Go.RowKit
attribute [local go_sem] Oper.semAt_some

def outF (h : Nat → Span) (l : List Nat) : Span := l.foldl (fun s k => plusW s (h k)) ⟨0, 0⟩
theorem outF_snoc (h : Nat → Span) (l : List Nat) (k : Nat) : outF h (l ++ [k]) = plusW (outF h l) (h k) := by simp [outF, List.foldl_append]
theorem outF_way {b : Book} (hg : Good b) (h : Nat → Span) (i : Nat) : outF h (behindB b i) = (wayOf b).outW h i := by rw [outF, behind_kids hg, Way.outW]
theorem behind_lt {b : Book} {i k : Nat} (h : k ∈ behindB b i) : k < b.steps.length := List.mem_range.1 (List.mem_filter.1 h).1
set_option maxHeartbeats 4000000 in
set_option maxRecDepth 100000 in
theorem out_any {w : World} {L g i : Nat} {b : Book} {a : BA} {h : Nat → Span} (hl : LookB w L g b a h) (hL : L ≤ w.heap.size) (h6 : b.steps.length ≤ 6) :
 Calls Tryz.prog 100 #[.pointer (some ⟨g, 0, none⟩), .int .i64 (i : Int)] w fun e w' => e = .returned (.tuple #[spanVal (outF h (behindB b i)), .bool (!(behindB b i).isEmpty)]) ∧ Below w.heap.size w w' := by
 have hB0 : Below w.heap.size w (((w.alloc (.cells #[.pointer (some ⟨g, 0, none⟩)] 82)).alloc (.cells #[.int .i64 0, .int .i64 0] 30)).alloc (.cells #[.bool false] 4)) := below3 _ _ _
 have q1 : Blk (((w.alloc (.cells #[.pointer (some ⟨g, 0, none⟩)] 82)).alloc (.cells #[.int .i64 0, .int .i64 0] 30)).alloc (.cells #[.bool false] 4)) w.heap.size 82 #[.pointer (some ⟨g, 0, none⟩)] := (Blk.made.alloc _).alloc _
 have q2 : Blk (((w.alloc (.cells #[.pointer (some ⟨g, 0, none⟩)] 82)).alloc (.cells #[.int .i64 0, .int .i64 0] 30)).alloc (.cells #[.bool false] 4)) (w.heap.size + 1) 30 #[.int .i64 0, .int .i64 0] := (Blk.made' (by simp)).alloc _
 have q3 : Blk (((w.alloc (.cells #[.pointer (some ⟨g, 0, none⟩)] 82)).alloc (.cells #[.int .i64 0, .int .i64 0] 30)).alloc (.cells #[.bool false] 4)) (w.heap.size + 1 + 1) 4 #[.bool false] := Blk.made' (by simp)
 have hgz := hl.k.lt
 have HK0 := hide (hl.next hB0)
 have HLL := hide hL
 have HGG := hide hgz
 have HB0 := hide hB0
 have HQ1 := hide q1
 have HQ2 := hide q2
 have HQ3 := hide q3
 clear hl hB0 q1 q2 q3
 refine (callsIn_wide (n := 0)).1 (callsIn_of_wp_marks Tryz.func100 rfl trivial ?_ rfl)
 refine (wpIn_wide (n := 0)).2 ?_
 simp only [Tryz.ntmps100, List.size_toArray, List.length_cons, List.length_nil, Nat.reduceAdd, Nat.reduceSub, Array.replicate_succ, Array.replicate_zero, List.push_toArray, List.append_toArray, List.nil_append, List.cons_append]
 go_wp2_with fail
 generalize (((w.alloc (.cells #[.pointer (some ⟨g, 0, none⟩)] 82)).alloc (.cells #[.int .i64 0, .int .i64 0] 30)).alloc (.cells #[.bool false] 4)) = w0 at *
 refine behind_any.mono ?_
 rintro e w1 ⟨p1, p2, rfl, hp1, hp2, e1, e2, hB1⟩
 have n1 := HQ1.out.next hB1
 have n2 := HQ2.out.next hB1
 have n3 := HQ3.out.next hB1
 have HK1 := hide (HK0.out.next hB1)
 have HBW := hide (HB0.out.trans (hB1.mono HB0.out.size))
 have hz2 : w.heap.size + 1 + 1 < w0.heap.size := HQ3.out.lt
 have hz1 := hB1.size
 have hzw := HB0.out.size
 clear HQ1 HQ2 HQ3 HK0 HB0 hB1
 go_wp2_with fail
 have hit : IterStill Tryz.prog 128 #[.pointer (some ⟨p1, 0, none⟩), .pointer (some ⟨p2, 0, none⟩)] nv (fun k => k = w.heap.size + 1 ∨ k = w.heap.size + 1 + 1) (fun _ => True) (behindB b i) w1 :=
  behind_iter (g := g) (L := L) (a := a) (by omega) (by omega) (by omega) (by omega) e1 e2 (HK1.out.k.at_ 0) HK1.out.v (fun k hk => by omega)
 refine wp_range_still rfl (enters_of Tryz.func128 (by kernel_rfl) rfl) rfl hit (fun k hk => by omega) (fun _ _ _ _ => trivial)
  (fun pre W => Blk W w.heap.size 82 #[.pointer (some ⟨g, 0, none⟩)] ∧ Blk W (w.heap.size + 1) 30 #[.int .i64 (outF h pre).lo, .int .i64 (outF h pre).hi] ∧ Blk W (w.heap.size + 1 + 1) 4 #[.bool (!pre.isEmpty)] ∧ LookB W L g b a h) (fun _ _ _ => False) ?hI (fun _ _ _ _ h _ => h) trivial ?h0 ?body ?done ?stop
 case hI =>
  rintro pre V V' ⟨i1, i2, i3, i4⟩ hk _
  exact ⟨i1.keep hk (by omega), i2.keep hk (by omega), i3.keep hk (by omega), i4.keep hk (fun k hk => by omega) (by omega)⟩
 case h0 => exact ⟨n1, n2, n3, HK1.out⟩
 case body =>
  rintro l pre x W1 hl hx ⟨i1, i2, i3, i4⟩ _ hlt
  have hxm : x ∈ behindB b i := hx.subset (by simp)
  have hx6 : x < 6 := by have := behind_lt hxm; omega
  have HFO := hide (outF_snoc h pre x)
  clear hx hxm hit n1 n2 n3 e1 e2 hp1 hp2
  generalize outF h pre = sa at *
  gi_wp2
  refine ⟨Keep.refl _ _, trivial, fun W3 hk3 => ?_⟩
  have hi1 := i1.keep hk3 (by omega)
  have hi2 := i2.keep hk3 (by omega)
  have hi3 := i3.keep hk3 (by omega)
  have hi4 := i4.keep hk3 (fun k hk => by omega) (by omega)
  have r1 := hi1.at_ 0
  have r2 := hi2.at_ 0
  have r3 := hi2.at_ 1
  have r4 := hi4.at_lo hx6
  have r5 := hi4.at_hi hx6
  simp only [List.getElem?_toArray, List.getElem?_cons_zero, List.getElem?_cons_succ] at r1 r2 r3
  have hz1 := hi1.lt
  have hz2 := hi2.lt
  have hzg := hi4.k.lt
  have HI1 := hide hi1
  have HI2 := hide hi2
  have HI3 := hide hi3
  have HI4 := hide hi4
  have hx0 : (0 : Int) ≤ (x : Int) := Int.natCast_nonneg _
  have hx61 : (x : Int) < 6 := by omega
  clear i1 i2 i3 i4 hi1 hi2 hi3 hi4 hk3
  generalize h x = sb at *
  refine wpIn_block ?_
  refine wpIn_round_rel (dst := fun oi => [11, 12, 13, 14, 15, 16, 17, 18, 0, 0].getD oi 0) (mono := fun oi => decide (oi < 8)) (pre := fun oi => decide (oi < 8)) (R := LKeep (fun _ => False) (fun _ => True))
   (Pv := fun oi v W => match oi with
    | 0 => v = spanVal sa
    | 1 => v = .pointer (some ⟨g, 0, none⟩)
    | 2 => v = .int .i64 (x : Nat)
    | 3 => v = .pointer (some ⟨g, 0, none⟩)
    | 4 => v = .pointer (some ⟨g, 2, none⟩)
    | 5 => v = .pointer (some ⟨g, 2 + x * 2, none⟩)
    | 6 => v = spanVal sb
    | 7 => v = spanVal (plusW sa sb)
    | _ => True) (by kernel_rfl) (by kernel_rfl) (by rintro ⟨_, _, h⟩; exact h) (by kernel_rfl) (LKeep.refl _ _) (fun _ _ _ h h' => h.trans h') ?hst ?hstep ?hend
  case hst =>
   intro oi v W W' h hk
   match oi, h with
   | 0, h => exact h
   | 1, h => exact h
   | 2, h => exact h
   | 3, h => exact h
   | 4, h => exact h
   | 5, h => exact h
   | 6, h => exact h
   | 7, h => exact h
   | oi + 8, h => exact trivial
  case hstep =>
   intro oi hoi hom listed vs ao W hU hk0 hpv haft Ko hK
   have hkk := (LKeep.drew (fun _ => False) (M := fun _ => True) W3 (fun h => h)).trans hk0
   have hk := hkk.1
   have hkm := hkk.2
   clear hkk
   match oi, hoi, hom with
   | 0, hoi, hom =>
    have z4 : ao.tmps[4]?.getD undef = .pointer (some ⟨w.heap.size + 1, 0, none⟩) := hU.same 4 (by decide)
    have y0 := (hk.cell (b := w.heap.size + 1) (o := 0) (hz2) (fun h => h)).trans (r2)
    have y1 := (hk.cell (b := w.heap.size + 1) (o := 1) (hz2) (fun h => h)).trans (r3)
    refine wpOp_value (v := spanVal sa) (W' := W) rfl rfl ?_ (hK _ _ (LKeep.refl _ _ _) rfl)
    go_simp
   | 1, hoi, hom =>
    have z2 : ao.tmps[2]?.getD undef = .pointer (some ⟨w.heap.size, 0, none⟩) := hU.same 2 (by decide)
    have y0 := (hk.cell (b := w.heap.size) (o := 0) (hz1) (fun h => h)).trans (r1)
    refine wpOp_value (v := .pointer (some ⟨g, 0, none⟩)) (W' := W) rfl rfl ?_ (hK _ _ (LKeep.refl _ _ _) rfl)
    go_simp
   | 2, hoi, hom =>
    have z6 : ao.tmps[6]?.getD undef = .int .i64 (x : Nat) := hU.same 6 (by decide)
    refine wpOp_value (v := .int .i64 (x : Nat)) (W' := W) rfl rfl ?_ (hK _ _ (LKeep.refl _ _ _) rfl)
    go_simp
   | 3, hoi, hom =>
    have l1 := haft _ rfl ⟨1, .data⟩ (by simp) rfl
    have s1 : ao.tmps[12]?.getD undef = .pointer (some ⟨g, 0, none⟩) := (hU.slot 1 (by decide) l1).trans (hpv 1 l1)
    refine wpOp_value (v := .pointer (some ⟨g, 0, none⟩)) (W' := W) rfl rfl ?_ (hK _ _ (LKeep.refl _ _ _) rfl)
    go_simp
   | 4, hoi, hom =>
    have l3 := haft _ rfl ⟨3, .data⟩ (by simp) rfl
    have s3 : ao.tmps[14]?.getD undef = .pointer (some ⟨g, 0, none⟩) := (hU.slot 3 (by decide) l3).trans (hpv 3 l3)
    refine wpOp_value (v := .pointer (some ⟨g, 2, none⟩)) (W' := W) rfl rfl ?_ (hK _ _ (LKeep.refl _ _ _) rfl)
    go_simp
   | 5, hoi, hom =>
    have l4 := haft _ rfl ⟨4, .data⟩ (by simp) rfl
    have s4 : ao.tmps[15]?.getD undef = .pointer (some ⟨g, 2, none⟩) := (hU.slot 4 (by decide) l4).trans (hpv 4 l4)
    have l2 := haft _ rfl ⟨2, .data⟩ (by simp) rfl
    have s2 : ao.tmps[13]?.getD undef = .int .i64 (x : Nat) := (hU.slot 2 (by decide) l2).trans (hpv 2 l2)
    refine wpOp_value (v := .pointer (some ⟨g, 2 + x * 2, none⟩)) (W' := W) rfl rfl ?_ (hK _ _ (LKeep.refl _ _ _) rfl)
    go_simp
   | 6, hoi, hom =>
    have l5 := haft _ rfl ⟨5, .data⟩ (by simp) rfl
    have s5 : ao.tmps[16]?.getD undef = .pointer (some ⟨g, 2 + x * 2, none⟩) := (hU.slot 5 (by decide) l5).trans (hpv 5 l5)
    have y0 := (hk.cell (b := g) (o := 2 + x * 2) (hzg) (fun h => h)).trans (r4)
    have y1 := (hk.cell (b := g) (o := 2 + x * 2 + 1) (hzg) (fun h => h)).trans (r5)
    refine wpOp_value (v := spanVal sb) (W' := W) rfl rfl ?_ (hK _ _ (LKeep.refl _ _ _) rfl)
    go_simp
   | 7, hoi, hom =>
    have l0 := haft _ rfl ⟨0, .data⟩ (by simp) rfl
    have s0 : ao.tmps[11]?.getD undef = spanVal sa := (hU.slot 0 (by decide) l0).trans (hpv 0 l0)
    have l6 := haft _ rfl ⟨6, .data⟩ (by simp) rfl
    have s6 : ao.tmps[17]?.getD undef = spanVal sb := (hU.slot 6 (by decide) l6).trans (hpv 6 l6)
    refine wpOp_enter (f := 105) (args := #[spanVal sa, spanVal sb]) (W' := W) rfl rfl ?_ ((plus_any sa sb W).mono (fun e w'' h => ?_))
    · go_simp
    · obtain ⟨he, hbw⟩ := h
      exact ⟨_, he, hK _ _ (LKeep.below hbw (fun h => h)) rfl⟩
   | oi + 8, hoi, hom => exact absurd (of_decide_eq_true hom) (by omega)
  case hend =>
   intro listed vs ao W hG hk0 hpv hpre
   have hkk := (LKeep.drew (fun _ => False) (M := fun _ => True) W3 (fun h => h)).trans hk0
   have hk := hkk.1
   have hkm := hkk.2
   clear hkk
   have hact := hG.act
   have hT := hG.lst hpre 0 #[true, true, true, true, true, true, true, true, false, false] rfl (by kernel_rfl) (hpre 0 (by decide) (by decide))
   rw [hG.ix hT (l := [0, 1, 2, 3, 4, 5, 6, 7]) (by kernel_rfl)] at hact
   rw [hG.lo hT (k := 2) (by kernel_rfl)]
   have hv0 : vs 0 = spanVal sa := hpv 0 (hpre 0 (by decide) (by decide))
   have hv1 : vs 1 = .pointer (some ⟨g, 0, none⟩) := hpv 1 (hpre 1 (by decide) (by decide))
   have hv2 : vs 2 = .int .i64 (x : Nat) := hpv 2 (hpre 2 (by decide) (by decide))
   have hv3 : vs 3 = .pointer (some ⟨g, 0, none⟩) := hpv 3 (hpre 3 (by decide) (by decide))
   have hv4 : vs 4 = .pointer (some ⟨g, 2, none⟩) := hpv 4 (hpre 4 (by decide) (by decide))
   have hv5 : vs 5 = .pointer (some ⟨g, 2 + x * 2, none⟩) := hpv 5 (hpre 5 (by decide) (by decide))
   have hv6 : vs 6 = spanVal sb := hpv 6 (hpre 6 (by decide) (by decide))
   have hv7 : vs 7 = spanVal (plusW sa sb) := hpv 7 (hpre 7 (by decide) (by decide))
   clear hpv hpre hG hk0
   obtain rfl : ao = _ := hact
   subst hT
   simp only [setAll, List.setIfInBounds_toArray, List.set_cons_succ, List.set_cons_zero, List.getD_cons_succ, List.getD_cons_zero]
   simp only [hv0, hv1, hv2, hv3, hv4, hv5, hv6, hv7]
   clear hv0 hv1 hv2 hv3 hv4 hv5 hv6 hv7
   have n2 := HI2.out.keep hk (fun h => h)
   have n3 := HI3.out.keep hk (fun h => h)
   have c0 := n2.at_ 0
   have c1 := n2.at_ 1
   have f0 := n2.free 0
   have f1 := n2.free 1
   have c2 := n3.at_ 0
   have f2 := n3.free 0
   simp only [List.getElem?_toArray, List.getElem?_cons_zero, List.getElem?_cons_succ] at c0 c1 c2
   refine wpAny_all (rs := [8]) (by kernel_rfl) (by simp) ?_
   intro i2 hi2
   obtain rfl : i2 = 8 := by simpa using hi2
   refine wpOp_skip (W' := (W.setCell ⟨w.heap.size + 1, 0, none⟩ (.int .i64 (plusW sa sb).lo)).setCell ⟨w.heap.size + 1, 1, none⟩ (.int .i64 (plusW sa sb).hi)) rfl rfl ?_ ?_
   · go_simp
   have b2 : Blk ((W.setCell ⟨w.heap.size + 1, 0, none⟩ (.int .i64 (plusW sa sb).lo)).setCell ⟨w.heap.size + 1, 1, none⟩ (.int .i64 (plusW sa sb).hi)) (w.heap.size + 1) 30 #[.int .i64 (plusW sa sb).lo, .int .i64 (plusW sa sb).hi] := (n2.store 0 _).store 1 _
   have b3 : Blk ((W.setCell ⟨w.heap.size + 1, 0, none⟩ (.int .i64 (plusW sa sb).lo)).setCell ⟨w.heap.size + 1, 1, none⟩ (.int .i64 (plusW sa sb).hi)) (w.heap.size + 1 + 1) 4 #[.bool (!pre.isEmpty)] := (n3.else_ (p := ⟨w.heap.size + 1, 0, none⟩) (by simp) _).else_ (p := ⟨w.heap.size + 1, 1, none⟩) (by simp) _
   have hs1 : Keep (fun k => k = w.heap.size + 1 ∨ k = w.heap.size + 1 + 1) W ((W.setCell ⟨w.heap.size + 1, 0, none⟩ (.int .i64 (plusW sa sb).lo)).setCell ⟨w.heap.size + 1, 1, none⟩ (.int .i64 (plusW sa sb).hi)) := (Keep.setCell _ _ _ _ (.inl rfl)).trans (Keep.setCell _ _ _ _ (.inl rfl))
   clear n2 n3 c0 c1 f0 f1 c2 f2
   generalize (W.setCell ⟨w.heap.size + 1, 0, none⟩ (.int .i64 (plusW sa sb).lo)).setCell ⟨w.heap.size + 1, 1, none⟩ (.int .i64 (plusW sa sb).hi) = W8 at *
   have c2 := b3.at_ 0
   have f2 := b3.free 0
   simp only [List.getElem?_toArray, List.getElem?_cons_zero] at c2
   refine wpAny_all (rs := [9]) (by kernel_rfl) (by simp) ?_
   intro i2 hi2
   obtain rfl : i2 = 9 := by simpa using hi2
   refine wpOp_skip (W' := W8.setCell ⟨w.heap.size + 1 + 1, 0, none⟩ (.bool true)) rfl rfl ?_ ?_
   · go_simp
   refine wpAny_done (by kernel_rfl) ?_ _
   have hs2 : Keep (fun k => k = w.heap.size + 1 ∨ k = w.heap.size + 1 + 1) W8 (W8.setCell ⟨w.heap.size + 1 + 1, 0, none⟩ (.bool true)) := Keep.setCell _ _ _ _ (.inr rfl)
   have hkk := (hk.mono (S' := fun k => k = w.heap.size + 1 ∨ k = w.heap.size + 1 + 1) (fun k _ h => h.elim)).trans (hs1.trans hs2)
   refine ⟨hkk, trivial, HI1.out.keep hkk (by omega), ?_, ?_, HI4.out.keep hkk (fun k hk => by have := HLL.out; omega) (by have := HGG.out; omega)⟩
   · rw [HFO.out]; exact b2.else_ (p := ⟨w.heap.size + 1 + 1, 0, none⟩) (by simp) _
   · rw [show (pre ++ [x]).isEmpty = false by simp]; exact b3.store 0 _
 case done =>
  rintro D W' hD ⟨i1, i2, i3, i4⟩ _ hk hd
  have HMS : Hid (MarksOk (w.heap.size + 1 + 1 + 1) [{ target := .collected D, args := #[] }] W') := ⟨⟨D, by omega, rfl, hd, by simp⟩, trivial⟩
  have HKK : Hid (Keep (fun k => w.heap.size ≤ k) w W') := (Keep.of_below HBW.out).trans (hk.mono (fun k _ h => by omega))
  have r0 := i2.at_ 0
  have r1 := i2.at_ 1
  have r2 := i3.at_ 0
  have f0 := i2.free 0
  have f1 := i2.free 1
  have f2 := i3.free 0
  simp only [List.getElem?_toArray, List.getElem?_cons_zero, List.getElem?_cons_succ] at r0 r1 r2
  have hz2 := i2.lt
  have hz3 := i3.lt
  have HI2 := hide i2
  have HI3 := hide i3
  clear hk hd i1 i2 i3 i4 hit n1 n2 n3 e1 e2
  generalize hso : outF h (behindB b i) = so at *
  generalize hem : (!(behindB b i).isEmpty) = em at *
  have HSO := hide hso
  have HEM := hide hem
  clear hso hem
  go_upto_region 4 with (fail)
  apply wp_one
  case h =>
   go_region
   all_goals exact ⟨rfl, rfl, rfl⟩
  case hq =>
  go_wp2_with fail
  have b2 := (((HI2.out.store 0 (.int .i64 so.lo)).store 1 (.int .i64 so.hi)).else_ (p := ⟨w.heap.size + 1 + 1, 0, none⟩) (by show w.heap.size + 1 ≠ w.heap.size + 1 + 1; omega) (.bool em))
  have b3 := (((HI3.out.else_ (p := ⟨w.heap.size + 1, 0, none⟩) (by show w.heap.size + 1 + 1 ≠ w.heap.size + 1; omega) (.int .i64 so.lo)).else_ (p := ⟨w.heap.size + 1, 1, none⟩) (by show w.heap.size + 1 + 1 ≠ w.heap.size + 1; omega) (.int .i64 so.hi)).store 0 (.bool em))
  have hks : Keep (fun k => k = w.heap.size + 1 ∨ k = w.heap.size + 1 + 1) W' (((W'.setCell ⟨w.heap.size + 1, 0, none⟩ (.int .i64 so.lo)).setCell ⟨w.heap.size + 1, 1, none⟩ (.int .i64 so.hi)).setCell ⟨w.heap.size + 1 + 1, 0, none⟩ (.bool em)).drew := (((Keep.setCell _ _ _ _ (.inl rfl)).trans (Keep.setCell _ _ _ _ (.inl rfl))).trans (Keep.setCell _ _ _ _ (.inr rfl))).trans (Keep.of_below' ((Below.refl _ _).drew) _)
  replace b2 : Blk (((W'.setCell ⟨w.heap.size + 1, 0, none⟩ (.int .i64 so.lo)).setCell ⟨w.heap.size + 1, 1, none⟩ (.int .i64 so.hi)).setCell ⟨w.heap.size + 1 + 1, 0, none⟩ (.bool em)).drew (w.heap.size + 1) 30 #[.int .i64 so.lo, .int .i64 so.hi] := b2
  replace b3 : Blk (((W'.setCell ⟨w.heap.size + 1, 0, none⟩ (.int .i64 so.lo)).setCell ⟨w.heap.size + 1, 1, none⟩ (.int .i64 so.hi)).setCell ⟨w.heap.size + 1 + 1, 0, none⟩ (.bool em)).drew (w.heap.size + 1 + 1) 4 #[.bool em] := b3
  generalize (((W'.setCell ⟨w.heap.size + 1, 0, none⟩ (.int .i64 so.lo)).setCell ⟨w.heap.size + 1, 1, none⟩ (.int .i64 so.hi)).setCell ⟨w.heap.size + 1 + 1, 0, none⟩ (.bool em)).drew = wz at *
  refine leaves_marks (B := w.heap.size + 1 + 1 + 1) (HMS.out.keep hks (by omega)) (fun w' hkw' => ?_)
  have c2 := b2.keep hkw' (by omega)
  have c3 := b3.keep hkw' (by omega)
  have r0 := c2.at_ 0
  have r1 := c2.at_ 1
  have r2 := c3.at_ 0
  simp only [List.getElem?_toArray, List.getElem?_cons_zero, List.getElem?_cons_succ] at r0 r1 r2
  exact ⟨.tuple #[spanVal so, .bool em], by simp [results, Tryz.results100, go_sem, r0, r1, r2], by rw [HSO.out, HEM.out], ((HKK.out.trans (hks.mono (fun k _ h => by omega))).trans (hkw'.mono (fun k _ h => by omega))).below (fun k h => h) (Nat.le_refl _)⟩
 case stop =>
  intro D cd q W' hD hq0 hqp hix hm hk hd
  exact hix.elim
end Go.Proofs.YtocdmkilnbpkdaaGreatDoor
