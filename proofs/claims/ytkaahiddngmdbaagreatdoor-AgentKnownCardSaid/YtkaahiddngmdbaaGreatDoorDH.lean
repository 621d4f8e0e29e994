/- chain's next: all loads that go on with some come in turn. -/
import Derived.Test.YtkaahiddngmdbaaGreatDoorDG
set_option linter.unusedVariables false
set_option linter.unusedSimpArgs false
namespace Go.Proofs.YtkaahiddngmdbaaGreatDoor
open Go.RowKit
attribute [local go_sem ↓] Go.wp_at_zero Go.wp_at_succ

set_option maxHeartbeats 4000000 in
set_option maxRecDepth 100000 in
theorem next_any {C : Nat → Prop} {L U b bm p1 py pn ps pl l : Nat} {f : Board} {a : BrdA} {I Ix : List (List Int) → World → Prop} {T : List (List Int)}
 (F : Fix C L U b bm p1 py pn ps pl) (hv : ValidB f)
 (hI : ∀ pre W W', I pre W → Keep (fun k => k = bm ∨ U ≤ k) W W' → Cache W' bm (waysV f) → I pre W')
 (hY : ∀ pre x W1, x ∈ T → I pre W1 → LookH W1 L b bm f a → YieldAt Fence.wide 0 Tryz.prog l #[plVal x] W1 fun e W' =>
  Keep C W1 W' ∧ Cache W' bm (waysV f) ∧ ((e = .returned (.bool true) ∧ I (pre ++ [x]) W') ∨ (e = .returned (.bool false) ∧ Ix (pre ++ [x]) W'))) :
 ∀ (d lot : Nat), lot + d = f.hours.length → ∀ (g s last : List Int) (pre : List (List Int)) (W : World), g.length = lot → StAt f g s → PlOk last → last ∉ todoP f d lot g →
  (∀ x ∈ todoP f d lot g, okL f x = true → x ∈ T) → ItM W L U b bm p1 py pn ps pl l f a s last → I pre W →
  Calls Tryz.prog 301 #[.int .i64 (lot : Int), .pointer (some ⟨p1, 0, none⟩), .pointer (some ⟨ps, 0, none⟩), .pointer (some ⟨pl, 0, none⟩), .pointer (some ⟨py, 0, none⟩), .pointer (some ⟨pn, 0, none⟩)] W
   (NextPost C L U b bm p1 py pn ps pl l f a I Ix pre W (todoP f d lot g) last (StAt f g)) := by
 intro d
 induction d with
 | zero =>
  intro lot hlot g s last pre W hg hs hlok hni hT hM h0
  obtain rfl : lot = f.hours.length := by omega
  have hd := hs.done hg hv.hours
  rw [todo_zero, ← hd] at hni hT ⊢
  refine (next_leaf F hv hI hY (hs.plB hg) hlok (fun e => hni (by simp [e])) (fun h => hT s (by simp) h) hM h0).mono ?_
  rintro e W' (⟨h1, h2, h3, s', last', h4, h5, h6⟩ | h)
  · exact .inl ⟨h1, h2, h3, s', last', h4, by rw [h5]; exact hs, h6⟩
  · exact .inr h
 | succ d ih =>
  intro lot hlot g s last pre W hg hs hlok hni hT hM h0
  have hlt : lot < f.hours.length := by omega
  have IH := hide (ih (lot + 1) (by omega))
  clear ih
  have hll := hv.hours
  have e1 := hM.e1
  obtain ⟨zb, -, q2, -, -⟩ := hM.look.cells
  have hq : ((lot : Int) == (f.hours.length : Int)) = false := by simp; omega
  obtain ⟨bl, ol, hA3, hbl, t0, t1, t2⟩ := hM.look.hour hlt
  rw [hA3] at q2
  have hsp := show 0 ≤ (nth f.hours lot).load.lo ∧ (nth f.hours lot).load.lo ≤ (nth f.hours lot).load.hi ∧ (nth f.hours lot).load.hi ≤ 40 from ⟨(hv.lo lot hlt).1, (hv.hi lot hlt).1, (hv.hi lot hlt).2⟩
  have hm3 := hM.look.v.m1
  unfold maxLen at hm3
  generalize a.c1 = c1 at *
  have hl0 : (0 : Int) ≤ (lot : Int) := Int.natCast_nonneg _
  have hl1 : (lot : Int) < (f.hours.length : Int) := by omega
  have hl2 : (lot : Int) < 4 := by omega
  have HM := hide hM
  have HV := hide hv
  have HF := hide F
  have H0 := hide h0
  have HS := hide hs
  have HNI := hide hni
  have HT := hide hT
  have HY := hide hY
  have HIS := hide hI
  have HG := hide hg
  have HSP := hide hsp
  clear hM hv F h0 hs hni hT hY hI hg hsp hlot hA3
  have z1 := cell_lt e1
  have zl := cell_lt t0
  go_enter Tryz.func301, Tryz.ntmps301
  go_upto_region 14 with (fail)
  have hA : Below W.heap.size W (W.alloc (.cells #[.int .i64 (nth f.hours lot).load.lo, .int .i64 (nth f.hours lot).load.hi] 28)) := (Below.refl _ _).alloc (Nat.le_refl _) _
  have hbx : Blk (W.alloc (.cells #[.int .i64 (nth f.hours lot).load.lo, .int .i64 (nth f.hours lot).load.hi] 28)) W.heap.size 28 #[.int .i64 (nth f.hours lot).load.lo, .int .i64 (nth f.hours lot).load.hi] := Blk.made
  generalize (W.alloc (.cells #[.int .i64 (nth f.hours lot).load.lo, .int .i64 (nth f.hours lot).load.hi] 28)) = W1 at *
  have x0 := hbx.at_ 0
  have x1 := hbx.at_ 1
  simp only [List.getElem?_toArray, List.getElem?_cons_zero, List.getElem?_cons_succ] at x0 x1
  have hsz := hbx.lt
  have HX1 := hide x1
  have HK1 : Hid (Keep (fun k => k = bm ∨ k = ps ∨ k = pl ∨ C k) W W1) := Keep.of_below' hA _
  have HM1 := hide (HM.out.still HF.out hA)
  have H1 := hide (HIS.out pre W W1 H0.out (Keep.of_below' hA _) HM1.out.look.k)
  clear hbx x1 hA t0 t1 t2 e1 q2
  have hlo := HSP.out.1
  have hhi := HSP.out.2.1
  have h40 := HSP.out.2.2
  generalize hlo' : (nth f.hours lot).load.lo = lo at *
  generalize hhi' : (nth f.hours lot).load.hi = hi at *
  have HLO' := hide hlo'
  have HHI' := hide hhi'
  clear hlo' hhi'
  go_wp2_with fail
  go_loopw [12] (fun v12 wr => ∃ (x : Int) (s' last' : List Int), lo ≤ x ∧ x ≤ hi + 1 ∧ v12 = .int .i64 x ∧ ItM wr L U b bm p1 py pn ps pl l f a s' last' ∧ Hid (StAt f g s') ∧ PlOk last' ∧
   Hid (last' = last ∨ last' ∈ todoP f (d + 1) lot g) ∧ Hid (∀ y, lo ≤ y → y ≤ hi → x ≤ y → last' ∉ todoP f d (lot + 1) (g ++ [y])) ∧ I (pre ++ (doneTo f d lot g x).filter (okL f)) wr ∧ Keep (fun k => k = bm ∨ k = ps ∨ k = pl ∨ C k) W1 wr) (fun v12 _ => (hi + 1 - intOf v12).toNat)
  case atStart =>
   refine ⟨lo, s, last, by omega, by omega, rfl, HM1.out, HS, hlok, hide (.inl rfl), hide (fun y h1 h2 _ hm => HNI.out ?_), ?_, Keep.refl _ _⟩
   · rw [todo_succ, List.mem_flatMap]
     exact ⟨y, mem_spanVals.2 ⟨by have := HLO'.out; omega, by have := HHI'.out; omega⟩, hm⟩
   · have hd0 := doneTo_lo f d lot g
     rw [HLO'.out] at hd0
     rw [hd0]; simpa using H1.out
  case round =>
   clear HM1 H1
   obtain ⟨x, s', last', hx0, hx1, rfl, hMr, HSr, hlok', HLr, HNr, hIr, hkr⟩ := hrel
   have hns : ¬ (W.heap.size = bm ∨ W.heap.size = ps ∨ W.heap.size = pl ∨ C W.heap.size) := by
    have f1 := HF.out.hm
    have f2 := HF.out.hLU
    have f3 := HM.out.rl.lt
    have f4 := HM.out.rs.lt
    rintro (h | h | h | h)
    · omega
    · omega
    · omega
    · have h' := HF.out.c _ h; omega
   have y1 := (hkr.cell (o := 1) hsz hns).trans HX1.out
   have HMr := hide hMr
   have HIr := hide hIr
   have HKr := hide hkr
   clear hns hMr hIr hkr
   by_cases hxh : x ≤ hi
   · have ey := HMr.out.en
     have r1 := HMr.out.rs.cell (i := lot) (by omega)
     have r2 := HMr.out.rs.frozen lot
     have hn1 : ¬ pn = ps := HF.out.n.2.1
     have hn2 : ¬ ps = pn := fun h => hn1 h.symm
     have hbx : -9223372036854775808 ≤ x ∧ x ≤ 100 := by omega
     go_upto_region 18 with (fail)
     have hT4 : OwnE 236 (wr.setCell ⟨ps, lot, none⟩ (.int .i64 x)) U ps 4 (plRow (s'.set lot x)) := by
      rw [← plRow_set HSr.out.len (by omega)]; exact HMr.out.rs.set lot x
     have hk4 : Keep (fun k => k = ps) wr (wr.setCell ⟨ps, lot, none⟩ (.int .i64 x)) := Keep.setCell _ _ _ _ rfl
     have ey' := (hk4.cell (o := 0) (b := pn) (cell_lt ey) hn1).trans ey
     generalize (wr.setCell ⟨ps, lot, none⟩ (.int .i64 x)) = w4 at *
     have hM4 := HMr.out.turn HF.out (hk4.mono (fun k _ h => .inl h)) hT4 (HMr.out.rl.block (hk4.block _ HMr.out.rl.lt.2 (fun h => HF.out.sl h.symm)))
     have hI4 := HIS.out _ wr w4 HIr.out (hk4.mono (fun k _ h => by have := HF.out.s; right; omega)) hM4.look.k
     have hst := HSr.out.set (x := x) (by rw [HG.out]; omega) hll (by omega) (by rw [HG.out, HLO'.out, HHI'.out]; omega)
     rw [HG.out] at hst
     have IHC := hide (IH.out (g ++ [x]) _ last' _ w4 (by simp [HG.out]) hst hlok' (HNr.out x hx0 hxh (Int.le_refl _)) (fun z hz hok => HT.out z (by
      rw [todo_succ, List.mem_flatMap]
      exact ⟨x, mem_spanVals.2 ⟨by have := HLO'.out; omega, by have := HHI'.out; omega⟩, hz⟩) hok) hM4 hI4)
     have HK4 := hide (HKr.out.trans (hk4.mono (S' := fun k => k = bm ∨ k = ps ∨ k = pl ∨ C k) (fun k _ h => .inr (.inl h))))
     have hdn := doneTo_succ (b := f) (d := d) (k := lot) (g := g) (x := x) (by have := HLO'.out; omega) (by have := HHI'.out; omega)
     have HDN := hide hdn
     have hnat : ((lot + 1 : Nat) : Int) = (lot : Int) + 1 := by omega
     rw [hnat] at IHC
     clear hT4 hk4 hM4 hI4 hst r1 r2 ey y1 hdn hnat
     go_wp2_with (refine IHC.out.mono ?_; rintro e W' (⟨rfl, hI5, hk5, s5, last5, hM5, hR5, hl5, hlok5⟩ | ⟨rfl, ⟨q, hq0, hqp, hIx5⟩, hn5, hk5⟩))
     · refine ⟨⟨x + 1, s5, last5, by omega, by omega, rfl, hM5, hide hR5.less, hlok5, hide ?_, hide ?_, ?_, HK4.out.trans hk5⟩, by simp [intOf]; omega⟩
       · rcases hl5 with rfl | h
         · exact HLr.out
         · right
           rw [todo_succ, List.mem_flatMap]
           exact ⟨x, mem_spanVals.2 ⟨by have := HLO'.out; omega, by have := HHI'.out; omega⟩, h⟩
       · intro y h1 h2 h3 hm
         rcases hl5 with rfl | h
         · exact HNr.out y h1 h2 (by omega) hm
         · have := todo_apart h hm; omega
       · rw [HDN.out, List.filter_append, ← List.append_assoc]; exact hI5
     · go_ret
       refine .inr ⟨rfl, ⟨(doneTo f d lot g x).filter (okL f) ++ q, by simp [hq0], ?_, by rw [← List.append_assoc]; exact hIx5⟩, hn5, HK1.out.trans (HK4.out.trans hk5)⟩
       obtain ⟨r, hr⟩ := hqp
       have hpre : doneTo f d lot g (x + 1) <+: todoP f (d + 1) lot g := by
        rw [todo_succ, doneTo]
        exact take_flat_prefix _ _ _
       have h2 := hpre.filter (okL f)
       rw [HDN.out, List.filter_append, ← hr] at h2
       exact (List.prefix_append_right_inj _).2 (List.prefix_append q r) |>.trans h2
   · have hxe : hi < x := by omega
     go_wp2
     go_ret
     refine .inl ⟨rfl, ?_, HK1.out.trans HKr.out, s', last', HMr.out, HSr.out, HLr.out, hlok'⟩
     rw [← doneTo_all (x := x) (by rw [HHI'.out]; exact hxe) (by rw [HLO'.out]; exact hx0)]
     exact HIr.out
end Go.Proofs.YtkaahiddngmdbaaGreatDoor
