/- The contract of chain's fares, asked for slips. -/
import Derived.Test.YtkaahiddngmdbaaGreatDoorDE
import Derived.Maps.RangeWalk
set_option linter.unusedVariables false
set_option linter.unusedSimpArgs false
namespace Go.Proofs.YtkaahiddngmdbaaGreatDoor
open Go.RowKit
open Go.Maps (Keyed)

/-- Block b is a map of whole numbers of which the keys are just S. -/
def KeysM (w : World) (b n : Nat) (S : Int → Prop) : Prop := ∃ D : DataW Unit, w.ownsMap Tryz.prog 3 (plainElem Tryz.prog 3) b n D ∧ ∀ x, wfI x → (Maps.has D (.int .i64 x) = true ↔ S x)
theorem Tryz.keyedI : Keyed Tryz.prog 3 := Maps.int_keyed Tryz.underlying3
section
variable {w w' : World} {b n : Nat} {S S' : Int → Prop}
theorem KeysM.lt (h : KeysM w b n S) : b < w.heap.size := by obtain ⟨D, h, _⟩ := h; exact h.lt
theorem ownsMap_same {D : DataW Unit} {R : Value → Option (DataW Unit × List MemPlace)} (h : w.ownsMap Tryz.prog 3 R b n D) (hb : w'.heap[b]? = w.heap[b]?) : w'.ownsMap Tryz.prog 3 R b n D := by
 obtain ⟨es, clock, h1, h2⟩ := h
 exact ⟨es, clock, hb.trans h1, h2⟩
theorem KeysM.same (h : KeysM w b n S) (hb : w'.heap[b]? = w.heap[b]?) : KeysM w' b n S := by obtain ⟨D, h, hs⟩ := h; exact ⟨D, ownsMap_same h hb, hs⟩
theorem KeysM.ext (h : KeysM w b n S) (hs : ∀ x, S x ↔ S' x) : KeysM w b n S' := by obtain ⟨D, h, h1⟩ := h; exact ⟨D, h, fun x hx => (h1 x hx).trans (hs x)⟩
theorem KeysM.made (w : World) : KeysM (w.alloc (.map #[] 0)) w.heap.size 0 (fun _ => False) := ⟨.map [], World.ownsMap_made w _ _ _, fun x _ => by simp [Maps.has_eq]⟩
end
theorem ranges_same {w w' : World} {b r n cnt : Nat} {D : DataW Unit} {left : Lit → Bool} {R : Value → Option (DataW Unit × List MemPlace)} (h : w.ranges Tryz.prog 3 R b r n D left cnt) (hb : w'.heap[b]? = w.heap[b]?) (hr : w'.heap[r]? = w.heap[r]?) : w'.ranges Tryz.prog 3 R b r n D left cnt := by
 obtain ⟨es, clock, since, seen, c0, h1, F, hs, hD, h2, rest⟩ := h
 exact ⟨es, clock, since, seen, c0, hb.trans h1, F, hs, hD, hr.trans h2, rest⟩
theorem run_zeroInt (w : World) : (zeroValue 3).run Tryz.prog w = .ok (.int .i64 0) w := by kernel_rfl
theorem lit_key (x : Int) : WideAt.IsKeyLit (.int .i64 x) := trivial
theorem KeysM.bump {w : World} {b n : Nat} {S : Int → Prop} (h : KeysM w b n S) (hn : n < maxLen) {x : Int} (hx : wfI x) :
 ∃ v, wfI v ∧ (Instr.lookup 488 (.map (some b)) (.int .i64 x) false).run Tryz.prog w = .ok (.int .i64 v) w ∧ ∀ u, wfI u → ∃ w', (Instr.mapUpdate 488 (.map (some b)) (.int .i64 x) (.int .i64 u)).run Tryz.prog w = .ok () w' ∧ KeysM w' b (n + 1) (fun y => S y ∨ y = x) ∧ w.grownBy w' (some b) := by
 obtain ⟨D, h1, h2⟩ := h
 have hk : keyOf Tryz.prog 3 (.int .i64 x) = some (.int .i64 x) := Maps.keyOf_int_mk Tryz.underlying3 hx
 obtain ⟨v, hrun, _, hwf⟩ := h1.lookup_int Tryz.keyedI Tryz.underlying488 Tryz.underlying3 (run_zeroInt w) hk
 refine ⟨v, hwf, hrun, fun u hu => ?_⟩
 obtain ⟨w', h3, h4, h5⟩ := h1.update Tryz.keyedI Tryz.underlying488 hn hk (plainElem_int Tryz.underlying3 hu)
 refine ⟨w', h3, ⟨_, h4, fun y hy => ?_⟩, h5⟩
 by_cases e : y = x
 · subst e
   rw [Maps.has_put_same h1.isMap (lit_key y)]
   simp
 · rw [Maps.has_put_other (fun e2 => e (by cases e2; rfl)), h2 y hy]
   simp [e]
set_option maxHeartbeats 400000 in
theorem slips1_any (h l : Int) (y : Way) (w : World) :
 Calls Tryz.prog 356 #[.int .i64 h, .int .i64 l, .agg #[.int .i64 y.counts, .int .i64 y.shows, .bool y.zero]] w fun e w' => e = .returned (.bool (y.counts != l)) ∧ Below w.heap.size w w' := by
 go_enter Tryz.func356, Tryz.ntmps356
 go_wp2_with fail
 go_ret
 exact ⟨rfl, (Below.refl _ _).alloc (Nat.le_refl _) _⟩
theorem KeysM.range {w : World} {b n : Nat} {S : Int → Prop} (h : KeysM w b n S) : ∃ w' D, (Instr.range 488 (.map (some b))).run Tryz.prog w = .ok (.pointer (some ⟨w.heap.size, 0, none⟩)) w' ∧ w'.ranges Tryz.prog 3 (plainElem (H := Unit) Tryz.prog 3) b w.heap.size n D (Maps.has D) (Maps.size D) ∧ Maps.size D ≤ n ∧ (∀ x, wfI x → (Maps.has D (.int .i64 x) = true ↔ S x)) ∧ Below w.heap.size w w' ∧ w'.heap.size = w.heap.size + 1 := by
 obtain ⟨D, h1, h2⟩ := h
 obtain ⟨w', h3, h4, h5, h6⟩ := h1.range Tryz.keyedI Tryz.underlying488
 exact ⟨w', D, h3, h4, h1.size_le, h2, ⟨h5.os, h5.tape, h5.output, h5.size, fun k hk => h5.block k hk (by simp)⟩, h6⟩
/-- A step of a range over such a map. -/
theorem ranges_next {w : World} {b r n cnt : Nat} {D : DataW Unit} {left : Lit → Bool} (h : w.ranges Tryz.prog 3 (plainElem Tryz.prog 3) b r n D left cnt) (ty : TypeId) :
 (cnt = 0 ∧ (∀ kl, left kl = false) ∧ (Instr.next (.pointer (some ⟨r, 0, none⟩)) false ty).run Tryz.prog w = .ok (.tuple #[.bool false]) w) ∨
 ∃ x v w' cnt', wfI x ∧ left (.int .i64 x) = true ∧ (Instr.next (.pointer (some ⟨r, 0, none⟩)) false ty).run Tryz.prog w = .ok (.tuple #[.bool true, .int .i64 x, .int .i64 v]) w' ∧
  w'.ranges Tryz.prog 3 (plainElem Tryz.prog 3) b r n D (fun z => left z && !z.sameKey (.int .i64 x)) cnt' ∧ cnt' < cnt ∧ w.grownBy w' (some r) ∧ w'.heap.size = w.heap.size ∧ (Instr.entry (.pointer (some ⟨r, 0, none⟩))).run Tryz.prog w' = .ok (.tuple #[.int .i64 x, .int .i64 v]) w' := by
 rcases h.next Tryz.keyedI ty with h1 | ⟨key, v, kl, y, w', cnt', hkey, hlk, hv, _, hrun, hrg, hlt, hgr, hsz, hen⟩
 · exact .inl h1
 · obtain ⟨x, rfl, rfl, hwx⟩ := Maps.keyOf_int_inv Tryz.underlying3 hkey
   obtain ⟨c, rfl, _, _⟩ := plainElem_int_inv Tryz.underlying3 hv
   exact .inr ⟨x, c, w', cnt', hwx, hlk, hrun, hrg, hlt, hgr, hsz, hen⟩
theorem WayBlk.noMap {w : World} {b : Nat} {es : Array MapEntry} {c : Nat} (h : w.heap[b]? = some (.map es c)) : ¬ WayBlk w b := fun ⟨_, _, e⟩ => by rw [h] at e; cases e
theorem KeysM.notWay {w : World} {b n : Nat} {S : Int → Prop} (h : KeysM w b n S) : ¬ WayBlk w b := by
 obtain ⟨D, ⟨es, c, h1, _⟩, _⟩ := h
 exact WayBlk.noMap h1
theorem ranges_notWay {w : World} {b r n cnt : Nat} {D : DataW Unit} {left : Lit → Bool} {R : Value → Option (DataW Unit × List MemPlace)} (h : w.ranges Tryz.prog 3 R b r n D left cnt) : ¬ WayBlk w r := by
 obtain ⟨es, clock, since, seen, c0, h1, F, hs, hD, h2, rest⟩ := h
 rintro ⟨_, _, e⟩
 rw [h2] at e; cases e
theorem ranges_lt {w : World} {b r n cnt : Nat} {D : DataW Unit} {left : Lit → Bool} {R : Value → Option (DataW Unit × List MemPlace)} (h : w.ranges Tryz.prog 3 R b r n D left cnt) : r < w.heap.size := by
 obtain ⟨es, clock, since, seen, c0, h1, F, hs, hD, h2, rest⟩ := h
 exact (Array.getElem?_eq_some_iff.1 h2).1
theorem ranges_lt' {w : World} {b r n cnt : Nat} {D : DataW Unit} {left : Lit → Bool} {R : Value → Option (DataW Unit × List MemPlace)} (h : w.ranges Tryz.prog 3 R b r n D left cnt) : b < w.heap.size := by
 obtain ⟨es, clock, since, seen, c0, h1, F, hs, hD, h2, rest⟩ := h
 exact (Array.getElem?_eq_some_iff.1 h1).1
theorem mem_nth {α : Type} [Inhabited α] {l : List α} {k : Nat} (h : k < l.length) : nth l k ∈ l := by rw [nth_eq h]; exact List.getElem_mem h
theorem wrow_still {w w' : World} {A : Option Addr} {m : Nat} {f : Nat → Value} (h : WRow w A m f) (hB : Below w.heap.size w w') : WRow w' A m f := fun hm => by
 obtain ⟨k, ek, hw, hc⟩ := h hm
 have hh := hB.block k hw.lt
 refine ⟨k, ek, ?_, fun j hj => (World.cell?_of_block hh).trans (hc j hj)⟩
 obtain ⟨cs, fr, e⟩ := hw
 exact ⟨cs, fr, hh.trans e⟩
theorem more_set {S2 : Int → Prop} {l : List Way} {z : Way} {f : Way → List Int} {y : Int} : (S2 y ∨ ∃ z' ∈ l ++ [z], y ∈ f z') ↔ (S2 y ∨ ∃ z' ∈ l, y ∈ f z') ∨ y ∈ f z := by
 constructor
 · rintro (h | ⟨z', h1, h2⟩)
   · exact .inl (.inl h)
   · rcases List.mem_append.1 h1 with h1 | h1
     · exact .inl (.inr ⟨z', h1, h2⟩)
     · obtain rfl : z' = z := by simpa using h1
       exact .inr h2
 · rintro ((h | ⟨z', h1, h2⟩) | h)
   · exact .inl h
   · exact .inr ⟨z', List.mem_append.2 (.inl h1), h2⟩
   · exact .inr ⟨z, by simp, h⟩
theorem coff_1d {w : World} {b : Nat} (hb : w.heap.size = b) (lo hi x : Int) :
 Calls Tryz.prog 114 #[.int .i64 lo, .int .i64 hi, .slice (some ⟨b, 0, none⟩) 1 1] (w.alloc (.cells #[.int .i64 x] 3)).drew fun e w' => e = .returned (.bool (offP lo hi x)) ∧ Below w.heap.size w w' :=
 (coff_1 (w := w.drew) hb lo hi x).mono fun _ _ ⟨he, h⟩ => ⟨he, ((Below.refl _ w).drew).trans h⟩
theorem LookH.grown {w w' : World} {L g bm r : Nat} {b : Board} {a : BrdA} (h : LookH w L g bm b a) (hg : w.grownBy w' (some r)) (h1 : L ≤ r) (h2 : r ≠ g) (h3 : r ≠ bm) (h4 : ¬ WayBlk w r) : LookH w' L g bm b a :=
 h.keep (Keep.of_grown hg) (fun k hk => by cases hk; exact ⟨h1, h2⟩) (h.k.keep (Keep.of_grown hg) fun k hk => by cases hk; exact ⟨h3, h4⟩)
theorem Keep.grown {S : Nat → Prop} {w0 w w' : World} {r : Nat} (h : Keep S w0 w) (hg : w.grownBy w' (some r)) (hr : w0.heap.size ≤ r) : Keep S w0 w' :=
 h.trans' ((Keep.of_grown hg).mono fun k _ hk => by cases hk; exact hr) h.size
theorem seen_more {D : DataW Unit} {left : Lit → Bool} {p : Int → Prop} [DecidablePred p] {nt : Bool} {x : Int} (hx : wfI x) (hh : Maps.has D (.int .i64 x) = true) (_ : left (.int .i64 x) = true)
 (h : nt = true ↔ ∃ y, wfI y ∧ Maps.has D (.int .i64 y) = true ∧ left (.int .i64 y) = false ∧ p y) : ((nt || decide (p x)) = true ↔ ∃ y, wfI y ∧ Maps.has D (.int .i64 y) = true ∧ (left (.int .i64 y) && !(Lit.int .i64 y).sameKey (.int .i64 x)) = false ∧ p y) := by
 rw [Bool.or_eq_true, h, decide_eq_true_eq]
 constructor
 · rintro (⟨y, h1, h2, h3, h4⟩ | h4)
   · exact ⟨y, h1, h2, by rw [h3]; rfl, h4⟩
   · exact ⟨x, hx, hh, by simp [Lit.sameKey], h4⟩
 · rintro ⟨y, h1, h2, h3, h4⟩
   by_cases e : y = x
   · subst e; exact .inr h4
   · refine .inl ⟨y, h1, h2, ?_, h4⟩
     simpa [Lit.sameKey, e] using h3
abbrev lsVal (l0 l1 l2 l3 : Int) : Value := .agg #[.int .i64 l0, .int .i64 l1, .int .i64 l2, .int .i64 l3]
set_option maxHeartbeats 2000000 in
set_option maxRecDepth 100000 in
theorem fares_any {w : World} {L g bm : Nat} {b : Board} {a : BrdA} (h : LookH w L g bm b a) (hv : ValidB b) {c : Nat} (hc : c < b.ctrs.length) {l0 l1 l2 l3 : Int} (hls : ∀ k, 0 ≤ nth [l0, l1, l2, l3] k ∧ nth [l0, l1, l2, l3] k ≤ 40) :
 Calls Tryz.prog 302 #[.pointer (some ⟨g, 0, none⟩), .int .i64 c, lsVal l0 l1 l2 l3, .agg #[.func (.func 356) #[] #[]]] w fun e w' =>
  e = .returned (.tuple #[.bool (notM b c [l0, l1, l2, l3] slipsP), .bool (metM b c [l0, l1, l2, l3] slipsP)]) ∧ Keep (fun k => k = bm) w w' ∧ Cache w' bm (waysV b) := by
 have hvh := hv.hours
 have hvc := hv.ctrs
 have hmm := @run_makeMap Tryz.prog
 have b1 : Below w.heap.size w (w.alloc (.cells #[.int .i64 l0, .int .i64 l1, .int .i64 l2, .int .i64 l3] 236)) := (Below.refl _ _).alloc (Nat.le_refl _) _
 have k1 : Blk (w.alloc (.cells #[.int .i64 l0, .int .i64 l1, .int .i64 l2, .int .i64 l3] 236)) w.heap.size 236 #[.int .i64 l0, .int .i64 l1, .int .i64 l2, .int .i64 l3] := Blk.made
 have b2 : Below (w.alloc (.cells #[.int .i64 l0, .int .i64 l1, .int .i64 l2, .int .i64 l3] 236)).heap.size (w.alloc (.cells #[.int .i64 l0, .int .i64 l1, .int .i64 l2, .int .i64 l3] 236)) ((w.alloc (.cells #[.int .i64 l0, .int .i64 l1, .int .i64 l2, .int .i64 l3] 236)).alloc (.cells #[.func (.func 356) #[] #[]] 439)) := (Below.refl _ _).alloc (Nat.le_refl _) _
 have k2 : Blk ((w.alloc (.cells #[.int .i64 l0, .int .i64 l1, .int .i64 l2, .int .i64 l3] 236)).alloc (.cells #[.func (.func 356) #[] #[]] 439)) (w.heap.size + 1) 439 #[.func (.func 356) #[] #[]] := Blk.made' (World.size_alloc _ _)
 have HK1 := hide (k1.next b2)
 have HL := hide ((h.still b1).still b2)
 have HB := hide (b1.trans (b2.mono (by simp)))
 have HK2 := hide k2
 have HV := hide hv
 have HLS := hide hls
 clear h hv b1 b2 k1 k2 hls
 go_enter Tryz.func302, Tryz.ntmps302
 go_upto_region 1 with (fail)
 generalize ((w.alloc (.cells #[.int .i64 l0, .int .i64 l1, .int .i64 l2, .int .i64 l3] 236)).alloc (.cells #[.func (.func 356) #[] #[]] 439)) = wz at *
 have hwz := HB.out.size
 have hk1 := HK1.out.lt
 have hk2 := HK2.out.lt
 obtain ⟨hgl, p0, p1, p2, p3⟩ := HL.out.cells
 obtain ⟨kc, oc, ec, hkc, c0, c1, c2, c3, c4, c5⟩ := HL.out.v.ctrs.ctrs hc
 have HEC := hide ec
 rw [ec] at p2
 clear ec
 have hLz := HL.out.hL
 have z2 : kc < wz.heap.size := by omega
 have hm2 := HL.out.v.m2
 have hm1 := HL.out.v.m1
 unfold maxLen at hm1 hm2
 have j0 : (0 : Int) ≤ (c : Int) := Int.natCast_nonneg _
 have j1 : (c : Int) < (b.ctrs.length : Int) := by omega
 have hst := HV.out.start c hc
 obtain ⟨v0, _, _, hup⟩ := (KeysM.made wz).bump (by simp [maxLen]) (x := (nth b.ctrs c).start) ((wfI_iff _).2 (by omega))
 obtain ⟨wm, hins, hkm, hgm⟩ := hup 1 ((wfI_iff _).2 (by decide))
 have HKM := hide (hkm.ext (S' := fun x => x ∈ setTo b c [l0, l1, l2, l3] slipsP 0) (fun x => by simp [setTo]))
 have hBm : Below wz.heap.size wz wm := ((Below.refl _ _).alloc (Nat.le_refl _) _).grown hgm (by simp) (fun k hk => by simp at hk; omega)
 have HBM := hide hBm
 have q1 := (hBm.cell (p := ⟨g, 1, none⟩) hgl).trans p1
 have hgl2 : g < wm.heap.size := by have := hBm.size; omega
 clear hup hkm hgm hBm
 go_upto_region 4 with (fail)
 have HC := hide (HL.out.v)
 have HW := hide (HL.out.k)
 have hne := HL.out.ne
 have hmz : bm < wz.heap.size := HL.out.k.lt
 have HKM0 : Hid (LookH wm L g bm b a) := HL.out.keep (Keep.of_below' HBM.out (fun _ => False)) (fun _ h => h.elim) (HL.out.k.below HBM.out)
 have hzm := HBM.out.size
 have hkeep0 : Keep (fun k => k = bm) wz wm := Keep.of_below' HBM.out _
 clear c0 c1 c2 c3 c4 c5 p0 p1 p2 p3 q1 hins hmm
 go_loopw [39, 10] (fun V39 V10 wr => ∃ (k n B : Nat), k ≤ b.hours.length ∧ V39 = .int .i64 k ∧ V10 = .map (some B) ∧ KeysM wr B n (fun x => x ∈ setTo b c [l0, l1, l2, l3] slipsP k) ∧ n ≤ 90 ^ k ∧ wz.heap.size ≤ B ∧ LookH wr L g bm b a ∧ Keep (fun q => q = bm) wz wr) (fun V39 _ _ => b.hours.length - (intOf V39).toNat)
 case atStart => exact ⟨0, 0 + 1, wz.heap.size, by omega, rfl, rfl, HKM.out, by omega, Nat.le_refl _, HKM0.out, hkeep0⟩
 case round =>
  clear hkeep0
  obtain ⟨k, n, B, hk, hV, rfl, hKM, hnk, hB, hLr, hKr⟩ := hrel
  by_cases hlt : k < b.hours.length
  · subst hV
    have i0 : (0 : Int) ≤ (k : Int) := Int.natCast_nonneg _
    have i1 : (k : Int) < (b.hours.length : Int) := by omega
    obtain ⟨hgr, p0, p1, p2, p3⟩ := hLr.cells
    obtain ⟨kc', oc', ec, hkc', c0, c1, c2, c3, c4, c5⟩ := hLr.v.ctrs.ctrs hc
    rw [HEC.out] at ec
    simp only [Option.some.injEq, Addr.mk.injEq, and_true] at ec
    obtain ⟨rfl, rfl⟩ := ec
    rw [HEC.out] at p2
    have hLr2 := hLr.hL
    have z3 : kc < wr.heap.size := by omega
    have hmm := @run_makeMap Tryz.prog
    go_upto_region 7 with (fail)
    have hb6 : Below wr.heap.size wr ((wr.alloc (.map #[] 0)).alloc (.cells #[.string (nth b.ctrs c).name, .int .i64 (nth b.ctrs c).skip, .int .i64 (nth b.ctrs c).twice, .int .i64 (nth b.ctrs c).start, .slice (nth a.ca c).az (nth b.ctrs c).zero.length (nth a.ca c).cz, .slice (nth a.ca c).aw (nth b.ctrs c).shown.length (nth a.ca c).cw] 126)) := ((Below.refl _ _).alloc (Nat.le_refl _) _).alloc (by simp) _
    have hn6 : KeysM ((wr.alloc (.map #[] 0)).alloc (.cells #[.string (nth b.ctrs c).name, .int .i64 (nth b.ctrs c).skip, .int .i64 (nth b.ctrs c).twice, .int .i64 (nth b.ctrs c).start, .slice (nth a.ca c).az (nth b.ctrs c).zero.length (nth a.ca c).cz, .slice (nth a.ca c).aw (nth b.ctrs c).shown.length (nth a.ca c).cw] 126)) wr.heap.size 0 (fun _ => False) := (KeysM.made wr).same (Below.heap_alloc _ _ _ (by simp))
    have hp6 : Blk ((wr.alloc (.map #[] 0)).alloc (.cells #[.string (nth b.ctrs c).name, .int .i64 (nth b.ctrs c).skip, .int .i64 (nth b.ctrs c).twice, .int .i64 (nth b.ctrs c).start, .slice (nth a.ca c).az (nth b.ctrs c).zero.length (nth a.ca c).cz, .slice (nth a.ca c).aw (nth b.ctrs c).shown.length (nth a.ca c).cw] 126)) (wr.heap.size + 1) 126 #[.string (nth b.ctrs c).name, .int .i64 (nth b.ctrs c).skip, .int .i64 (nth b.ctrs c).twice, .int .i64 (nth b.ctrs c).start, .slice (nth a.ca c).az (nth b.ctrs c).zero.length (nth a.ca c).cz, .slice (nth a.ca c).aw (nth b.ctrs c).shown.length (nth a.ca c).cw] := Blk.made' (World.size_alloc _ _)
    generalize ((wr.alloc (.map #[] 0)).alloc (.cells #[.string (nth b.ctrs c).name, .int .i64 (nth b.ctrs c).skip, .int .i64 (nth b.ctrs c).twice, .int .i64 (nth b.ctrs c).start, .slice (nth a.ca c).az (nth b.ctrs c).zero.length (nth a.ca c).cz, .slice (nth a.ca c).aw (nth b.ctrs c).shown.length (nth a.ca c).cw] 126)) = w6 at *
    have hKM6 := hKM.same (hb6.block B hKM.lt)
    have hL6 := hLr.still hb6
    have hK6 : Keep (fun q => q = bm) wz w6 := hKr.trans (Keep.of_below' hb6 _)
    have hzr := hKr.size
    have hBne : B ≠ wr.heap.size := by have := hKM.lt; omega
    have hBlt := hKM6.lt
    obtain ⟨w7, D, hrange, hrg, hcn, hD, hB7, hsz7⟩ := hKM6.range
    have hn7 := hn6.same (hB7.block _ hn6.lt)
    have hp7 := hp6.next hB7
    have hL7 := hL6.still hB7
    have hK7 : Keep (fun q => q = bm) wz w7 := hK6.trans (Keep.of_below' hB7 _)
    have hz6 : wr.heap.size + 1 < w6.heap.size := hp6.lt
    generalize hN : wr.heap.size = N at *
    clear p0 p1 p2 p3 c0 c1 c2 c3 c4 c5 hKM6 hL6 hK6 hn6 hp6 hb6 hLr hKr hLr2 hgr z3 hmm
    go_upto_region 8 with (fail)
    clear hrange
    generalize hr : w6.heap.size = r at *
    have HD := hide hD
    clear hD
    go_loopw [53] (fun V53 w8 => ∃ (left : Lit → Bool) (cnt n2 : Nat), w8.ranges Tryz.prog 3 (plainElem Tryz.prog 3) B r n D left cnt ∧ Hid (∀ x, left (.int .i64 x) = true → Maps.has D (.int .i64 x) = true) ∧ KeysM w8 N n2 (fun y => ∃ x, wfI x ∧ Maps.has D (.int .i64 x) = true ∧ left (.int .i64 x) = false ∧ y ∈ stepAt b c k (nth [l0, l1, l2, l3] k) (slipsP k (nth [l0, l1, l2, l3] k)) x) ∧ n2 + cnt * 88 ≤ n * 88 ∧ LookH w8 L g bm b a ∧ Keep (fun q => q = bm) wz w8 ∧ Blk w8 (N + 1) 126 #[.string (nth b.ctrs c).name, .int .i64 (nth b.ctrs c).skip, .int .i64 (nth b.ctrs c).twice, .int .i64 (nth b.ctrs c).start, .slice (nth a.ca c).az (nth b.ctrs c).zero.length (nth a.ca c).cz, .slice (nth a.ca c).aw (nth b.ctrs c).shown.length (nth a.ca c).cw]) (fun _ w8 => w8.rangeLeft B r)
    case atStart => exact ⟨_, _, 0, hrg, fun x hx => hx, hn7.ext (fun y => ⟨fun hf => hf.elim, fun ⟨x, _, h1, h2, _⟩ => by rw [h1] at h2; cases h2⟩), by have := Nat.mul_le_mul_right 88 hcn; omega, hL7, hK7, hp7⟩
    case round =>
     clear hrg hn7 hp7 hL7 hK7
     obtain ⟨left, cnt, n2, hrg, hlf, hn2, hnn, hL8, hK8, hp8⟩ := hrel
     rcases ranges_next hrg 0 with ⟨hc0, hl0, hnx⟩ | ⟨x, v, w9, cnt', hwx, hlx, hnx, hrg9, hcl, hg9, hs9, hen⟩
     · go_wp2_with fail
       go_roundw
       case rel => exact ⟨k + 1, n2, N, by omega, by go_num, rfl, hn2.ext (fun y => by
        rw [setTo, List.mem_flatMap]
        constructor
        · rintro ⟨x, hwx, h1, _, h3⟩
          exact ⟨x, ((HD.out x hwx).1 h1), h3⟩
        · rintro ⟨x, h1, h3⟩
          have hb := set_bd HV.out hc [l0, l1, l2, l3] slipsP k hk x h1
          have hwx : wfI x := (wfI_iff x).2 (by omega)
          exact ⟨x, hwx, (HD.out x hwx).2 h1, hl0 _, h3⟩), by rw [Nat.pow_succ]; omega, by omega, hL8, hK8⟩
       case measure => simp [intOf]; omega
     · have hrw := ranges_notWay hrg
       have hw1 := HW.out.lt
       have hLz2 := HL.out.hL
       have hBr : B ≠ r := by have := hrg.left_eq; rintro rfl; exact absurd hB7.size (by omega)
       have hl9 := hL8.grown hg9 (by omega) (by omega) (by omega) hrw
       have hk9 := hK8.grown hg9 (by omega)
       have hlf9 : Hid (∀ y, (left (.int .i64 y) && !(Lit.int .i64 y).sameKey (.int .i64 x)) = true → Maps.has D (.int .i64 y) = true) := fun y hy => hlf.out y (by simp at hy; exact hy.1)
       have hHX := hide (hlf.out x hlx)
       have hb := set_bd HV.out hc [l0, l1, l2, l3] slipsP k hk x ((HD.out x hwx).1 hHX.out)
       have hn9 := hn2.same (hg9.block N hn2.lt (by intro e; cases e; omega))
       have hp9 := hp8.block (hg9.block (N + 1) hp8.lt (by intro e; cases e; omega))
       have hms : cnt' < wr.rangeLeft B r := by rw [hrg.left_eq]; exact hcl
       have HMS := hide hms
       clear hms hrg hlf hn2 hL8 hK8 hp8 hg9
       have hway := ways_any hl9 HV.out hc hlt (n := x % 100) (tm100 hb.1)
       have htm : x.tmod 100 = x % 100 := Int.tmod_eq_emod_of_nonneg hb.1
       go_upto_region 11 with (first
        | (go_at_call 355
           go_must (refine hway.mono ?_)
           rintro e w10 ⟨vw, rfl, hwa, hk10, hc10⟩
           obtain ⟨A, cA, rfl, hcA, hcA2, hrow⟩ := hwa))
       have hwl := ways_len HV.out hc hlt (x % 100)
       have HWB : Hid (∀ z ∈ waysV b ⟨c, k, x % 100⟩, 0 ≤ z.counts ∧ z.counts ≤ 43 ∧ 0 ≤ z.shows ∧ z.shows ≤ 99) := fun z hz => ways_bd HV.out hc hlt (tm100 hb.1).1 hz
       have HST : Hid (stepAt b c k (nth [l0, l1, l2, l3] k) (slipsP k (nth [l0, l1, l2, l3] k)) x = (waysV b ⟨c, k, x % 100⟩).flatMap (goesOn (nth b.ctrs c) (nth [l0, l1, l2, l3] k) x (slipsP k (nth [l0, l1, l2, l3] k)))) := rfl
       generalize waysV b ⟨c, k, x % 100⟩ = ws at *
       have hwz8 := hk9.size
       have hrz : r < w9.heap.size := ranges_lt hrg9
       have hBz : B < w9.heap.size := ranges_lt' hrg9
       have hrg10 := ranges_same hrg9 (hk10.block B hBz (by omega)) (hk10.block r hrz (by omega))
       have hn10 := hn9.same (hk10.block N hn9.lt (by omega))
       have hp10 := hp9.block (hk10.block (N + 1) hp9.lt (by omega))
       have hl10 := hl9.keep hk10 (fun q hq => by rw [hq]; exact ⟨hl9.hm, fun e => hne e.symm⟩) hc10
       have hK10 := hk9.trans hk10
       clear hn9 hp9 hl9 hk9 hk10 hc10 hway hrg9 hwz8
       generalize hS2 : (fun y => ∃ x, wfI x ∧ Maps.has D (.int .i64 x) = true ∧ left (.int .i64 x) = false ∧ y ∈ stepAt b c k (nth [l0, l1, l2, l3] k) (slipsP k (nth [l0, l1, l2, l3] k)) x) = S2 at *
       have HS2 := hide hS2
       clear hS2
       go_loopw [65] (fun V65 w11 => ∃ (m n3 : Nat), m ≤ ws.length ∧ V65 = .int .i64 m ∧ w11.ranges Tryz.prog 3 (plainElem Tryz.prog 3) B r n D (fun z => left z && !z.sameKey (.int .i64 x)) cnt' ∧ KeysM w11 N n3 (fun y => S2 y ∨ ∃ z ∈ ws.take m, y ∈ goesOn (nth b.ctrs c) (nth [l0, l1, l2, l3] k) x (slipsP k (nth [l0, l1, l2, l3] k)) z) ∧ n3 ≤ n2 + m ∧ LookH w11 L g bm b a ∧ Keep (fun q => q = bm) wz w11 ∧ Blk w11 (N + 1) 126 #[.string (nth b.ctrs c).name, .int .i64 (nth b.ctrs c).skip, .int .i64 (nth b.ctrs c).twice, .int .i64 (nth b.ctrs c).start, .slice (nth a.ca c).az (nth b.ctrs c).zero.length (nth a.ca c).cz, .slice (nth a.ca c).aw (nth b.ctrs c).shown.length (nth a.ca c).cw] ∧ WRow w11 A (ws.length * 3) (waysF ws)) (fun V65 _ => ws.length - (intOf V65).toNat)
       case atStart => exact ⟨0, n2, by omega, by go_num, hrg10, hn10.ext (fun y => by simp), by omega, hl10, hK10, hp10, hrow⟩
       case round =>
        clear hrg10 hn10 hl10 hK10 hp10 hrow
        obtain ⟨m, n3, hm, rfl, hrg, hn3, hn3n, hl, hK, hp, hrow⟩ := hrel
        by_cases hlt3 : m < ws.length
        · have hzm := HWB.out _ (mem_nth hlt3)
          obtain ⟨kw, rfl, hwk, hcs⟩ := hrow (by omega)
          have y0 := hcs (m * 3) (by omega)
          have y1 := hcs (m * 3 + 1) (by omega)
          have y2 := hcs (m * 3 + 2) (by omega)
          simp only [waysF, show m * 3 % 3 = 0 by omega, show (m * 3 + 1) % 3 = 1 by omega, show (m * 3 + 2) % 3 = 2 by omega, show m * 3 / 3 = m by omega, show (m * 3 + 1) / 3 = m by omega, show (m * 3 + 2) / 3 = m by omega] at y0 y1 y2
          have hkw := hwk.lt
          have i2 : (0 : Int) ≤ (m : Int) := Int.natCast_nonneg _
          have i3 : (m : Int) < (ws.length : Int) := by omega
          have hcs' := hide hcs
          clear hcs
          go_upto_region 13 with (fail)
          have hb12 : Below wr.heap.size wr (wr.alloc (.cells #[.int .i64 (nth ws m).counts, .int .i64 (nth ws m).shows, .bool (nth ws m).zero] 494)) := (Below.refl _ _).alloc (Nat.le_refl _) _
          have hk12 : Blk (wr.alloc (.cells #[.int .i64 (nth ws m).counts, .int .i64 (nth ws m).shows, .bool (nth ws m).zero] 494)) wr.heap.size 494 #[.int .i64 (nth ws m).counts, .int .i64 (nth ws m).shows, .bool (nth ws m).zero] := Blk.made
          generalize wr.alloc (.cells #[.int .i64 (nth ws m).counts, .int .i64 (nth ws m).shows, .bool (nth ws m).zero] 494) = w12 at *
          have hls := HLS.out k
          have HLQ : Hid (w.heap.size + 1 ≠ bm) := fun e => HW.out.ne (HK2.out.at_ 0) e
          have hlb : w.heap.size ≠ bm := HW.out.ne (HK1.out.at_ 0)
          have hqb := HLQ.out
          have hKz := hK.size
          have hz12 := hb12.size
          have hG12 := hk12.lt
          have f0 := hk12.at_ 0
          have f1 := hk12.at_ 1
          have f2 := hk12.at_ 2
          have hpn := hp.lt
          have e1 := (hp.next hb12).at_ 1
          have e2 := (hp.next hb12).at_ 2
          have hB1 : Blk w12 w.heap.size 236 #[.int .i64 l0, .int .i64 l1, .int .i64 l2, .int .i64 l3] := (HK1.out.keep hK hlb).next hb12
          have hB2 : Blk w12 (w.heap.size + 1) 439 #[.func (.func 356) #[] #[]] := (HK2.out.keep hK hqb).next hb12
          have d0 := hB2.at_ 0
          have g0 : w12.cell? ⟨w.heap.size, k, none⟩ = some (.int .i64 (nth [l0, l1, l2, l3] k)) := by
           have h := hB1.at_ k
           rw [h]
           have h4 : k < 4 := by omega
           rcases k with _ | _ | _ | _ | k
           · rfl
           · rfl
           · rfl
           · rfl
           · omega
          simp only [List.getElem?_toArray, List.getElem?_cons_succ, List.getElem?_cons_zero] at f0 f1 f2 e1 e2 d0
          have k4 : (k : Int) < 4 := by omega
          have hsk := HV.out.skip c hc
          have htw := HV.out.twice c hc
          generalize hL : nth [l0, l1, l2, l3] k = lk at *
          have HL2 := hide hL
          clear hL y0 y1 y2 hB1 hB2
          have hw1 : IntKind.i64.wrap ((nth ws m).counts - lk) = (nth ws m).counts - lk := IntWalk.i64_in _ (by omega)
          have hw2 : IntKind.i64.wrap (-(nth b.ctrs c).skip) = -(nth b.ctrs c).skip := IntWalk.i64_in _ (by omega)
          have HS13 : Hid (∀ w13, Below w12.heap.size w12 w13 → KeysM w13 N n3 (fun y => S2 y ∨ ∃ z ∈ ws.take m, y ∈ goesOn (nth b.ctrs c) lk x (slipsP k lk) z) ∧ w13.ranges Tryz.prog 3 (plainElem Tryz.prog 3) B r n D (fun z => left z && !z.sameKey (.int .i64 x)) cnt' ∧ LookH w13 L g bm b a ∧ Keep (fun q => q = bm) wz w13 ∧ Blk w13 (N + 1) 126 #[.string (nth b.ctrs c).name, .int .i64 (nth b.ctrs c).skip, .int .i64 (nth b.ctrs c).twice, .int .i64 (nth b.ctrs c).start, .slice (nth a.ca c).az (nth b.ctrs c).zero.length (nth a.ca c).cz, .slice (nth a.ca c).aw (nth b.ctrs c).shown.length (nth a.ca c).cw] ∧ WRow w13 (some ⟨kw, 0, none⟩) (ws.length * 3) (waysF ws)) := fun w13 h13 => by
           have hB := hb12.trans (h13.mono hz12)
           exact ⟨hn3.same (hB.block N hn3.lt), ranges_same hrg (hB.block _ (ranges_lt' hrg)) (hB.block _ (ranges_lt hrg)), hl.still hB, hK.trans (Keep.of_below' hB _), hp.next hB, wrow_still hrow hB⟩
          have HEND : Hid (∀ w14 val, wfI val → Below w12.heap.size w12 w14 → ∃ v0 w15, (Instr.lookup 488 (.map (some N)) (.int .i64 val) false).run Tryz.prog w14 = .ok (.int .i64 v0) w14 ∧ (Instr.mapUpdate 488 (.map (some N)) (.int .i64 val) (.int .i64 (wrap64 (v0 + 1)))).run Tryz.prog w14 = .ok () w15 ∧
           KeysM w15 N (n3 + 1) (fun y => (S2 y ∨ ∃ z ∈ ws.take m, y ∈ goesOn (nth b.ctrs c) lk x (slipsP k lk) z) ∨ y = val) ∧ w15.ranges Tryz.prog 3 (plainElem Tryz.prog 3) B r n D (fun z => left z && !z.sameKey (.int .i64 x)) cnt' ∧ LookH w15 L g bm b a ∧ Keep (fun q => q = bm) wz w15 ∧ Blk w15 (N + 1) 126 #[.string (nth b.ctrs c).name, .int .i64 (nth b.ctrs c).skip, .int .i64 (nth b.ctrs c).twice, .int .i64 (nth b.ctrs c).start, .slice (nth a.ca c).az (nth b.ctrs c).zero.length (nth a.ca c).cz, .slice (nth a.ca c).aw (nth b.ctrs c).shown.length (nth a.ca c).cw] ∧ WRow w15 (some ⟨kw, 0, none⟩) (ws.length * 3) (waysF ws)) := fun w14 val hval h14 => by
           obtain ⟨o1, o2, o3, o4, o5, o6⟩ := HS13.out w14 h14
           obtain ⟨v0, hv0, hlk, hup⟩ := o1.bump (by have : 90 ^ k ≤ 90 ^ 3 := Nat.pow_le_pow_right (by omega) (by omega); unfold maxLen; omega) hval
           obtain ⟨w15, hrun, hk15, hg15⟩ := hup (wrap64 (v0 + 1)) (RowKit.wrap64_wf _)
           have hnw := o1.notWay
           have hlr := ranges_lt o2
           have hlB := ranges_lt' o2
           refine ⟨v0, w15, hlk, hrun, hk15, ranges_same o2 (hg15.block B hlB (by intro e; cases e; exact hBne rfl)) (hg15.block r hlr (by intro e; cases e; omega)), o3.grown hg15 (by omega) (by omega) (by omega) hnw, o4.grown hg15 (by omega), o5.block (hg15.block (N + 1) o5.lt (by intro e; cases e)), ?_⟩
           intro h0
           obtain ⟨k', ek, hw', hc'⟩ := o6 h0
           have hh := hg15.block k' hw'.lt (by intro e; cases e; exact hnw hw')
           refine ⟨k', ek, ?_, fun j hj => (World.cell?_of_block hh).trans (hc' j hj)⟩
           obtain ⟨cs, fr, e⟩ := hw'
           exact ⟨cs, fr, hh.trans e⟩
          clear hn3 hrg hl hK hp hrow hwk hb12 hk12 hcs'
          generalize hGG : wr.heap.size = G at *
          have zz1 : G < w12.heap.size := hG12
          have zz4 : w.heap.size + 1 < w12.heap.size := by omega
          have zz2 : N + 1 < w12.heap.size := by omega
          have zz3 : w.heap.size < w12.heap.size := by omega
          go_region_held3 (fun w' => w'.cell? ⟨G, 0, none⟩ = some (.int .i64 (nth ws m).counts) ∧ w'.cell? ⟨N + 1, 1, none⟩ = some (.int .i64 (nth b.ctrs c).skip) ∧ w'.cell? ⟨N + 1, 2, none⟩ = some (.int .i64 (nth b.ctrs c).twice) ∧ w'.cell? ⟨w.heap.size, k, none⟩ = some (.int .i64 lk)) (first | exact ⟨(hb13.cell (p := ⟨_, _, _⟩) zz1).trans f0, (hb13.cell (p := ⟨_, _, _⟩) zz2).trans e1, (hb13.cell (p := ⟨_, _, _⟩) zz2).trans e2, (hb13.cell (p := ⟨_, _, _⟩) zz3).trans g0⟩ | go_keep)
           (first | (go_at_call 114; go_must (refine (coff_1d rfl _ _ _).mono ?_); rintro e w13 ⟨rfl, hb13⟩))
          rename_i hHeld
          obtain ⟨f0', e1', e2', g0'⟩ := hHeld
          have f1' := (hb13.cell (p := ⟨_, _, _⟩) zz1).trans f1
          have f2' := (hb13.cell (p := ⟨_, _, _⟩) zz1).trans f2
          have d0' := (hb13.cell (p := ⟨_, _, _⟩) zz4).trans d0
          have hz13 := hb13.size
          have zz1' : G < w13.heap.size := by omega
          have zz3' : w.heap.size < w13.heap.size := by omega
          have zz4' : w.heap.size + 1 < w13.heap.size := by omega
          clear f0 f1 f2 d0 e1 e2 g0 e1' e2'
          have hn90 : 90 ^ k ≤ 90 ^ 3 := Nat.pow_le_pow_right (by omega) (by omega)
          have hnn3 : n3 < maxLen := by unfold maxLen; omega
          cases hof : offP (-(nth b.ctrs c).skip) (nth b.ctrs c).twice ((nth ws m).counts - lk) with
          | true =>
           have HG0 : Hid (goesOn (nth b.ctrs c) lk x (slipsP k lk) (nth ws m) = []) := by unfold goesOn; rw [hof]; rfl
           have HTK : Hid (ws.take (m + 1) = ws.take m ++ [nth ws m]) := take_nth hlt3
           obtain ⟨o1, o2, o3, o4, o5, o6⟩ := HS13.out w13 hb13
           clear hof hnn3 hn90
           go_wp2_with fail
           go_roundw
           case rel => exact ⟨m + 1, n3, by omega, by go_num, o2, o1.ext (fun y => by rw [HTK.out, more_set, HL2.out, HG0.out]; simp), by omega, o3, o4, o5, o6⟩
           case measure => simp [intOf]; omega
          | false =>
           by_cases hx1 : 100 ≤ x
           · have HG1 : Hid (goesOn (nth b.ctrs c) lk x (slipsP k lk) (nth ws m) = [(nth ws m).shows + 100]) := by unfold goesOn; rw [hof, if_neg (by simp), if_pos (.inl hx1)]; exact rfl
             have hd : decide (100 ≤ x) = true := by simp [hx1]
             clear hof hx1
             go_upto_region 15 with (fail)
             have hsh : IntKind.i64.wrap ((nth ws m).shows + 100) = (nth ws m).shows + 100 := IntWalk.i64_in _ (by omega)
             go_quiet (fail)
             have hb14 := below_drewN hb13 nq
             generalize w13.drewN nq = w14 at *
             obtain ⟨v0, w15, hlk, hrun, o1, o2, o3, o4, o5, o6⟩ := HEND.out w14 ((nth ws m).shows + 100) ((wfI_iff _).2 (by omega)) hb14
             have HTK : Hid (ws.take (m + 1) = ws.take m ++ [nth ws m]) := take_nth hlt3
             go_wp2_with fail
             go_roundw
             case rel => exact ⟨m + 1, n3 + 1, by omega, by go_num, o2, o1.ext (fun y => by rw [HTK.out, more_set, HL2.out, HG1.out]; simp), by omega, o3, o4, o5, o6⟩
             case measure => simp [intOf]; omega
           · have hd : decide (100 ≤ x) = false := by simp; omega
             clear hx1
             cases hq : slipsP k lk (nth ws m) with
             | true =>
              have HG1 : Hid (goesOn (nth b.ctrs c) lk x (slipsP k lk) (nth ws m) = [(nth ws m).shows + 100]) := by unfold goesOn; rw [hof, if_neg (by simp), if_pos (.inr hq)]; exact rfl
              clear hof
              have hsl := slips1_any k lk (nth ws m)
              have hq' : ((nth ws m).counts != lk) = true := hq
              clear hq
              go_upto_region 15 with (fail)
              go_region_held3 (fun w' => w'.cell? ⟨G, 0, none⟩ = some (.int .i64 (nth ws m).counts) ∧ w'.cell? ⟨G, 1, none⟩ = some (.int .i64 (nth ws m).shows) ∧ w'.cell? ⟨G, 2, none⟩ = some (.bool (nth ws m).zero) ∧ w'.cell? ⟨w.heap.size, k, none⟩ = some (.int .i64 lk) ∧ w'.cell? ⟨w.heap.size + 1, 0, none⟩ = some (.func (.func 356) #[] #[]))
               (first | exact ⟨(hb14.cell (p := ⟨_, _, _⟩) zz1').trans f0', (hb14.cell (p := ⟨_, _, _⟩) zz1').trans f1', (hb14.cell (p := ⟨_, _, _⟩) zz1').trans f2', (hb14.cell (p := ⟨_, _, _⟩) zz3').trans g0', (hb14.cell (p := ⟨_, _, _⟩) zz4').trans d0'⟩ | go_keep)
               (first | (go_at_call 356; go_must (refine (hsl _).mono ?_); rintro e w14 ⟨rfl, hb14⟩; rw [hq']))
              rename_i hHeld
              have hsh : IntKind.i64.wrap ((nth ws m).shows + 100) = (nth ws m).shows + 100 := IntWalk.i64_in _ (by omega)
              obtain ⟨v0, w15, hlk, hrun, o1, o2, o3, o4, o5, o6⟩ := HEND.out w14 ((nth ws m).shows + 100) ((wfI_iff _).2 (by omega)) (hb13.trans (((Below.refl _ _).drew).trans (hb14.mono (Nat.le_refl _))|>.mono hz13))
              have HTK : Hid (ws.take (m + 1) = ws.take m ++ [nth ws m]) := take_nth hlt3
              clear hHeld
              go_wp2_with fail
              go_roundw
              case rel => exact ⟨m + 1, n3 + 1, by omega, by go_num, o2, o1.ext (fun y => by rw [HTK.out, more_set, HL2.out, HG1.out]; simp), by omega, o3, o4, o5, o6⟩
              case measure => simp [intOf]; omega
             | false =>
              have HG1 : Hid (goesOn (nth b.ctrs c) lk x (slipsP k lk) (nth ws m) = [(nth ws m).shows]) := by unfold goesOn; rw [hof, if_neg (by simp), if_neg (by rw [hq]; simpa using hd)]; exact rfl
              clear hof
              have hsl := slips1_any k lk (nth ws m)
              have hq' : ((nth ws m).counts != lk) = false := hq
              clear hq
              go_upto_region 15 with (fail)
              go_region_held3 (fun w' => w'.cell? ⟨G, 0, none⟩ = some (.int .i64 (nth ws m).counts) ∧ w'.cell? ⟨G, 1, none⟩ = some (.int .i64 (nth ws m).shows) ∧ w'.cell? ⟨G, 2, none⟩ = some (.bool (nth ws m).zero) ∧ w'.cell? ⟨w.heap.size, k, none⟩ = some (.int .i64 lk) ∧ w'.cell? ⟨w.heap.size + 1, 0, none⟩ = some (.func (.func 356) #[] #[]))
               (first | exact ⟨(hb14.cell (p := ⟨_, _, _⟩) zz1').trans f0', (hb14.cell (p := ⟨_, _, _⟩) zz1').trans f1', (hb14.cell (p := ⟨_, _, _⟩) zz1').trans f2', (hb14.cell (p := ⟨_, _, _⟩) zz3').trans g0', (hb14.cell (p := ⟨_, _, _⟩) zz4').trans d0'⟩ | go_keep)
               (first | (go_at_call 356; go_must (refine (hsl _).mono ?_); rintro e w14 ⟨rfl, hb14⟩; rw [hq']))
              rename_i hHeld
              obtain ⟨v0, w15, hlk, hrun, o1, o2, o3, o4, o5, o6⟩ := HEND.out w14 ((nth ws m).shows) ((wfI_iff _).2 (by omega)) (hb13.trans (((Below.refl _ _).drew).trans (hb14.mono (Nat.le_refl _))|>.mono hz13))
              have HTK : Hid (ws.take (m + 1) = ws.take m ++ [nth ws m]) := take_nth hlt3
              clear hHeld
              go_wp2_with fail
              go_roundw
              case rel => exact ⟨m + 1, n3 + 1, by omega, by go_num, o2, o1.ext (fun y => by rw [HTK.out, more_set, HL2.out, HG1.out]; simp), by omega, o3, o4, o5, o6⟩
              case measure => simp [intOf]; omega
        · obtain rfl : m = ws.length := by omega
          have HQ : Hid (∀ y, (S2 y ∨ ∃ z ∈ ws.take ws.length, y ∈ goesOn (nth b.ctrs c) (nth [l0, l1, l2, l3] k) x (slipsP k (nth [l0, l1, l2, l3] k)) z) ↔ ∃ x', wfI x' ∧ Maps.has D (.int .i64 x') = true ∧ (left (.int .i64 x') && !(Lit.int .i64 x').sameKey (.int .i64 x)) = false ∧ y ∈ stepAt b c k (nth [l0, l1, l2, l3] k) (slipsP k (nth [l0, l1, l2, l3] k)) x') := fun y => by
           rw [← HS2.out, List.take_length]
           constructor
           · rintro (⟨x', h1, h2, h3, h4⟩ | ⟨z, h1, h2⟩)
             · exact ⟨x', h1, h2, by rw [h3]; rfl, h4⟩
             · exact ⟨x, hwx, hHX.out, by simp [Lit.sameKey], by rw [HST.out, List.mem_flatMap]; exact ⟨z, h1, h2⟩⟩
           · rintro ⟨x', h1, h2, h3, h4⟩
             by_cases e : x' = x
             · subst e
               rw [HST.out, List.mem_flatMap] at h4
               obtain ⟨z, h5, h6⟩ := h4
               exact .inr ⟨z, h5, h6⟩
             · exact .inl ⟨x', h1, h2, by simpa [Lit.sameKey, e] using h3, h4⟩
          have hmsr : wr.rangeLeft B r = cnt' := hrg.left_eq
          go_wp2_with fail
          go_roundw
          case rel => exact ⟨_, cnt', n3, hrg, hlf9, hn3.ext HQ.out, by omega, hl, hK, hp⟩
          case measure => rw [hmsr]; exact HMS.out
  · obtain rfl : k = b.hours.length := by omega
    subst hV
    obtain ⟨w7, D, hrange, hrg, hcn, hD, hB7, hsz7⟩ := hKM.range
    have hL7 := hLr.still hB7
    have hK7 : Keep (fun q => q = bm) wz w7 := hKr.trans (Keep.of_below' hB7 _)
    have hzr := hKr.size
    have HD := hide hD
    clear hD hLr hKM hnk
    go_upto_region 22 with (fail)
    clear hrange
    generalize hr : wr.heap.size = r at *
    go_loopw [8, 9] (fun V8 V9 w8 => ∃ (left : Lit → Bool) (cnt : Nat) (nt mt : Bool), V8 = .bool nt ∧ V9 = .bool mt ∧ w8.ranges Tryz.prog 3 (plainElem Tryz.prog 3) B r n D left cnt ∧ Hid (∀ x, left (.int .i64 x) = true → Maps.has D (.int .i64 x) = true) ∧ Hid (nt = true ↔ ∃ x, wfI x ∧ Maps.has D (.int .i64 x) = true ∧ left (.int .i64 x) = false ∧ x < 100) ∧ Hid (mt = true ↔ ∃ x, wfI x ∧ Maps.has D (.int .i64 x) = true ∧ left (.int .i64 x) = false ∧ 100 ≤ x) ∧ LookH w8 L g bm b a ∧ Keep (fun q => q = bm) wz w8) (fun _ _ w8 => w8.rangeLeft B r)
    case atStart => exact ⟨_, _, false, false, rfl, rfl, hrg, fun x hx => hx, hide ⟨fun h => Bool.noConfusion h, fun ⟨x, _, h1, h2, _⟩ => by rw [h1] at h2; cases h2⟩, hide ⟨fun h => Bool.noConfusion h, fun ⟨x, _, h1, h2, _⟩ => by rw [h1] at h2; cases h2⟩, hL7, hK7⟩
    case round =>
     clear hrg hL7 hK7
     obtain ⟨left, cnt, nt, mt, rfl, rfl, hrg, hlf, hnt, hmt, hL8, hK8⟩ := hrel
     rcases ranges_next hrg 0 with ⟨hc0, hl0, hnx⟩ | ⟨x, v, w9, cnt', hwx, hlx, hnx, hrg9, hcl, hg9, hs9, hen⟩
     · have en : notM b c [l0, l1, l2, l3] slipsP = nt := by
        rw [Bool.eq_iff_iff, hnt.out, notM, List.any_eq_true]
        constructor
        · rintro ⟨x, h1, h2⟩
          have hb := set_bd HV.out hc [l0, l1, l2, l3] slipsP _ (Nat.le_refl _) x h1
          have hwx : wfI x := (wfI_iff x).2 (by omega)
          exact ⟨x, hwx, (HD.out x hwx).2 h1, hl0 _, of_decide_eq_true h2⟩
        · rintro ⟨x, hwx, h1, _, h2⟩
          exact ⟨x, (HD.out x hwx).1 h1, decide_eq_true h2⟩
       have em : metM b c [l0, l1, l2, l3] slipsP = mt := by
        rw [Bool.eq_iff_iff, hmt.out, metM, List.any_eq_true]
        constructor
        · rintro ⟨x, h1, h2⟩
          have hb := set_bd HV.out hc [l0, l1, l2, l3] slipsP _ (Nat.le_refl _) x h1
          have hwx : wfI x := (wfI_iff x).2 (by omega)
          exact ⟨x, hwx, (HD.out x hwx).2 h1, hl0 _, of_decide_eq_true h2⟩
        · rintro ⟨x, hwx, h1, _, h2⟩
          exact ⟨x, (HD.out x hwx).1 h1, decide_eq_true h2⟩
       have EN := hide en
       have EM := hide em
       clear en em hnt hmt hlf hl0
       go_wp2_with fail
       refine bodyPost_ret (v := .tuple #[.bool nt, .bool mt]) (by simp [results, Tryz.results302, go_sem]) rfl ⟨by rw [EN.out, EM.out], (Keep.of_below' HB.out _).trans hK8, hL8.k⟩
     · have hrw := ranges_notWay hrg
       have hl9 := hL8.grown hg9 (by have := hB; have := HL.out.hL; omega) (by omega) (by omega) hrw
       have hk9 := hK8.grown hg9 (by omega)
       have hlf9 : Hid (∀ y, (left (.int .i64 y) && !(Lit.int .i64 y).sameKey (.int .i64 x)) = true → Maps.has D (.int .i64 y) = true) := fun y hy => hlf.out y (by simp at hy; exact hy.1)
       have hnt9 := hide (seen_more (D := D) (left := left) (p := fun x => x < 100) hwx (hlf.out x hlx) hlx hnt.out)
       have hmt9 := hide (seen_more (D := D) (left := left) (p := fun x => 100 ≤ x) hwx (hlf.out x hlx) hlx hmt.out)
       have hms : w9.rangeLeft B r < wr.rangeLeft B r := by rw [hrg9.left_eq, hrg.left_eq]; exact hcl
       have h100 : decide (100 ≤ x) = !decide (x < 100) := by rw [Bool.eq_iff_iff]; simp
       clear hrg hlf hnt hmt hL8 hK8 hg9
       have HMS := hide hms
       clear hms hlx
       by_cases hx : x < 100
       · have hx1 : decide (x < 100) = true := by simp [hx]
         have hx2 : decide (100 ≤ x) = false := by simp; omega
         rw [hx1] at hnt9
         rw [hx2] at hmt9
         clear h100
         cases nt <;> cases mt
         all_goals
          go_wp2_with fail
          go_roundw
          case rel => exact ⟨_, _, _, _, rfl, rfl, hrg9, hlf9, hnt9, hmt9, hl9, hk9⟩
          case measure => exact HMS.out
       · have hx1 : decide (x < 100) = false := by simp; omega
         have hx2 : decide (100 ≤ x) = true := by simp; omega
         rw [hx1] at hnt9
         rw [hx2] at hmt9
         clear h100
         cases nt <;> cases mt
         all_goals
          go_wp2_with fail
          go_roundw
          case rel => exact ⟨_, _, _, _, rfl, rfl, hrg9, hlf9, hnt9, hmt9, hl9, hk9⟩
          case measure => exact HMS.out
end Go.Proofs.YtkaahiddngmdbaaGreatDoor
