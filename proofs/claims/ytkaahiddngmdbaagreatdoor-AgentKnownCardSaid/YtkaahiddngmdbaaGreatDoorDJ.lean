/- The contract of chain's some: is there a truth. -/
import Derived.Test.YtkaahiddngmdbaaGreatDoorDI
import Derived.OwnWalkIn
import Derived.TacticsInMore
set_option linter.unusedVariables false
set_option linter.unusedSimpArgs false
namespace Go.Proofs.YtkaahiddngmdbaaGreatDoor
open Go.RowKit
attribute [local go_sem ↓] Go.wp_at_zero Go.wp_at_succ
attribute [local go_sem] Oper.semAt_some

theorem Keep.fin {bm : Nat} {w w1 w2 : World} (h : Keep (fun k => k = bm ∨ w.heap.size ≤ k) w w1) (h' : Keep (fun k => w.heap.size ≤ k) w1 w2) : Keep (fun k => k = bm) w w2 :=
 (h.trans (h'.mono (S' := fun k => k = bm ∨ w.heap.size ≤ k) (fun k _ h => .inr h))).mono (fun k hk h => h.elim id (fun h => by omega))
theorem Cache.put {w : World} {b D : Nat} {V : Stand → List Way} {o : Obj} (o' : Obj) (h : Cache w b V) (hD : w.heap[D]? = some o) (ho : ∀ es c, o ≠ .map es c) (ho2 : ∀ cs T fr, o ≠ .cells cs T fr) : Cache (w.putObj D o') b V := by
 obtain ⟨es, c, hb, he⟩ := h
 have h0 : Cache w b V := ⟨es, c, hb, he⟩
 exact h0.heap (World.putObj_heap_other fun e => ho es c (by rw [e, hD] at hb; exact Option.some.inj hb)) fun k ⟨cs, fr, hk⟩ => World.putObj_heap_other fun e => ho2 _ _ _ (by rw [e, hD] at hk; exact Option.some.inj hk)
theorem leaves_marksM {P : Program} {fn : Func} {tmps : Array Value} {R : Ending → World → Prop} {B : Nat} {M : World → Prop} (hM : ∀ V D r o, M V → V.heap[D]? = some (.deferred r) → M (V.putObj D o)) : ∀ {ds : List Deferred} {w : World}, MarksOk B ds w → M w →
 (∀ w', Keep (fun k => B ≤ k) w w' → M w' → ∃ v, (results fn tmps).run P w' = .ok v w' ∧ R (.returned v) w') → LeavesInM Fence.wide 0 P fn tmps R ds .returning w
 | [], w, _, hm, h => h w (Keep.refl _ _) hm
 | d :: ds, w, ⟨⟨D, h1, h2, h3, h4⟩, h5⟩, hm, h => by
  refine ⟨by simp, .inl ⟨D, _, by rw [h2], run_takeDeferred h3, ?_⟩⟩
  exact leaves_marksM hM (h5.put (fun d hd e => h4 d hd (e.trans h2.symm))) (hM _ _ _ _ hm h3) (fun w' hk hm' => h w' ((Keep.putObj D _ _ h1).trans hk) hm')
theorem cache_def {b : Nat} {V : Stand → List Way} (W : World) (D : Nat) (r : Option (List Deferred)) (o : Obj) (h : Cache W b V) (hD : W.heap[D]? = some (.deferred r)) : Cache (W.putObj D o) b V := h.put o hD (fun _ _ => nofun) (fun _ _ _ => nofun)
theorem cache_loop {b : Nat} {V : Stand → List Way} (W : World) (l : Nat) (r r' : Loop) (h : Cache W b V) (hl : W.heap[l]? = some (.loop r)) : Cache (W.putObj l (.loop r')) b V := h.put _ hl (fun _ _ => nofun) (fun _ _ _ => nofun)
theorem Keep.more {bm : Nat} {w V V' : World} (h : Keep (fun k => k = bm) w V) (h' : Keep (fun k => k = bm ∨ w.heap.size ≤ k) V V') : Keep (fun k => k = bm) w V' :=
 ((h.mono (S' := fun k => k = bm ∨ w.heap.size ≤ k) (fun _ _ h => .inl h)).trans h').mono (fun k hk h => h.elim id (fun h => by omega))
def someB (f : Board) : Bool := !(truthsL f).isEmpty
set_option maxHeartbeats 4000000 in
set_option maxRecDepth 100000 in
theorem some_any {w : World} {L b bm : Nat} {f : Board} {a : BrdA} (h : LookH w L b bm f a) (hv : ValidB f) :
 Calls Tryz.prog 223 #[.pointer (some ⟨b, 0, none⟩)] w fun e w' => e = .returned (.bool (someB f)) ∧ Keep (fun k => k = bm) w w' ∧ Cache w' bm (waysV f) := by
 have HH := hide h
 have HV := hide hv
 have hb0 := h.q.lt
 have hm0 := h.k.lt
 have hL0 := h.hL
 have hA : Below w.heap.size w (w.alloc (.cells #[.bool false] 4)) := (Below.refl _ _).alloc (Nat.le_refl _) _
 have bk : Blk (w.alloc (.cells #[.bool false] 4)) w.heap.size 4 #[.bool false] := Blk.made
 clear h hv
 refine (callsIn_wide (n := 0)).1 (callsIn_of_wp_marks Tryz.func223 rfl trivial ?_ rfl)
 refine (wpIn_wide (n := 0)).2 ?_
 simp only [Tryz.ntmps223, List.size_toArray, List.length_cons, List.length_nil, Nat.reduceAdd, Nat.reduceSub, Array.replicate_succ, Array.replicate_zero, List.push_toArray, List.append_toArray, List.nil_append, List.cons_append]
 go_wp2_with fail
 generalize (w.alloc (.cells #[.bool false] 4)) = w0 at *
 refine truths_any.mono ?_
 rintro e w1 ⟨p1, rfl, hp1, hp1', e1, hB1⟩
 have hBw := hA.trans (hB1.mono hA.size)
 have hL1 := HH.out.still hBw
 have bk1 := bk.next hB1
 have hz0 := bk.lt
 have hz1 := hB1.size
 have HBW := hide hBw
 have HL1 := hide hL1
 clear hA hBw hL1 hB1 bk
 go_wp2_with fail
 refine wp_rangeM rfl (enters_of Tryz.func300 (by kernel_rfl) rfl) rfl (truths_iter (C := fun k => k = w.heap.size) HV.out (fun k hk => ⟨⟨by omega, by omega⟩, by omega, by omega⟩) HL1.out e1) (fun k h => by omega) (fun k h => by omega)
  (fun V V' h hk => h.below hk) cache_loop (fun pre W => pre = [] ∧ Blk W w.heap.size 4 #[.bool false]) (fun cd _ W => cd = .ret ∧ Blk W w.heap.size 4 #[.bool true]) (fun _ _ _ h hk hm => ⟨h.1, h.2.keep hk (by omega)⟩) (fun _ _ _ _ h hk => ⟨h.1, h.2.keep hk (by omega)⟩) HL1.out.k ⟨rfl, bk1⟩ ?body ?done ?stop
 case body =>
  rintro l pre x W1 hl hx ⟨hi, bi⟩ hm hz
  refine wpIn_skip ⟨Keep.refl _ _, hm, fun W3 hk3 hm3 => wpIn_block (wpIn_seq ?_)⟩
  have b3 := bi.keep hk3 (by omega)
  have r0 := b3.at_ 0
  have g0 := b3.free 0
  simp only [List.getElem?_toArray, List.getElem?_cons_zero] at r0
  apply wpIn_one
  case h =>
   gi_wp2
   first | exact ⟨rfl, rfl, rfl⟩ | exact ⟨rfl, rfl⟩ | exact rfl
  case hq =>
  refine wpIn_ret ?_
  have hk4 : Keep (fun k => k = w.heap.size) W3 (W3.setCell ⟨w.heap.size, 0, none⟩ (.bool true)) := Keep.setCell _ _ _ _ rfl
  exact ⟨hk4, hm3.keep hk4 (fun k hk => by subst hk; exact ⟨by omega, WayBlk.not (by decide) b3⟩), rfl, b3.store 0 _⟩
 case done =>
  rintro D W' hD ⟨hT, bi⟩ hm hk hd
  have HS := hide (show someB f = false by rw [someB, hT]; rfl)
  have HMS : Hid (MarksOk (w.heap.size + 1) [{ target := .collected D, args := #[] }] W') := ⟨⟨D, by omega, rfl, hd, by simp⟩, trivial⟩
  have HKK : Hid (Keep (fun k => k = bm ∨ w.heap.size ≤ k) w W') := (Keep.of_below' HBW.out _).trans (hk.mono (fun k _ h => h.imp id (fun h => by omega)))
  have HKN := hide hm
  have r0 := bi.at_ 0
  have g0 := bi.free 0
  simp only [List.getElem?_toArray, List.getElem?_cons_zero] at r0
  have hz' := bi.lt
  have HBI := hide bi
  clear hk hT hd hm bi
  go_wp2_with fail
  have hk4 : Keep (fun k => k = w.heap.size) W' (W'.setCell ⟨w.heap.size, 0, none⟩ (.bool false)) := Keep.setCell _ _ _ _ rfl
  have b4 := HBI.out.store 0 (.bool false)
  have hm4 := HKN.out.keep hk4 (fun k hk => by subst hk; exact ⟨by omega, WayBlk.not (by decide) HBI.out⟩)
  refine leaves_marksM (B := w.heap.size + 1) (M := fun W => Cache W bm (waysV f)) cache_def ((HMS.out.keep hk4 (by omega))) hm4 (fun w' hkw' hm' => ?_)
  have r4 := (b4.keep hkw' (by omega)).at_ 0
  refine ⟨.bool false, by simp [results, Tryz.results223, go_sem, r4], by rw [HS.out], ?_, hm'⟩
  exact (HKK.out.trans (hk4.mono (fun k _ h => .inr (by omega)))).fin (hkw'.mono (fun k _ h => by omega))
 case stop =>
  rintro D cd q W' hD hq0 hqp ⟨rfl, bi⟩ hm hk hd
  have hne : someB f = true := by
   obtain ⟨r, hr⟩ := hqp
   rw [someB, ← hr]
   cases q with
   | nil => exact absurd rfl hq0
   | cons a q => rfl
  have HS := hide hne
  have HMS : Hid (MarksOk (w.heap.size + 1) [{ target := .collected D, args := #[] }] W') := ⟨⟨D, by omega, rfl, hd, by simp⟩, trivial⟩
  have HKK : Hid (Keep (fun k => k = bm ∨ w.heap.size ≤ k) w W') := (Keep.of_below' HBW.out _).trans (hk.mono (fun k _ h => h.imp id (fun h => by omega)))
  have HKN := hide hm
  have r0 := bi.at_ 0
  simp only [List.getElem?_toArray, List.getElem?_cons_zero] at r0
  have HBI := hide bi
  refine wpIn_ret ?_
  go_wp2_with fail
  refine leaves_marksM (B := w.heap.size + 1) (M := fun W => Cache W bm (waysV f)) cache_def HMS.out HKN.out (fun w' hkw' hm' => ?_)
  have r4 := (HBI.out.keep hkw' (by omega)).at_ 0
  refine ⟨.bool true, by simp [results, Tryz.results223, go_sem, r4], by rw [HS.out], ?_, hm'⟩
  exact HKK.out.fin (hkw'.mono (fun k _ h => by omega))
/-! in: what lies in a hold -/
theorem in_step {f : Board} {ls : List Int} {hold : Int} {k : Nat} (h : (nth f.hours k).hold = hold) : inTo f ls hold (k + 1) = inTo f ls hold k + nth ls k := by rw [inTo, if_pos h]
theorem in_skip {f : Board} {ls : List Int} {hold : Int} {k : Nat} (h : (nth f.hours k).hold ≠ hold) : inTo f ls hold (k + 1) = inTo f ls hold k := by rw [inTo, if_neg h]
theorem in_bd {f : Board} {ls : List Int} (hl : ∀ k, 0 ≤ nth ls k ∧ nth ls k ≤ 40) (hold : Int) : ∀ k : Nat, 0 ≤ inTo f ls hold k ∧ inTo f ls hold k ≤ 40 * k
 | 0 => by simp [inTo]
 | k + 1 => by
  have := in_bd (f := f) hl hold k
  have := hl k
  rw [inTo]
  split <;> omega
set_option maxHeartbeats 2000000 in
set_option maxRecDepth 100000 in
theorem in_any {w : World} {L b bm : Nat} {f : Board} {a : BrdA} (h : LookH w L b bm f a) (hv : ValidB f) {x : List Int} (hx : LdB f x) (hold : Int) :
 Calls Tryz.prog 125 #[.pointer (some ⟨b, 0, none⟩), plVal x, .int .i64 hold] w fun e w' => e = .returned (.int .i64 (inM f x hold)) ∧ Below w.heap.size w w' := by
 have hvh := hv.hours
 have HPL := hide (show plVal x = .agg #[iv (nth x 0), iv (nth x 1), iv (nth x 2), iv (nth x 3)] from rfl)
 have hB0 : Below w.heap.size w (w.alloc (.cells #[.int .i64 (nth x 0), .int .i64 (nth x 1), .int .i64 (nth x 2), .int .i64 (nth x 3)] 236)) := (Below.refl _ _).alloc (Nat.le_refl _) _
 have bk : Blk (w.alloc (.cells #[.int .i64 (nth x 0), .int .i64 (nth x 1), .int .i64 (nth x 2), .int .i64 (nth x 3)] 236)) w.heap.size 236 #[.int .i64 (nth x 0), .int .i64 (nth x 1), .int .i64 (nth x 2), .int .i64 (nth x 3)] := Blk.made
 have HH := hide (h.still hB0)
 have HX := hide hx
 have HB0 := hide hB0
 simp only [plVal, iv]
 clear h hv hB0 hx
 go_enter Tryz.func125, Tryz.ntmps125
 go_upto_region 1 with (fail)
 generalize (w.alloc (.cells #[.int .i64 (nth x 0), .int .i64 (nth x 1), .int .i64 (nth x 2), .int .i64 (nth x 3)] 236)) = w0 at *
 obtain ⟨hgl, p0, p1, p2, p3⟩ := HH.out.cells
 have hm1 := HH.out.v.m1
 unfold maxLen at hm1
 have hwz := bk.lt
 have HBK := hide bk
 clear bk
 go_step3
 go_wp2_with fail
 go_step3
 go_wp2_with fail
 clear p0 p1 p2 p3
 go_loopw [6, 15] (fun V6 V15 wr => ∃ k : Nat, k ≤ f.hours.length ∧ V15 = .int .i64 k ∧ V6 = .int .i64 (inTo f x hold k) ∧ Below w0.heap.size w0 wr) (fun _ V15 _ => f.hours.length - (intOf V15).toNat)
 case atStart => exact ⟨0, by omega, rfl, rfl, Below.refl _ _⟩
 case round =>
  obtain ⟨k, hk, rfl, rfl, hB⟩ := hrel
  by_cases hlt : k < f.hours.length
  · have i0 : (0 : Int) ≤ (k : Int) := Int.natCast_nonneg _
    have i1 : (k : Int) < (f.hours.length : Int) := by omega
    have i2 : (k : Int) < 4 := by omega
    obtain ⟨kc, oc, ec, hkc, c0, c1, c2⟩ := (HH.out.still hB).hour hlt
    have hLr := (HH.out.still hB).hL
    have hkz : kc < wr.heap.size := by omega
    have hwr := hB.size
    have hbd := in_bd (f := f) (fun k => HX.out.bd k) hold k
    have hxk := HX.out.bd k
    have g0 : wr.cell? ⟨w.heap.size, k, none⟩ = some (.int .i64 (nth x k)) := by
     rw [hB.cell (p := ⟨w.heap.size, k, none⟩) hwz, HBK.out.at_ k]
     have h4 : k < 4 := by omega
     rcases k with _ | _ | _ | _ | k
     · rfl
     · rfl
     · rfl
     · rfl
     · omega
    have hw1 : IntKind.i64.wrap (inTo f x hold k + nth x k) = inTo f x hold k + nth x k := IntWalk.i64_in _ (by omega)
    have hwz2 : w.heap.size < wr.heap.size := by omega
    have HIS := hide (@in_step f x hold k)
    have HIK := hide (@in_skip f x hold k)
    generalize inTo f x hold k = s at *
    have HB := hide hB
    have HEC := hide ec
    obtain ⟨cc1, hcc1⟩ : ∃ c1, c1 = a.c1 := ⟨_, rfl⟩
    rw [← hcc1] at hm1 ⊢
    clear hB hcc1
    rw [ec]
    clear ec
    generalize nth x k = xk at *
    by_cases hh : (nth f.hours k).hold = hold
    · have hq : ((nth f.hours k).hold != hold) = false := by simp [hh]
      have HS := hide (HIS.out hh)
      clear hh
      go_wp2_with fail
      go_roundw
      case rel => exact ⟨k + 1, by omega, by go_num, by rw [HS.out], HB.out.alloc (by have := HB.out.size; omega) _⟩
      case measure => simp [intOf]; omega
    · have hq : ((nth f.hours k).hold != hold) = true := by simp [hh]
      have HS := hide (HIK.out hh)
      clear hh
      go_wp2_with fail
      go_roundw
      case rel => exact ⟨k + 1, by omega, by go_num, by rw [HS.out], HB.out.alloc (by have := HB.out.size; omega) _⟩
      case measure => simp [intOf]; omega
  · obtain rfl : k = f.hours.length := by omega
    go_wp2_with fail
    rw [Exit.noGoto_ret]
    go_ret
    exact ⟨rfl, HB0.out.trans (hB.mono HB0.out.size)⟩
set_option maxHeartbeats 400000 in
set_option maxRecDepth 100000 in
/-- Hold's question: what lies in the hold. -/
theorem hold1_any {w : World} {L b bm pb ph : Nat} {f : Board} {a : BrdA} (h : LookH w L b bm f a) (hv : ValidB f) {x : List Int} (hx : LdB f x) {hold : Int}
 (e1 : w.cell? ⟨pb, 0, none⟩ = some (.pointer (some ⟨b, 0, none⟩))) (e2 : w.cell? ⟨ph, 0, none⟩ = some (.int .i64 hold)) :
 Calls Tryz.prog 124 #[plVal x, .pointer (some ⟨pb, 0, none⟩), .pointer (some ⟨ph, 0, none⟩)] w fun e w' => e = .returned (.int .i64 (inM f x hold)) ∧ Below w.heap.size w w' := by
 have hB0 : Below w.heap.size w (w.alloc (.cells #[.int .i64 (nth x 0), .int .i64 (nth x 1), .int .i64 (nth x 2), .int .i64 (nth x 3)] 236)) := (Below.refl _ _).alloc (Nat.le_refl _) _
 have bk : Blk (w.alloc (.cells #[.int .i64 (nth x 0), .int .i64 (nth x 1), .int .i64 (nth x 2), .int .i64 (nth x 3)] 236)) w.heap.size 236 #[.int .i64 (nth x 0), .int .i64 (nth x 1), .int .i64 (nth x 2), .int .i64 (nth x 3)] := Blk.made
 have hin := in_any (h.still hB0) hv hx hold
 have f1 := (hB0.cell (p := ⟨pb, 0, none⟩) (cell_lt e1)).trans e1
 have f2 := (hB0.cell (p := ⟨ph, 0, none⟩) (cell_lt e2)).trans e2
 have HB0 := hide hB0
 simp only [plVal, iv] at hin ⊢
 clear h hv hB0 hx e1 e2
 go_enter Tryz.func124, Tryz.ntmps124
 go_upto_region 1 with (fail)
 generalize (w.alloc (.cells #[.int .i64 (nth x 0), .int .i64 (nth x 1), .int .i64 (nth x 2), .int .i64 (nth x 3)] 236)) = w0 at *
 have z1 := cell_lt f1
 have z2 := cell_lt f2
 have z3 := bk.lt
 have s0 := bk.at_ 0
 have s1 := bk.at_ 1
 have s2 := bk.at_ 2
 have s3 := bk.at_ 3
 simp only [List.getElem?_toArray, List.getElem?_cons_zero, List.getElem?_cons_succ] at s0 s1 s2 s3
 clear bk
 go_wp2_with (go_at_call 125; refine hin.mono ?_; rintro e w3 ⟨rfl, hb3⟩)
 go_ret
 exact ⟨rfl, HB0.out.trans (hb3.mono HB0.out.size)⟩
/-! hull -/
theorem hullTo_snoc (of : List Int → Int) (l : List (List Int)) (x : List Int) : hullTo of (l ++ [x]) = some (joinS (hullTo of l) (of x)) := by simp [hullTo]
theorem hullTo_nil (of : List Int → Int) : hullTo of [] = none := rfl
theorem hullM_snoc (of : List Int → Int) (l : List (List Int)) (x : List Int) : hullM of (l ++ [x]) = joinS (hullTo of l) (of x) := by rw [hullM, hullTo_snoc]; rfl
theorem hullTo_some (of : List Int → Int) {l : List (List Int)} (h : l.isEmpty = false) : hullTo of l = some (hullM of l) := by
 rcases List.eq_nil_or_concat l with rfl | ⟨l', x, rfl⟩
 · cases h
 · simp only [List.concat_eq_append]; rw [hullM, hullTo_snoc]; rfl
theorem hull_first (of : List Int → Int) (x : List Int) : hullM of ([] ++ [x]) = ⟨of x, of x⟩ := by rw [hullM_snoc]; rfl
theorem hull_next (of : List Int → Int) {l : List (List Int)} (h : l.isEmpty = false) (x : List Int) : hullM of (l ++ [x]) = ⟨min (hullM of l).lo (of x), max (hullM of l).hi (of x)⟩ := by rw [hullM_snoc, hullTo_some of h]; rfl
set_option maxHeartbeats 4000000 in
set_option maxRecDepth 100000 in
theorem hull_any {w : World} {L b bm : Nat} {f : Board} {a : BrdA} (h : LookH w L b bm f a) (hv : ValidB f) {gf : FuncId} {lb : Array Value} {of : List Int → Int} (eg : Enters Tryz.prog gf)
 (hq : ∀ x W, LdB f x → LookH W L b bm f a → Keep (fun k => k = bm) w W → Calls Tryz.prog gf (#[plVal x] ++ lb) W fun e w' => e = .returned (.int .i64 (of x)) ∧ Below W.heap.size W w') :
 Calls Tryz.prog 123 #[.pointer (some ⟨b, 0, none⟩), .func (.func gf) #[] lb] w fun e w' => e = .returned (.agg #[.int .i64 (hullM of (truthsL f)).lo, .int .i64 (hullM of (truthsL f)).hi]) ∧ Keep (fun k => k = bm) w w' ∧ Cache w' bm (waysV f) := by
 have HH := hide h
 have HV := hide hv
 have HQ := hide hq
 have hb0 := h.q.lt
 have hm0 := h.k.lt
 have hL0 := h.hL
 clear h hv hq
 refine (callsIn_wide (n := 0)).1 (callsIn_of_wp_marks Tryz.func123 rfl trivial ?_ rfl)
 refine (wpIn_wide (n := 0)).2 ?_
 simp only [Tryz.ntmps123, List.size_toArray, List.length_cons, List.length_nil, Nat.reduceAdd, Nat.reduceSub, Array.replicate_succ, Array.replicate_zero, List.push_toArray, List.append_toArray, List.nil_append, List.cons_append]
 go_wp2_with fail
 have q1 : Blk (((w.alloc (.cells #[.func (.func gf) #[] lb] 238)).alloc (.cells #[.int .i64 0, .int .i64 0] 28)).alloc (.cells #[.bool true] 4)) w.heap.size 238 #[.func (.func gf) #[] lb] := (Blk.made.alloc _).alloc _
 have q2 : Blk (((w.alloc (.cells #[.func (.func gf) #[] lb] 238)).alloc (.cells #[.int .i64 0, .int .i64 0] 28)).alloc (.cells #[.bool true] 4)) (w.heap.size + 1) 28 #[.int .i64 0, .int .i64 0] := (Blk.made' (by simp)).alloc _
 have q3 : Blk (((w.alloc (.cells #[.func (.func gf) #[] lb] 238)).alloc (.cells #[.int .i64 0, .int .i64 0] 28)).alloc (.cells #[.bool true] 4)) (w.heap.size + 1 + 1) 4 #[.bool true] := Blk.made' (by simp)
 have hB0 : Below w.heap.size w (((w.alloc (.cells #[.func (.func gf) #[] lb] 238)).alloc (.cells #[.int .i64 0, .int .i64 0] 28)).alloc (.cells #[.bool true] 4)) := (((Below.refl _ _).alloc (Nat.le_refl _) _).alloc (by simp) _).alloc (by simp; omega) _
 generalize (((w.alloc (.cells #[.func (.func gf) #[] lb] 238)).alloc (.cells #[.int .i64 0, .int .i64 0] 28)).alloc (.cells #[.bool true] 4)) = w0 at *
 refine truths_any.mono ?_
 rintro e w1 ⟨p1, rfl, hp1, hp1', e1, hB1⟩
 have hz0 := q3.lt
 have hz1 := hB1.size
 have n1 := q1.next hB1
 have n2 := q2.next hB1
 have n3 := q3.next hB1
 have hBw := hB0.trans (hB1.mono hB0.size)
 have HL1 := hide (HH.out.still hBw)
 have HBW := hide hBw
 clear q1 q2 q3 hB0 hB1 hBw
 go_wp2_with fail
 refine wp_rangeM rfl (enters_of Tryz.func300 (by kernel_rfl) rfl) rfl (truths_iter (C := fun k => k = w.heap.size + 1 ∨ k = w.heap.size + 1 + 1) HV.out (fun k hk => ⟨⟨by omega, by omega⟩, by omega, by omega⟩) HL1.out e1) (fun k h => by omega) (fun k h => by omega)
  (fun V V' h hk => h.below hk) cache_loop (fun pre W => LookH W L b bm f a ∧ Keep (fun k => k = bm) w W ∧ Blk W w.heap.size 238 #[.func (.func gf) #[] lb] ∧ Blk W (w.heap.size + 1) 28 #[.int .i64 (hullM of pre).lo, .int .i64 (hullM of pre).hi] ∧ Blk W (w.heap.size + 1 + 1) 4 #[.bool pre.isEmpty]) (fun _ _ _ => False) ?hI (fun _ _ _ _ h _ => h) HL1.out.k ⟨HL1.out, Keep.of_below' HBW.out _, n1, n2, n3⟩ ?body ?done (fun _ _ _ _ _ _ _ h _ _ _ => h.elim)
 case hI =>
  rintro pre V V' ⟨i0, ik, i1, i2, i3⟩ hk hm
  exact ⟨i0.keep hk (fun k hs => by have := HH.out.hm; have := HH.out.ne; omega) hm, ik.more (hk.mono fun k _ h => h.imp id (fun h => by omega)), i1.keep hk (by omega), i2.keep hk (by omega), i3.keep hk (by omega)⟩
 case body =>
  rintro l pre x W1 hl hx ⟨i0, ik, i1, i2, i3⟩ hm hlt
  simp only [plVal, iv]
  apply wpIn_one
  case h =>
   gi_wp2
   first | exact ⟨rfl, rfl, rfl⟩ | exact ⟨rfl, rfl⟩ | exact rfl
  case hq =>
  have bA : Blk (W1.alloc (.cells #[.int .i64 (nth x 0), .int .i64 (nth x 1), .int .i64 (nth x 2), .int .i64 (nth x 3)] 236)) W1.heap.size 236 #[.int .i64 (nth x 0), .int .i64 (nth x 1), .int .i64 (nth x 2), .int .i64 (nth x 3)] := Blk.made
  have hA : Below W1.heap.size W1 (W1.alloc (.cells #[.int .i64 (nth x 0), .int .i64 (nth x 1), .int .i64 (nth x 2), .int .i64 (nth x 3)] 236)) := (Below.refl _ _).alloc (Nat.le_refl _) _
  generalize W1.alloc (.cells #[.int .i64 (nth x 0), .int .i64 (nth x 1), .int .i64 (nth x 2), .int .i64 (nth x 3)] 236) = W2 at *
  have hzA := bA.lt
  have hzk := ik.size
  refine ⟨Keep.of_below' hA _, hm.below hA, fun W3 hk3 hm3 => ?_⟩
  have HX := (statesP_ok HV.out (List.mem_filter.1 hx).1).1
  have j0 := (i0.still hA).keep hk3 (fun k hs => by omega) hm3
  have jk := (ik.trans (Keep.of_below' hA _)).more (hk3.mono fun k _ h => .inr (by omega))
  have j1 := (i1.next hA).keep hk3 (by have := i1.lt; omega)
  have j2 := (i2.next hA).keep hk3 (by have := i2.lt; omega)
  have j3 := (i3.next hA).keep hk3 (by have := i3.lt; omega)
  have jA := bA.keep hk3 (by omega)
  have hcall := HQ.out x W3 HX j0 jk
  generalize hG : W1.heap.size = G at *
  clear i0 ik i1 i2 i3 hA bA hk3 hm hm3
  have r1 := j1.at_ 0
  have s0 := jA.at_ 0
  have s1 := jA.at_ 1
  have s2 := jA.at_ 2
  have s3 := jA.at_ 3
  simp only [List.getElem?_toArray, List.getElem?_cons_zero, List.getElem?_cons_succ] at r1 s0 s1 s2 s3
  have z1 := j1.lt
  have z2 := j2.lt
  have z3 := j3.lt
  have zA := jA.lt
  have HJ0 := hide j0
  have HJK := hide jk
  have HJ1 := hide j1
  have HJ2 := hide j2
  have HJ3 := hide j3
  simp only [plVal, iv] at hcall
  have HC := hide hcall
  clear j0 jk j1 j2 j3 jA hcall
  have eg' : ∀ (args : Array Value) (w : World), (callFunc gf args).run Tryz.prog w = .ok (.enter gf args) w := eg
  gi_wp2
  refine ⟨trivial, rfl, CallsIn.inRound _ (callsIn_wide.2 (HC.out.mono ?_))⟩
  rintro e W4 ⟨rfl, hb4⟩
  have hz4 := hb4.size
  have HK4 : Hid (Keep (fun k => k = bm) w W4) := HJK.out.trans (Keep.of_below' hb4 _)
  have HL4 := hide (HJ0.out.still hb4)
  have HM1 := hide (HJ1.out.next hb4)
  have HM2 := hide (HJ2.out.next hb4)
  have HM3 := hide (HJ3.out.next hb4)
  have HB4 : Hid (Below W3.heap.size W3 W4) := hb4
  clear hb4 s0 s1 s2 s3 r1
  have t0 := HM3.out.at_ 0
  have u0 := HM2.out.at_ 0
  have u1 := HM2.out.at_ 1
  have g0 := HM3.out.free 0
  have v0 := HM2.out.free 0
  have v1 := HM2.out.free 1
  simp only [List.getElem?_toArray, List.getElem?_cons_zero, List.getElem?_cons_succ] at t0 u0 u1
  have z2 : w.heap.size + 1 < W4.heap.size := by omega
  have z3 : w.heap.size + 1 + 1 < W4.heap.size := by omega
  have FIN : Hid (∀ (lo' hi' : Int) (W' : World), Keep (fun k => k = w.heap.size + 1 ∨ k = w.heap.size + 1 + 1) W4 W' → Blk W' (w.heap.size + 1) 28 #[.int .i64 lo', .int .i64 hi'] → Blk W' (w.heap.size + 1 + 1) 4 #[.bool false] → hullM of (pre ++ [x]) = ⟨lo', hi'⟩ →
   Keep (fun k => k = w.heap.size + 1 ∨ k = w.heap.size + 1 + 1) W3 W' ∧ Cache W' bm (waysV f) ∧ LookH W' L b bm f a ∧ Keep (fun k => k = bm) w W' ∧ Blk W' w.heap.size 238 #[.func (.func gf) #[] lb] ∧ Blk W' (w.heap.size + 1) 28 #[.int .i64 (hullM of (pre ++ [x])).lo, .int .i64 (hullM of (pre ++ [x])).hi] ∧ Blk W' (w.heap.size + 1 + 1) 4 #[.bool (pre ++ [x]).isEmpty]) := fun lo' hi' W' hk h2 h3 he => by
   have hc := HL4.out.k.keep hk (fun k hs => by
    rcases hs with rfl | rfl
    · exact ⟨by omega, WayBlk.not (by decide) HM2.out⟩
    · exact ⟨by omega, WayBlk.not (by decide) HM3.out⟩)
   refine ⟨(Keep.of_below' HB4.out _).trans hk, hc, HL4.out.keep hk (fun k hs => by omega) hc, HK4.out.more (hk.mono fun k _ h => .inr (by omega)), HM1.out.keep hk (by omega), by rw [he]; exact h2, ?_⟩
   rw [show (pre ++ [x]).isEmpty = false by cases pre <;> rfl]
   exact h3
  have hn1 : ¬ w.heap.size + 1 = w.heap.size + 1 + 1 := by omega
  have kc : ∀ (V : World) (v : Value) (o : Nat), Keep (fun k => k = w.heap.size + 1 ∨ k = w.heap.size + 1 + 1) V (V.setCell ⟨w.heap.size + 1, o, none⟩ v) := fun V v o => Keep.setCell _ _ _ _ (.inl rfl)
  have kd : ∀ (V : World) (v : Value) (o : Nat), Keep (fun k => k = w.heap.size + 1 ∨ k = w.heap.size + 1 + 1) V (V.setCell ⟨w.heap.size + 1 + 1, o, none⟩ v) := fun V v o => Keep.setCell _ _ _ _ (.inr rfl)
  have KC := hide kc
  have KD := hide kd
  clear kc kd
  cases hE : pre.isEmpty with
  | true =>
   rw [hE] at t0
   have hH : Hid (hullM of (pre ++ [x]) = ⟨of x, of x⟩) := by
    obtain rfl : pre = [] := List.isEmpty_iff.1 hE
    exact hide (hull_first of x)
   clear hE
   generalize of x = n at *
   generalize (hullM of pre).lo = lo at *
   generalize (hullM of pre).hi = hi at *
   gi_wp2
   refine FIN.out n n _ (((((KC.out W4 _ 0).trans (KC.out _ _ 1)).trans (KD.out _ _ 0)).trans (KC.out _ _ 0)).trans (KC.out _ _ 1)) ?_ ?_ hH.out
   · exact ((((HM2.out.store 0 _).store 1 _).keep (Keep.setCell _ _ _ (fun k => k = w.heap.size + 1 + 1) rfl) (by omega)).store 0 _).store 1 _
   · exact ((((HM3.out.keep (Keep.setCell _ _ _ (fun k => k = w.heap.size + 1) rfl) (by omega)).keep (Keep.setCell _ _ _ (fun k => k = w.heap.size + 1) rfl) (by omega)).store 0 _).keep (Keep.setCell _ _ _ (fun k => k = w.heap.size + 1) rfl) (by omega)).keep (Keep.setCell _ _ _ (fun k => k = w.heap.size + 1) rfl) (by omega)
  | false =>
   rw [hE] at t0
   have hH := hide (hull_next of hE x)
   rw [hE] at HM3
   clear hE
   generalize of x = n at *
   generalize (hullM of pre).lo = lo at *
   generalize (hullM of pre).hi = hi at *
   gi_wp2
   all_goals
    refine FIN.out _ _ _ ((KC.out W4 _ 0).trans (KC.out _ _ 1)) ((HM2.out.store 0 _).store 1 _) ((HM3.out.keep (Keep.setCell _ _ _ (fun k => k = w.heap.size + 1) rfl) (by omega)).keep (Keep.setCell _ _ _ (fun k => k = w.heap.size + 1) rfl) (by omega)) ?_
    rw [hH.out]
    simp only [Span.mk.injEq]
    omega
 case done =>
  rintro D W' hD ⟨i0, ik, i1, i2, i3⟩ hm hk hd
  have HMS : Hid (MarksOk (w.heap.size + 1 + 1) [{ target := .collected D, args := #[] }] W') := ⟨⟨D, by omega, rfl, hd, by simp⟩, trivial⟩
  have HKK := hide ik
  have HKN := hide hm
  have r0 := i2.at_ 0
  have r1 := i2.at_ 1
  have g0 := i2.free 0
  have g1 := i2.free 1
  simp only [List.getElem?_toArray, List.getElem?_cons_zero, List.getElem?_cons_succ] at r0 r1
  have hz' := i2.lt
  have HBI := hide i2
  clear hk hd hm i0 ik i1 i2 i3
  generalize hlo : (hullM of (truthsL f)).lo = lo at *
  generalize hhi : (hullM of (truthsL f)).hi = hi at *
  have HLO := hide hlo
  have HHI := hide hhi
  clear hlo hhi
  go_wp2_with fail
  have hk4 : Keep (fun k => k = w.heap.size + 1) W' ((W'.setCell ⟨w.heap.size + 1, 0, none⟩ (.int .i64 lo)).setCell ⟨w.heap.size + 1, 1, none⟩ (.int .i64 hi)) := (Keep.setCell W' ⟨w.heap.size + 1, 0, none⟩ (.int .i64 lo) (fun k => k = w.heap.size + 1) rfl).trans (Keep.setCell _ ⟨w.heap.size + 1, 1, none⟩ (.int .i64 hi) (fun k => k = w.heap.size + 1) rfl)
  have b4 : Blk ((W'.setCell ⟨w.heap.size + 1, 0, none⟩ (.int .i64 lo)).setCell ⟨w.heap.size + 1, 1, none⟩ (.int .i64 hi)) (w.heap.size + 1) 28 #[.int .i64 lo, .int .i64 hi] := (HBI.out.store 0 _).store 1 _
  have hm4 := HKN.out.keep hk4 (fun k hk => by subst hk; exact ⟨by omega, WayBlk.not (by decide) HBI.out⟩)
  generalize ((W'.setCell ⟨w.heap.size + 1, 0, none⟩ (.int .i64 lo)).setCell ⟨w.heap.size + 1, 1, none⟩ (.int .i64 hi)) = W5 at *
  refine leaves_marksM (B := w.heap.size + 1 + 1) (M := fun W => Cache W bm (waysV f)) cache_def ((HMS.out.keep hk4 (by omega))) hm4 (fun w' hkw' hm' => ?_)
  have bw := b4.keep hkw' (by omega)
  have x0 := bw.at_ 0
  have x1 := bw.at_ 1
  simp only [List.getElem?_toArray, List.getElem?_cons_zero, List.getElem?_cons_succ] at x0 x1
  refine ⟨.agg #[.int .i64 lo, .int .i64 hi], by simp [results, Tryz.results123, go_sem, x0, x1], by rw [HLO.out, HHI.out], ?_, hm'⟩
  exact (HKK.out.more (hk4.mono fun k _ h => .inr (by omega))).more (hkw'.mono (fun k _ h => .inr (by omega)))
end Go.Proofs.YtkaahiddngmdbaaGreatDoor
