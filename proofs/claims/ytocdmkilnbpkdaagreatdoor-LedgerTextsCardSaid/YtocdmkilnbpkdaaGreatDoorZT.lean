/- First of the program. -/
import Derived.Test.YtocdmkilnbpkdaaGreatDoorZQ
import Derived.Laws.EntriesVeiled
import Derived.OwnWalkIn
import Derived.Laws.MakeOwn
import Derived.OwnWalk
import Derived.TacticsInMore
import Derived.Deep.DeepCutAuto
set_option linter.unusedVariables false
set_option linter.unusedSimpArgs false
namespace Go.Proofs.YtocdmkilnbpkdaaGreatDoor
open Go.RowKit
attribute [local go_sem] Oper.semAt_some

theorem blk_setCells {g : Nat} {T : TypeId} : ∀ (cs : List Value) (o : Nat) (w : World) (vs : Array Value), Blk w g T vs → o + cs.length ≤ vs.size → ∃ vs', Blk (w.setCells g o cs) g T vs' ∧ vs'.size = vs.size ∧ (∀ j, j < o → vs'[j]? = vs[j]?) ∧ (∀ j, j < cs.length → vs'[o + j]? = cs[j]?)
 | [], o, w, vs, h, _ => ⟨vs, h, rfl, fun _ _ => rfl, fun j hj => by simp at hj⟩
 | v :: r, o, w, vs, h, hl => by
  have hl' : o + (r.length + 1) ≤ vs.size := by simpa using hl
  obtain ⟨vs', h1, h2, h3, h4⟩ := blk_setCells r (o + 1) (w.setCell ⟨g, o, none⟩ v) (vs.setIfInBounds o v) (h.store o v) (by simp; omega)
  refine ⟨vs', h1, by rw [h2]; simp, fun j hj => by rw [h3 j (by omega), Array.getElem?_setIfInBounds_ne (by omega)], fun j hj => ?_⟩
  match j, hj with
  | 0, _ => rw [Nat.add_zero, h3 o (by omega), Array.getElem?_setIfInBounds_self_of_lt (by omega)]; rfl
  | j + 1, hj => rw [show o + (j + 1) = o + 1 + j by omega, h4 j (by simpa using hj)]; rfl
theorem keep_setCells (g : Nat) : ∀ (cs : List Value) (o : Nat) (w : World), Keep (fun k => k = g) w (w.setCells g o cs)
 | [], _, _ => Keep.refl _ _
 | v :: r, o, w => (Keep.setCell w ⟨g, o, none⟩ v (fun k => k = g) rfl).trans (keep_setCells g r (o + 1) _)
def firstV (b : Book) : List Int × Int := if enterK b 0 = 0 then (firstL b b.steps.length, 0) else ([], enterK b 0)
set_option maxHeartbeats 8000000 in
set_option maxRecDepth 100000 in
theorem first_any {b : Book} {a : BA} {w : World} (h : BookV w w.heap.size b a) :
 Calls Tryz.prog 29 #[bookVal b a] w fun e w' => ∃ A c, e = .returned (.tuple #[.slice A (firstV b).1.length c, .int .i64 (firstV b).2]) ∧ IntsS w' w'.heap.size A (firstV b).1.length c (firstV b).1 ∧ Below w.heap.size w w' := by
 have HX := hide (BoxB.made h)
 have HV0 := hide h
 have HB := hide (show Below w.heap.size w (w.alloc (.cells (bookCells b a) 25)) from (Below.refl _ _).alloc (Nat.le_refl _) _)
 have hm1 := h.m1
 have hm2 := h.m2
 unfold maxLen at hm1 hm2
 clear h
 go_enter Tryz.func29, Tryz.ntmps29
 go_upto_region 1 with (fail)
 generalize (w.alloc (.cells (bookCells b a) 25)) = v0 at *
 obtain ⟨z, x0, x1⟩ := HX.out.cells
 go_wp2_with fail
 refine (enter_any (s := 0) HX.out.v).mono ?_
 rintro e v1 ⟨p, rfl, hb, hen⟩
 have HB1 := hide (HB.out.trans (hb.mono HB.out.size))
 have HX1 := hide (HX.out.next hb)
 have hz := HX.out.k.lt
 have hzb := hb.size
 clear x0 x1 z hb HX hen
 by_cases hk : enterK b 0 = 0
 · have HV := hide (enterK_zero hk)
   have HWV := hide (show firstV b = (firstL b b.steps.length, 0) by rw [firstV, if_pos hk])
   rw [hk]
   clear hk
   have h6 := HV.out.1.steps
   have h6t := HV.out.1.tallies
   obtain ⟨z1, x0, x1⟩ := HX1.out.cells
   obtain ⟨i2, hinf2, hy0, hy1, hy2⟩ := info_parts Tryz.infoTally
   have hmk : ∀ W : World, (Instr.makeSlice 23 (.int .i64 (b.tallies.length : Int)) (.int .i64 ((b.tallies.length : Int) + (b.steps.length : Int)))).run Tryz.prog W = .ok (.slice (some ⟨W.heap.size, 0, none⟩) b.tallies.length (b.tallies.length + b.steps.length)) (W.alloc (.cells (madeCells #[.int .i64 0, .int .i64 0, .int .i64 0] ((b.tallies.length + b.steps.length) * 3)) 50)) := fun W => by
    have := run_make (P := Tryz.prog) (w := W) 23 50 i2 _ Tryz.underTally hinf2 hy0 .i64 .i64 (b.tallies.length : Int) ((b.tallies.length : Int) + (b.steps.length : Int)) (by omega) (by omega) (by rw [hy2]; omega) (by omega)
    rw [this, hy1, show ((b.tallies.length : Int) + (b.steps.length : Int)).toNat = b.tallies.length + b.steps.length by omega]
    rfl
   go_upto_region 5 with (fail)
   have hmc : (madeCells #[.int .i64 0, .int .i64 0, .int .i64 0] ((b.tallies.length + b.steps.length) * 3)).size = (b.tallies.length + b.steps.length) * 3 := size_madeCells _ _
   have n0 : Blk (((v1.alloc (.cells (madeCells #[.int .i64 0, .int .i64 0, .int .i64 0] ((b.tallies.length + b.steps.length) * 3)) 50)).alloc (.cells #[.slice (some ⟨v1.heap.size, 0, none⟩) b.tallies.length (b.tallies.length + b.steps.length)] 23))) v1.heap.size 50 (madeCells #[.int .i64 0, .int .i64 0, .int .i64 0] ((b.tallies.length + b.steps.length) * 3)) := Blk.made.alloc _
   have n2 : Blk (((v1.alloc (.cells (madeCells #[.int .i64 0, .int .i64 0, .int .i64 0] ((b.tallies.length + b.steps.length) * 3)) 50)).alloc (.cells #[.slice (some ⟨v1.heap.size, 0, none⟩) b.tallies.length (b.tallies.length + b.steps.length)] 23))) (v1.heap.size + 1) 23 #[.slice (some ⟨v1.heap.size, 0, none⟩) b.tallies.length (b.tallies.length + b.steps.length)] := Blk.made' (by simp)
   have hba : Below v1.heap.size v1 (((v1.alloc (.cells (madeCells #[.int .i64 0, .int .i64 0, .int .i64 0] ((b.tallies.length + b.steps.length) * 3)) 50)).alloc (.cells #[.slice (some ⟨v1.heap.size, 0, none⟩) b.tallies.length (b.tallies.length + b.steps.length)] 23))) := ((Below.refl _ _).alloc (Nat.le_refl _) _).alloc (by simp) _
   clear hmk x0 x1 z1
   generalize ((v1.alloc (.cells (madeCells #[.int .i64 0, .int .i64 0, .int .i64 0] ((b.tallies.length + b.steps.length) * 3)) 50)).alloc (.cells #[.slice (some ⟨v1.heap.size, 0, none⟩) b.tallies.length (b.tallies.length + b.steps.length)] 23)) = v2 at *
   generalize madeCells #[.int .i64 0, .int .i64 0, .int .i64 0] ((b.tallies.length + b.steps.length) * 3) = cur at *
   have HX2 := hide (HX1.out.next hba)
   have HB2 := hide (HB1.out.trans (hba.mono HB1.out.size))
   obtain ⟨z1, x0, x1⟩ := HX2.out.cells
   have y0 := n2.at_ 0
   simp only [List.getElem?_toArray, List.getElem?_cons_zero] at y0
   have hzy := n2.lt
   have HC := hide (show (Tryz.prog.info? 50).map (·.size) = some 3 by kernel_rfl)
   have htl := tallyVals_len b.tallies
   have hmin : (tallyVals b.tallies).length = Nat.min b.tallies.length b.tallies.length * 3 := by rw [htl]; simp
   have hrow := HV0.out.tallies
   have hpos : 0 < (tallyVals b.tallies).length → (some (⟨v1.heap.size, 0, none⟩ : Addr)) = some ⟨v1.heap.size, 0, none⟩ ∧ ∃ ad, a.A2 = some ad ∧ ∀ j v, (tallyVals b.tallies)[j]? = some v → v2.cell? (ad.add j) = some v := fun h0 => by
    obtain ⟨bl, ol, e, hbl, hc⟩ := hrow (by omega)
    refine ⟨rfl, _, e, fun j v hjv => ?_⟩
    have hj : j < b.tallies.length * 3 := by have := (List.getElem?_eq_some_iff.1 hjv).1; omega
    rw [tallyVals_at _ hj] at hjv
    rw [Addr.add_lit, HB2.out.cell (p := ⟨bl, ol + j, none⟩) hbl, hc j hj, ← hjv]
   have hcc : ∀ j, j < (tallyVals b.tallies).length → (v2.cell? ⟨v1.heap.size, 0 + j, none⟩).isSome = true := fun j hj => by
    rw [n0.at_, Array.getElem?_eq_getElem (by omega)]; rfl
   have hff : ∀ j, j < (tallyVals b.tallies).length → v2.frozen? ⟨v1.heap.size, 0 + j, none⟩ = false := fun j _ => n0.free _
   have h1c : ∀ v ∈ tallyVals b.tallies, v.oneCell' = true := fun v hv => by
    obtain ⟨j, _, rfl⟩ := List.mem_map.1 hv
    unfold talliesF; split <;> rfl
   have HN0 := hide n0
   have HN2 := hide n2
   have HHC := hide hcc
   have HFF := hide hff
   have HPO := hide hpos
   have HMI := hide hmin
   have H1C := hide h1c
   have hza := hba.size
   have HMC := hide hmc
   have HTL := hide htl
   clear n0 n2 hba hcc hff hpos hmin h1c hrow hmc htl
   generalize hts : tallyVals b.tallies = TS at *
   have HTS := hide hts
   clear hts
   go_upto_region 6 with (with_reducible refine wpList_copy_k rfl (.tmp 28) (.tmp 30) 23 23 rfl 50 Tryz.underTally 3 HC.out (some ⟨v1.heap.size, 0, none⟩) a.A2 b.tallies.length (b.tallies.length + b.steps.length) b.tallies.length a.c2 rfl rfl v1.heap.size 0 TS HMI.out (fun h => ⟨rfl, (HPO.out h).2⟩) HHC.out HFF.out H1C.out ?_; intro v3 hv3)
   subst hv3
   obtain ⟨vs', m0, ms, _, mg⟩ := blk_setCells TS 0 v2 cur HN0.out (by have := HTL.out; have := HMC.out; omega)
   have hkc := keep_setCells v1.heap.size TS 0 v2
   have hzc := hkc.size
   have hlt0 := HN0.out.lt
   have n2 := HN2.out.keep hkc (by omega)
   have n1 := HX2.out.k.keep hkc (by omega)
   have hown : (v2.setCells v1.heap.size 0 TS).ownsRow w.heap.size 50 3 (.slice (some ⟨v1.heap.size, 0, none⟩) b.tallies.length (b.tallies.length + b.steps.length)) b.tallies.length TS := by
    refine ⟨HTL.out, .inr ⟨v1.heap.size, _, vs', rfl, by omega, m0, by omega, by unfold maxLen; omega, by rw [ms, HMC.out], ?_⟩⟩
    refine List.ext_getElem? fun j => ?_
    by_cases hj : j < b.tallies.length * 3
    · rw [List.getElem?_take_of_lt hj]
      have := mg j (by rw [HTL.out]; exact hj)
      rw [Nat.zero_add] at this
      simpa using this
    · rw [List.getElem?_eq_none (by simp; omega), List.getElem?_eq_none (by have := HTL.out; omega)]
   have hB3 : Below w.heap.size w (v2.setCells v1.heap.size 0 TS) := HB2.out.trans (hkc.below (fun k h => by omega) (by omega))
   have N1 := hide n1
   have N2 := hide n2
   have HO := hide hown
   have HB3 := hide hB3
   clear n1 n2 hown hB3 m0 ms mg hkc y0 x0 x1 z1 HN0 HN2 HHC HFF HPO HMI H1C HX2
   generalize v2.setCells v1.heap.size 0 TS = v3 at *
   go_upto_region 9 with (fail)
   have hbb : Below v3.heap.size v3 ((v3.alloc (.cells #[.slice none 0 0] 35)).alloc (.cells #[.func (.func 73) #[] #[.pointer (some ⟨w.heap.size, 0, none⟩), .pointer (some ⟨v1.heap.size + 1, 0, none⟩), .pointer (some ⟨v3.heap.size, 0, none⟩), .pointer (some ⟨v3.heap.size + 1, 0, none⟩)]] 100)) := ((Below.refl _ _).alloc (Nat.le_refl _) _).alloc (by simp) _
   have hz3 := N2.out.lt
   have hz1 := N1.out.lt
   have hfi : FirI w.heap.size ((v3.alloc (.cells #[.slice none 0 0] 35)).alloc (.cells #[.func (.func 73) #[] #[.pointer (some ⟨w.heap.size, 0, none⟩), .pointer (some ⟨v1.heap.size + 1, 0, none⟩), .pointer (some ⟨v3.heap.size, 0, none⟩), .pointer (some ⟨v3.heap.size + 1, 0, none⟩)]] 100)) b a w.heap.size (v1.heap.size + 1) v3.heap.size (v3.heap.size + 1) 0 (.slice (some ⟨v1.heap.size, 0, none⟩) b.tallies.length (b.tallies.length + b.steps.length)) (.slice none 0 0) :=
    ⟨(HV0.out.below HB3.out).below (hbb.mono (by omega)), N1.out.next hbb, N2.out.next hbb, Blk.made.alloc _, Blk.made' (by simp),
     by show World.ownsRow _ _ _ _ _ b.tallies.length (tallyVals b.tallies); rw [HTS.out]; exact own_stab HO.out (fun k hk _ => hbb.block k hk), ⟨rfl, .inl ⟨rfl, rfl⟩⟩,
     fun k hk => by
      have e : v1.heap.size = k := own_new hk
      subst e
      exact ⟨by omega, by omega, by omega, by omega, fun h => by cases h⟩,
     (fun k hk => by cases hk), ⟨by omega, by omega, by omega, by omega⟩⟩
   have HFI := hide hfi
   have HB9 := hide (HB3.out.trans (hbb.mono (by omega)))
   have y6 := hfi.k4.at_ 0
   simp only [List.getElem?_toArray, List.getElem?_cons_zero] at y6
   have hz4 := hfi.k4.lt
   clear hfi hbb
   generalize ((v3.alloc (.cells #[.slice none 0 0] 35)).alloc (.cells #[.func (.func 73) #[] #[.pointer (some ⟨w.heap.size, 0, none⟩), .pointer (some ⟨v1.heap.size + 1, 0, none⟩), .pointer (some ⟨v3.heap.size, 0, none⟩), .pointer (some ⟨v3.heap.size + 1, 0, none⟩)]] 100)) = w9 at *
   have hz9 := HB9.out.size
   go_wp2_with fail
   refine (next_rec HV.out.1.good HV.out.2.2 h6t b.steps.length 0 (by omega) w9 _ _ HFI.out).mono ?_
   rintro e w6 ⟨rfl, ⟨u2, u3, hf⟩, hb6⟩
   obtain ⟨A, c, rfl, ho⟩ := own_ex hf.o3
   have hi := ints_own ho
   have y7 := hf.k3.at_ 0
   simp only [List.getElem?_toArray, List.getElem?_cons_zero] at y7
   have hz7 := hf.k3.lt
   have HI := hide hi
   have HB6 := hide (HB9.out.trans hb6)
   have hfl : (firstL b b.steps.length).length = b.steps.length := by simp [firstL]
   have HFL := hide hfl
   clear hf ho hi hb6 hfl y6
   go_wp2_with fail
   exact bodyPost_ret (v := .tuple #[.slice A b.steps.length c, .int .i64 0]) (by simp [results, Tryz.results29, go_sem]) rfl ⟨A, c, by rw [HWV.out, HFL.out], by rw [HWV.out, HFL.out]; exact HI.out, HB6.out⟩
 · have hd : (enterK b 0 != 0) = true := by simpa using hk
   have HWV := hide (show firstV b = ([], enterK b 0) by rw [firstV, if_neg hk])
   clear hk
   generalize enterK b 0 = K at *
   go_wp2_with fail
   exact bodyPost_ret (v := .tuple #[.slice none 0 0, .int .i64 K]) (by simp [results, Tryz.results29, go_sem]) rfl ⟨none, 0, by rw [HWV.out]; rfl, by rw [HWV.out]; exact IntsS.nil_, HB1.out⟩
end Go.Proofs.YtocdmkilnbpkdaaGreatDoor
