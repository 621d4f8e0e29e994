/- Truly of the law. -/
import Derived.Test.YtocdmkilnbpkdaaGreatDoorID
import Derived.OwnWalkIn
import Derived.Laws.MakeOwn
import Derived.OwnWalk
import Derived.Laws.AppendOwn
import Derived.Laws.StructEq
import Derived.TacticsInMore
import Derived.Deep.DeepCutAuto
import Derived.Test.YtocdmkilnbpkdaaGreatDoorXE
set_option linter.unusedVariables false
set_option linter.unusedSimpArgs false
namespace Go.Proofs.YtocdmkilnbpkdaaGreatDoor
open Go.RowKit
attribute [local go_sem] Oper.semAt_some

def rowV (n : Nat) (f : Nat → Int) : Array Value := ((List.range n).map fun k => Value.int .i64 (f k)).toArray
theorem rowV_at {n : Nat} (f : Nat → Int) {k : Nat} (h : k < n) : (rowV n f)[k]? = some (.int .i64 (f k)) := by
 rw [rowV, List.getElem?_toArray, List.getElem?_map, List.getElem?_range h]; rfl
theorem rowV_size (n : Nat) (f : Nat → Int) : (rowV n f).size = n := by simp [rowV]
theorem rowV_set (n : Nat) (f : Nat → Int) (i : Nat) (v : Int) : (rowV n f).setIfInBounds i (.int .i64 v) = rowV n fun k => if k = i then v else f k := by
 apply Array.ext (by simp [rowV_size])
 intro k h1 h2
 have hk : k < n := by simpa [rowV_size] using h1
 by_cases e : k = i
 · subst e; simp [rowV]
 · simp [rowV, Ne.symm e, e]
theorem rowV_made (n : Nat) : madeCells #[.int .i64 0] (n * 1) = rowV n fun _ => 0 := by
 rw [Nat.mul_one]
 apply Array.ext (by simp [rowV_size, size_madeCells])
 intro k h1 h2
 have hk : k < n := by simpa [size_madeCells] using h1
 simp [madeCells, rowV, Nat.mod_one]
theorem rowV_ints {W : World} {g n : Nat} {f : Nat → Int} (h : Blk W g 3 (rowV n f)) (hn : n ≤ maxLen) : IntsS W W.heap.size (some ⟨g, 0, none⟩) n n ((List.range n).map f) :=
 ⟨by simp, Nat.le_refl _, hn, fun _ => ⟨g, 0, rfl, h.lt, fun k hk => by
  rw [Nat.zero_add, h.at_ k, rowV_at f hk, intsF, nth_eq (by simpa using hk)]; simp⟩⟩
theorem sumL_snoc (f : Nat → Int) (l : List Nat) (k : Nat) : sumL f (l ++ [k]) = sumL f l + f k := by
 induction l with
 | nil => simp [sumL]
 | cons x l ih => rw [List.cons_append, sumL, sumL, ih]; omega
set_option maxHeartbeats 4000000 in
set_option maxRecDepth 100000 in
theorem truly12_any {b : Book} {a : BA} {w : World} {A : Option Addr} {cp : Nat} {x : List Int} (h : BookV w w.heap.size b a) (hg : Good b) (hx : BytesS w w.heap.size A cp x) :
 Calls Tryz.prog 42 #[bookVal b a, .slice A x.length cp] w fun e w' => ∃ g, e = .returned (.tuple #[.slice (some ⟨g, 0, none⟩) b.steps.length b.steps.length, .bool (decide (truB b x 0 ≤ 99))]) ∧ IntsS w' w'.heap.size (some ⟨g, 0, none⟩) b.steps.length b.steps.length (truL b x) ∧ Below w.heap.size w w' := by
 have h6 := hg.six
 have hpos := hg.pos
 have HB := hide (show Below w.heap.size w (w.alloc (.cells (bookCells b a) 25)) from (Below.refl _ _).alloc (Nat.le_refl _) _)
 have HX := hide (BoxB.made h)
 have HV := hide h
 have HI := hide (hx.next HB.out)
 have HG := hide hg
 have HTB := hide (show ∀ i, 0 ≤ turnB x i ∧ turnB x i ≤ 255 from turnB_bd hx.bd)
 have HI0 := hide hx
 obtain ⟨i2, hinf2, hy0, hy1, hy2⟩ := info_parts Tryz.infoInt
 have hmk : ∀ W : World, (Instr.makeSlice 35 (.int .i64 (b.steps.length : Int)) (.int .i64 (b.steps.length : Int))).run Tryz.prog W = .ok (.slice (some ⟨W.heap.size, 0, none⟩) b.steps.length b.steps.length) (W.alloc (.cells (rowV b.steps.length fun _ => 0) 3)) := fun W => by
  have := run_make (P := Tryz.prog) (w := W) 35 3 i2 _ Tryz.underlying35 hinf2 hy0 .i64 .i64 (b.steps.length : Int) (b.steps.length : Int) (by omega) (by omega) (by rw [hy2]; omega) (by omega)
  rw [this, hy1, show (b.steps.length : Int).toNat = b.steps.length by omega, ← rowV_made]
  rfl
 clear h hx hg hinf2 hy0 hy1 hy2
 go_enter Tryz.func42, Tryz.ntmps42
 go_upto_region 1 with (fail)
 generalize (w.alloc (.cells (bookCells b a) 25)) = v at *
 obtain ⟨gz, x0, x1⟩ := HX.out.cells
 have hw1 : IntKind.i64.wrap ((b.steps.length : Int) - 1) = (b.steps.length : Int) - 1 := IntWalk.i64_in _ (by omega)
 go_upto_region 2 with (fail)
 have hb : Below v.heap.size v (v.alloc (.cells (rowV b.steps.length fun _ => 0) 3)) := (Below.refl _ _).alloc (Nat.le_refl _) _
 have no : Blk (v.alloc (.cells (rowV b.steps.length fun _ => 0) 3)) v.heap.size 3 (rowV b.steps.length fun _ => 0) := Blk.made
 have HX1 := hide (HX.out.next hb)
 have HI1 := hide (HI.out.next hb)
 have HB1 := hide (HB.out.trans (hb.mono HB.out.size))
 have HNO := hide no
 have hgv := HX.out.k.lt
 clear hb no gz x0 x1 hmk
 generalize (v.alloc (.cells (rowV b.steps.length fun _ => 0) 3)) = v1 at *
 have hzv := HNO.out.lt
 generalize v.heap.size = g at *
 obtain ⟨gz, x0, x1⟩ := HX1.out.cells
 go_wp2_with fail
 clear gz x0 x1
 go_loopw [7, 8, 9, 10, 19, 20, 21, 22, 23, 24, 25, 26, 27, 28, 29, 30, 31, 32, 33, 34, 35, 36, 37, 38, 39, 40, 41, 42, 43, 44, 45, 46, 47, 48, 49, 50, 51, 52, 53, 54, 55, 56, 57, 58, 59, 60, 61, 62] (fun v7 _ _ _ _ _ _ _ _ _ _ _ _ _ _ _ _ _ _ _ _ _ _ _ _ _ _ _ _ _ _ _ _ _ _ _ _ _ _ _ _ _ _ _ _ _ _ _ wr => ∃ j : Nat, j ≤ b.steps.length ∧ v7 = .int .i64 ((b.steps.length : Int) - 1 - (j : Nat)) ∧ Hid (Blk wr g 3 (rowV b.steps.length ((wayOf b).truS (turnB x) j))) ∧ Hid (Keep (fun k => k = g) v1 wr)) (fun v7 _ _ _ _ _ _ _ _ _ _ _ _ _ _ _ _ _ _ _ _ _ _ _ _ _ _ _ _ _ _ _ _ _ _ _ _ _ _ _ _ _ _ _ _ _ _ _ _ => (intOf v7 + 1).toNat)
 case atStart => exact ⟨0, Nat.zero_le _, by first | rfl | (congr 1; omega) | simp, HNO, hide (Keep.refl _ _)⟩
 case round =>
  obtain ⟨j, hj, rfl, HR, HK⟩ := hrel
  obtain ⟨u0, rfl⟩ : ∃ u0 : World, u0 = wr := ⟨_, rfl⟩
  have hbw : Below w.heap.size v1 u0 := HK.out.below (fun k hk => by omega) (by omega)
  have HBQ := hide (HB1.out.trans hbw)
  have HX2 : Hid (BoxB u0 w.heap.size b a) := hide ⟨(HV.out.below HBQ.out).more HBQ.out.size, HX1.out.k.keep HK.out (by omega)⟩
  have HI2 : Hid (BytesS u0 u0.heap.size A cp x) := hide (HI0.out.next HBQ.out)
  have hzu := HR.out.lt
  clear hbw
  obtain ⟨gz, x0, x1⟩ := HX2.out.cells
  by_cases hlt : j < b.steps.length
  · obtain ⟨i, hij⟩ : ∃ i : Nat, b.steps.length - 1 - j = i := ⟨_, rfl⟩
    have hi : i < b.steps.length := by omega
    have hij2 : (b.steps.length : Int) - 1 - (j : Int) = (i : Int) := by omega
    rw [hij2]
    have HIJ := hide hij
    clear hij hij2
    have hi0 : (0 : Int) ≤ (i : Int) := Int.natCast_nonneg _
    have hi1 : (i : Int) < (b.steps.length : Int) := by omega
    go_upto_region 6 with (go_at_call 44; refine (behind12_any HX2.out.v h6 i).mono ?_; rintro e u1 ⟨lA, lc, rfl, hl, _, hb⟩)
    have HX3 := hide (HX2.out.next hb)
    have HI3 := hide (HI2.out.next hb)
    have HR3 := hide (HR.out.next hb)
    have HK3 := hide (HK.out.trans (Keep.of_below' hb (fun k => k = g)))
    have HL := hide hl
    have hkk := behind_kids HG.out i
    have HME := hide (show ∀ k, k ∈ behindB b i → k < b.steps.length from fun k hk => by
     rw [hkk] at hk
     exact (kid_gt HG.out.way hk).2)
    have hl6 : (behindB b i).length ≤ 6 := by rw [hkk]; exact kids_len HG.out.way i
    have HSB := hide (fun (l : List Nat) (h6 : l.length ≤ 6) (hm : ∀ k ∈ l, k < b.steps.length) => show 0 ≤ sumL ((wayOf b).truS (turnB x) j) l ∧ sumL ((wayOf b).truS (turnB x) j) l ≤ 2400000 from by
     have hbd := fun k (hk : k ∈ l) => truS_bd HG.out.way (fun i => (HTB.out i).1) j hj k (hm k hk)
     have := sumL_cap (Bd_pos j) h6 hbd
     have := Bd_six (m := j) (by omega)
     omega)
    have HQB := hide (fun k (hk : k < b.steps.length) => show 0 ≤ ((wayOf b).truS (turnB x) j) k ∧ ((wayOf b).truS (turnB x) j) k ≤ 400000 from by
     have := truS_bd HG.out.way (fun i => (HTB.out i).1) j hj k hk
     have := Bd_six (m := j) (by omega)
     omega)
    have HEN := hide (show ((wayOf b).truS (turnB x) (j + 1)) = fun k => if k = i then (if behindB b i = [] then turnB x i % 40 else turnB x i % ((nth b.steps i).loss + 1)) + sumL ((wayOf b).truS (turnB x) j) (behindB b i) else ((wayOf b).truS (turnB x) j) k from by
     have e : (wayOf b).n - 1 - j = i := HIJ.out
     rw [Way.truS, e, Way.truV, Way.truE, hkk]
     rfl)
    have hlo := HG.out.loss i hi
    have htb := HTB.out i
    clear hl hb gz x0 x1 HX2 HI2 HR HK hkk
    generalize behindB b i = l at *
    obtain ⟨gz, x0, x1⟩ := HX3.out.cells
    obtain ⟨g1, o1, hA1, hg1, s0, s1, s2⟩ := HX3.out.v.steps.steps hi
    rw [hA1] at x0
    clear hA1 s0 s1
    generalize (nth b.steps i).loss = lo at *
    generalize hti : turnB x i = ti at *
    have HTI := hide hti
    clear hti
    have hwl : IntKind.i64.wrap (lo + 1) = lo + 1 := IntWalk.i64_in _ (by omega)
    have hm0 := Int.emod_nonneg ti (show lo + 1 ≠ 0 by omega)
    have hm1 := Int.emod_lt_of_pos ti (show 0 < lo + 1 by omega)
    have hm2 : ti.tmod (lo + 1) = ti % (lo + 1) := Int.tmod_eq_emod_of_nonneg htb.1
    have hm3 : lo + 1 ≠ 0 := by omega
    have hm4 : ((lo + 1) == 0) = false := by simpa using hm3
    have hm5 : IntKind.i64.wrap (ti % (lo + 1)) = ti % (lo + 1) := IntWalk.i64_in _ (by omega)
    go_quiet (first | (go_at_call 90; with_reducible exact Calls.quiet_of_same ((turn12_any (HI3.out.next (below_drewN (Below.refl u1.heap.size u1) _)) i (by omega)).mono (fun _ _ h => ⟨by rw [h.1, HTI.out], h.2.symm⟩))))
    have hb := below_drewN (Below.refl u1.heap.size u1) nq
    have HI4 := hide (HI3.out.next hb)
    have HR4 := hide (HR3.out.next hb)
    have HK4 := hide (HK3.out.trans (Keep.of_below' hb (fun k => k = g)))
    have HL4 := hide (HL.out.next hb)
    clear hb s2 hwl hm2 hm3 hm4 hm5 gz x0 x1 HX3 HI3 HR3 HK3 HL hg1
    generalize u1.drewN nq = u2 at *
    have hmw : True := trivial
    by_cases hl0 : l = []
    · have HL0 := hide hl0
      have hle : l.length = 0 := by rw [hl0]; rfl
      have hm0' := Int.emod_nonneg ti (show (40 : Int) ≠ 0 by decide)
      have hm1' := Int.emod_lt_of_pos ti (show (0 : Int) < 40 by decide)
      have hm2 : ti.tmod 40 = ti % 40 := Int.tmod_eq_emod_of_nonneg htb.1
      have hm5 : IntKind.i64.wrap (ti % 40) = ti % 40 := IntWalk.i64_in _ (by omega)
      rw [if_pos hl0] at HEN
      have hle0 : ((l.length : Int) == 0) = true := by rw [beq_iff_eq]; omega
      clear hle
      clear hl0
      go_upto_region 9 with (go_at_call 90; refine (turn12_any HI4.out i (by omega)).mono ?_; rintro e u9 ⟨rfl, rfl⟩; rw [HTI.out])
      clear hle0 hm2 hm5
      generalize ti % 40 = tn at *
      have htn : 0 ≤ tn ∧ tn ≤ 40 := by omega
      go_wp2_with fail
      go_loopw [9, 10, 44, 45, 46, 47, 48, 49, 50, 51, 52, 53, 54, 55, 56, 57, 58] (fun v9 v10 _ _ _ _ _ _ _ _ _ _ _ _ _ _ _ wr => ∃ k : Nat, k ≤ l.length ∧ v10 = .int .i64 (k : Nat) ∧ v9 = .int .i64 (tn + sumL ((wayOf b).truS (turnB x) j) (l.take k)) ∧ wr = u2) (fun v9 v10 _ _ _ _ _ _ _ _ _ _ _ _ _ _ _ _ => l.length - (intOf v10).toNat)
      case atStart => exact ⟨0, Nat.zero_le _, rfl, by simp [sumL], by first | rfl | trivial⟩
      case round =>
       obtain ⟨k, hk, rfl, rfl, rfl⟩ := hrel
       have hk0 : (0 : Int) ≤ (k : Int) := Int.natCast_nonneg _
       by_cases hkl : k < l.length
       · have hk1 : (k : Int) < ((l.length : Nat) : Int) := by omega
         have HTK := hide (take_snoc (l := l) hkl)
         obtain ⟨lb, lof, rfl, hlb, lx⟩ := HL4.out.at_ hkl
         rw [natInts_nth hkl] at lx
         have hq := HME.out (nth l k) (nth_mem hkl)
         have hsr := HSB.out (l.take k) (by rw [List.length_take]; omega) (fun q hq => HME.out q (List.mem_of_mem_take hq))
         have HSN := hide (show tn + sumL ((wayOf b).truS (turnB x) j) (l.take (k + 1)) = tn + sumL ((wayOf b).truS (turnB x) j) (l.take k) + ((wayOf b).truS (turnB x) j) (nth l k) by rw [HTK.out, sumL_snoc]; omega)
         generalize nth l k = q at *
         have hq0 : (0 : Int) ≤ (q : Int) := Int.natCast_nonneg _
         have hq1 : (q : Int) < (b.steps.length : Int) := by omega
         have rq := HR4.out.at_ q
         rw [rowV_at _ hq] at rq
         have hqb := HQB.out q hq
         have hzr := HR4.out.lt
         generalize sumL ((wayOf b).truS (turnB x) j) (l.take k) = sk at *
         generalize ((wayOf b).truS (turnB x) j) q = xq at *
         have hw1 : IntKind.i64.wrap (tn + sk + xq) = tn + sk + xq := IntWalk.i64_in _ (by omega)
         go_wp2_with fail
         go_roundw
         case rel => exact ⟨k + 1, by omega, by go_num, by rw [HSN.out], by first | rfl | trivial⟩
         case measure => simp [intOf]; omega
       · obtain rfl : k = l.length := by omega
         rw [List.take_length]
         have hsr := HSB.out l hl6 HME.out
         have fi := HR4.out.free i
         have ri := HR4.out.at_ i
         rw [rowV_at _ hi] at ri
         have hzr := HR4.out.lt
         have HST := hide (show Blk (wr.setCell ⟨g, i, none⟩ (.int .i64 (tn + sumL ((wayOf b).truS (turnB x) j) l))) g 3 (rowV b.steps.length (((wayOf b).truS (turnB x) (j + 1)))) from by
          have := HR4.out.store i (.int .i64 (tn + sumL ((wayOf b).truS (turnB x) j) l))
          rw [rowV_set] at this
          rw [HEN.out]; exact this)
         have HKT := hide (HK4.out.trans (Keep.setCell wr ⟨g, i, none⟩ (.int .i64 (tn + sumL ((wayOf b).truS (turnB x) j) l)) (fun k => k = g) rfl))
         have hij := HIJ.out
         generalize sumL ((wayOf b).truS (turnB x) j) l = sl at *
         have hw9 : IntKind.i64.wrap ((i : Int) - 1) = (i : Int) - 1 := IntWalk.i64_in _ (by omega)
         go_wp2_with fail
         go_roundw
         case rel => exact ⟨j + 1, by omega, by congr 1; omega, HST, HKT⟩
         case measure => simp only [intOf]; omega
    · have hle : ((l.length : Int) == 0) = false := by rw [beq_eq_false_iff_ne]; intro e; exact hl0 (List.length_eq_zero_iff.1 (by omega))
      rw [if_neg hl0] at HEN
      clear hl0
      go_upto_region 9 with fail
      clear hle
      generalize ti % (lo + 1) = tn at *
      have htn : 0 ≤ tn ∧ tn ≤ 40 := by omega
      go_wp2_with fail
      go_loopw [9, 10, 44, 45, 46, 47, 48, 49, 50, 51, 52, 53, 54, 55, 56, 57, 58] (fun v9 v10 _ _ _ _ _ _ _ _ _ _ _ _ _ _ _ wr => ∃ k : Nat, k ≤ l.length ∧ v10 = .int .i64 (k : Nat) ∧ v9 = .int .i64 (tn + sumL ((wayOf b).truS (turnB x) j) (l.take k)) ∧ wr = u2) (fun v9 v10 _ _ _ _ _ _ _ _ _ _ _ _ _ _ _ _ => l.length - (intOf v10).toNat)
      case atStart => exact ⟨0, Nat.zero_le _, rfl, by simp [sumL], by first | rfl | trivial⟩
      case round =>
       obtain ⟨k, hk, rfl, rfl, rfl⟩ := hrel
       have hk0 : (0 : Int) ≤ (k : Int) := Int.natCast_nonneg _
       by_cases hkl : k < l.length
       · have hk1 : (k : Int) < ((l.length : Nat) : Int) := by omega
         have HTK := hide (take_snoc (l := l) hkl)
         obtain ⟨lb, lof, rfl, hlb, lx⟩ := HL4.out.at_ hkl
         rw [natInts_nth hkl] at lx
         have hq := HME.out (nth l k) (nth_mem hkl)
         have hsr := HSB.out (l.take k) (by rw [List.length_take]; omega) (fun q hq => HME.out q (List.mem_of_mem_take hq))
         have HSN := hide (show tn + sumL ((wayOf b).truS (turnB x) j) (l.take (k + 1)) = tn + sumL ((wayOf b).truS (turnB x) j) (l.take k) + ((wayOf b).truS (turnB x) j) (nth l k) by rw [HTK.out, sumL_snoc]; omega)
         generalize nth l k = q at *
         have hq0 : (0 : Int) ≤ (q : Int) := Int.natCast_nonneg _
         have hq1 : (q : Int) < (b.steps.length : Int) := by omega
         have rq := HR4.out.at_ q
         rw [rowV_at _ hq] at rq
         have hqb := HQB.out q hq
         have hzr := HR4.out.lt
         generalize sumL ((wayOf b).truS (turnB x) j) (l.take k) = sk at *
         generalize ((wayOf b).truS (turnB x) j) q = xq at *
         have hw1 : IntKind.i64.wrap (tn + sk + xq) = tn + sk + xq := IntWalk.i64_in _ (by omega)
         go_wp2_with fail
         go_roundw
         case rel => exact ⟨k + 1, by omega, by go_num, by rw [HSN.out], by first | rfl | trivial⟩
         case measure => simp [intOf]; omega
       · obtain rfl : k = l.length := by omega
         rw [List.take_length]
         have hsr := HSB.out l hl6 HME.out
         have fi := HR4.out.free i
         have ri := HR4.out.at_ i
         rw [rowV_at _ hi] at ri
         have hzr := HR4.out.lt
         have HST := hide (show Blk (wr.setCell ⟨g, i, none⟩ (.int .i64 (tn + sumL ((wayOf b).truS (turnB x) j) l))) g 3 (rowV b.steps.length (((wayOf b).truS (turnB x) (j + 1)))) from by
          have := HR4.out.store i (.int .i64 (tn + sumL ((wayOf b).truS (turnB x) j) l))
          rw [rowV_set] at this
          rw [HEN.out]; exact this)
         have HKT := hide (HK4.out.trans (Keep.setCell wr ⟨g, i, none⟩ (.int .i64 (tn + sumL ((wayOf b).truS (turnB x) j) l)) (fun k => k = g) rfl))
         have hij := HIJ.out
         generalize sumL ((wayOf b).truS (turnB x) j) l = sl at *
         have hw9 : IntKind.i64.wrap ((i : Int) - 1) = (i : Int) - 1 := IntWalk.i64_in _ (by omega)
         go_wp2_with fail
         go_roundw
         case rel => exact ⟨j + 1, by omega, by congr 1; omega, HST, HKT⟩
         case measure => simp only [intOf]; omega
  · obtain rfl : j = b.steps.length := by omega
    have hm1 : (b.steps.length : Int) - 1 - (b.steps.length : Int) = -1 := by omega
    rw [hm1]
    have r0 := HR.out.at_ 0
    rw [rowV_at _ hpos] at r0
    have HE := hide (show truB b x 0 = ((wayOf b).truS (turnB x) b.steps.length) 0 from rfl)
    have HF := hide (rowV_ints HR.out (by unfold maxLen; omega))
    generalize ((wayOf b).truS (turnB x) b.steps.length) 0 = t0 at *
    go_upto_region 14 with fail
    go_quiet (fail)
    have hb := below_drewN (Below.refl u0.heap.size u0) nq
    have HF2 := hide (HF.out.next hb)
    have HBZ := hide (HBQ.out.trans (hb.mono HBQ.out.size))
    clear hb
    generalize u0.drewN nq = u9 at *
    go_wp2_with fail
    go_ret2
    exact ⟨g, by rw [HE.out]; rfl, HF2.out, HBZ.out⟩
end Go.Proofs.YtocdmkilnbpkdaaGreatDoor
/- What an argument reads as: a slice of bytes. -/
namespace Go.Proofs.YtocdmkilnbpkdaaGreatDoor
open Go.RowKit Go.WideShapes Go.ChangeShapes Go.Deep Go.Joins

theorem nth_beyond {α : Type} [Inhabited α] {l : List α} {i : Nat} (h : l.length ≤ i) : nth l i = default := by
 unfold nth; rw [List.getD_eq_getElem?_getD, List.getElem?_eq_none h]; rfl
section
variable {H : Type} {enc : TypeId × Value → H} {w : World} {spare : Nat → Bool} {held : Bool} {n : Nat}
theorem Tryz.cellsU8 : Tryz.prog.cellsOf 5 = 1 := by kernel_rfl
theorem u8_bd {a : Int} (h : (Lit.int .u8 a).wf = true) : 0 ≤ a ∧ a ≤ 255 := by
 simp [Lit.wf, IntKind.min, IntKind.max, IntKind.signed, IntKind.bits] at h; omega
theorem bytes_row {v : Value} {x : DataW H × List MemPlace} (h : DataW.trod enc Tryz.prog w 0 spare held n 53 [v] = some x) : ∃ A l cap, v = .slice A l.length cap ∧ BytesS w w.heap.size A cap l := by
 rcases open_slice Tryz.underlying53 h with ⟨hcs, _⟩ | ⟨a, len, cap, m, n', D, Pl, hcs, _, hl, hm, hmm, _, hi⟩
 · cases hcs; exact ⟨none, [], 0, rfl, ⟨Nat.le_refl _, by simp [maxLen], Row.nil_, fun i => by simp [nth]⟩⟩
 · cases hcs
   have hle : len ≤ m := by rw [hmm]; split <;> omega
   rw [Tryz.cellsU8] at hi
   obtain ⟨xs, hxl, hx⟩ := list_of (α := Int) (Q := fun i x => (∃ cs, w.cells? 0 (a.add (i * 1)) 1 = some cs ∧ cs[0]? = some (.int .u8 x)) ∧ (Lit.int .u8 x).wf = true) (len := len) (fun i hi' => by
    obtain ⟨cs, h1, h2⟩ := hi i (by omega)
    obtain ⟨k, e, _, hw⟩ := DataW.trod_int Tryz.underlying5 h2
    exact ⟨k, ⟨cs, h1, by rw [e]; rfl⟩, hw⟩)
   subst hxl
   refine ⟨some a, xs, cap, rfl, ⟨hl, hm, ?_, fun i => ?_⟩⟩
   · have := row_of (w := w) (a := a) (len := xs.length) (k := 1) (by omega) (f := bytesF xs) (fun i hi' => by
      obtain ⟨⟨cs, h1, h2⟩, _⟩ := hx i hi'
      refine ⟨cs, h1, fun j hj => ?_⟩
      obtain rfl : j = 0 := by omega
      rw [h2, Nat.mul_one, Nat.add_zero]; rfl)
     rwa [Nat.mul_one] at this
   · by_cases h : i < xs.length
     · exact u8_bd (hx i h).2
     · rw [nth_beyond (by omega)]; decide
set_option maxRecDepth 100000 in
theorem bytes_open {r : Go.Reach} {b0 : Nat} {v : Value} {d : DataW H} {p : List MemPlace} (hv : Value.okWide Tryz.prog w r b0 53 v) (h : DataW.Trod enc Tryz.prog w 0 spare held 53 v d p) : ∃ A l cap, v = .slice A l.length cap ∧ BytesS w w.heap.size A cap l := by
 obtain ⟨a, len, cap, rfl⟩ := okWide_slice Tryz.underlying53 hv
 obtain ⟨fuel, hf⟩ := h
 exact bytes_row hf
end
end Go.Proofs.YtocdmkilnbpkdaaGreatDoor
