/- Check of the reference. -/
import Derived.Test.YtocdmkilnbpkdaaGreatDoorZC
import Derived.Test.YtocdmkilnbpkdaaGreatDoorZD
import Derived.Test.YtocdmkilnbpkdaaGreatDoorXC
import Derived.OwnWalkIn
import Derived.TacticsInMore
import Derived.Deep.DeepCutAuto
set_option linter.unusedVariables false
set_option linter.unusedSimpArgs false
namespace Go.Proofs.YtocdmkilnbpkdaaGreatDoor
open Go.RowKit
attribute [local go_sem] Oper.semAt_some

theorem strs_own {w : World} {base n c : Nat} {A : Option Addr} {xs : List ByteArray} (h : w.ownsRow base 9 1 (.slice A n c) n (xs.map Value.string)) : Row w w.heap.size A n (strsF xs) := by
 have hl : xs.length = n := by have := h.1; simpa using this
 rcases h.2 with ⟨e, h0⟩ | ⟨g, cap, cur, e, hg, hh, h1, h2, h3, h4⟩
 · subst h0; exact fun hm => absurd hm (by omega)
 · simp only [Value.slice.injEq, true_and] at e
   obtain ⟨rfl, rfl⟩ := e
   refine fun hm => ⟨g, 0, rfl, (Array.getElem?_eq_some_iff.1 hh).1, fun j hj => ?_⟩
   have := h.cells (g := g) rfl j (.string (nth xs j)) (by simp [nth, hl, hj])
   have hadd : (⟨g, 0, none⟩ : Addr).add j = ⟨g, 0 + j, none⟩ := by unfold Addr.add; split <;> simp_all
   rw [hadd] at this
   exact this
theorem Tryz.infoString : (Tryz.prog.info? 9).map (fun i => (i.zero, i.size, i.bytes)) = some (some (.string ⟨#[]⟩), 1, 16) := by kernel_rfl
def namesTo (b : Book) (i : Nat) : List ByteArray := (b.steps.take i).map (·.name)
theorem namesTo_len {b : Book} {i : Nat} (h : i ≤ b.steps.length) : (namesTo b i).length = i := by simp [namesTo]; omega
theorem namesTo_succ {b : Book} {i : Nat} (h : i < b.steps.length) : namesTo b (i + 1) = namesTo b i ++ [(nth b.steps i).name] := by
 rw [namesTo, namesTo, List.take_succ_eq_append_getElem h, List.map_append, nth_eq h]; rfl
theorem namesTo_any {b : Book} {i : Nat} (v : ByteArray) (h : i ≤ b.steps.length) : ((namesTo b i).take i).any (eqS v) = (b.steps.take i).any (fun x => eqS x.name v) := by
 rw [List.take_of_length_le (by rw [namesTo_len h]; exact Nat.le_refl _), namesTo, List.any_map]
 congr 1
 funext x
 exact eqS_comm _ _
theorem inB_off (n lo hi : Int) : inB n lo hi = !offP lo hi n := by
 rw [inB, offP]
 by_cases h1 : lo ≤ n <;> by_cases h2 : n ≤ hi <;> simp [h1, h2] <;> omega
theorem failM_hit12 {α : Type} [Inhabited α] {f : Nat → α → Int} {l : List α} {least most : Int} {i : Nat} {e : Int} (hl : least ≤ (l.length : Int)) (hm : (l.length : Int) ≤ most) (hi : i < l.length) (hk : ∀ k, k < i → f k (nth l k) = 0) (he : f i (nth l i) = e) (hne : e ≠ 0) : failM f l least most = ((i : Int), e) := by
 rw [failM, if_neg (by omega)]
 have key : ∀ (l : List α) (s i : Nat), i < l.length → (∀ k, k < i → f (s + k) (nth l k) = 0) → f (s + i) (nth l i) = e → firstE f l s = (((s + i : Nat) : Int), e) := by
  intro l
  induction l with
  | nil => intro s i hi; exact absurd hi (Nat.not_lt_zero _)
  | cons x l ih =>
   intro s i hi hk he
   rw [firstE]
   cases i with
   | zero =>
    have he : f s x = e := by simpa [nth] using he
    rw [if_neg (by rw [he]; exact hne), he]; rfl
   | succ i =>
    have h0 : f s x = 0 := by have := hk 0 (by omega); simpa [nth] using this
    rw [if_pos h0, ih (s + 1) i (by simpa using hi) (fun k hkk => by have := hk (k + 1) (by omega); rw [show s + (k + 1) = s + 1 + k by omega] at this; simpa [nth] using this) (by rw [show s + (i + 1) = s + 1 + i by omega] at he; simpa [nth] using he)]
    congr 2; omega
 have := key l 0 i hi (fun k hkk => by rw [Nat.zero_add]; exact hk k hkk) (by rw [Nat.zero_add]; exact he)
 rw [Nat.zero_add] at this
 exact this
theorem failM_none12 {α : Type} [Inhabited α] {f : Nat → α → Int} {l : List α} {least most : Int} (hl : least ≤ (l.length : Int)) (hm : (l.length : Int) ≤ most) (hk : ∀ k, k < l.length → f k (nth l k) = 0) : failM f l least most = (0, 0) := by
 rw [failM, if_neg (by omega)]
 exact firstE_ok l 0 (fun j hj => by rw [Nat.zero_add]; exact hk j hj)
theorem stepE_of {b : Book} {i : Nat} {nm : ByteArray} {fr lo E0 : Int} (h : (if nameB nm then (if (b.steps.take i).any (fun x => eqS x.name nm) then 5 else 0) else 6) = E0) :
 stepE b i ⟨nm, fr, lo⟩ = if E0 ≠ 0 then E0 else if (if i = 0 then decide (fr ≠ -1) else offP 0 ((i : Int) - 1) fr) then 4 else if offP 0 20 lo then 7 else 0 := by
 subst h
 unfold stepE
 generalize (if i = 0 then decide (fr ≠ -1) else offP 0 ((i : Int) - 1) fr) = z
 dsimp only
 cases nameB nm <;> cases (b.steps.take i).any (fun x => eqS x.name nm) <;> simp
set_option maxHeartbeats 4000000 in
set_option maxRecDepth 100000 in
theorem check12_any {b : Book} {a : BA} {w : World} (h : BookV w w.heap.size b a) :
 Calls Tryz.prog 18 #[bookVal b a] w fun e w' => e = .returned (.tuple #[.int .i64 (checkM b).1, .int .i64 (checkM b).2.1, .int .i64 (checkM b).2.2]) ∧ Below w.heap.size w w' := by
 have HB0 : Hid (Below w.heap.size w (w.alloc (.cells (bookCells b a) 25))) := hide ((Below.refl _ _).alloc (Nat.le_refl _) _)
 have HBX := hide (BoxB.made h)
 have hm1 := h.m1
 have hm2 := h.m2
 unfold maxLen at hm1 hm2
 have HSM := hide h.small
 clear h
 obtain ⟨i0, hinf, hz0, hz1, hz2⟩ := info_parts Tryz.infoString
 go_enter Tryz.func18, Tryz.ntmps18
 go_upto_region 1 with (fail)
 generalize (w.alloc (.cells (bookCells b a) 25)) = w0 at *
 obtain ⟨hz, p0, p1⟩ := HBX.out.cells
 have HC := hide (show checkM b = if (failM (stepE b) b.steps 1 6).2 ≠ 0 then (1, failM (stepE b) b.steps 1 6) else if (failM (tallyE b) b.tallies 0 6).2 ≠ 0 then (2, failM (tallyE b) b.tallies 0 6) else (0, 0, 0) from rfl)
 generalize hCC : checkM b = C at *
 have HCC := hide hCC
 clear hCC
 have hs0 : (0 : Int) ≤ (b.steps.length : Int) := Int.natCast_nonneg _
 have ht0 : (0 : Int) ≤ (b.tallies.length : Int) := Int.natCast_nonneg _
 cases hin : inB b.steps.length 1 6 with
 | false =>
  have HX := hide (show C = (1, 0, 3) by
   have : ¬ ((1 : Int) ≤ b.steps.length ∧ (b.steps.length : Int) ≤ 6) := by simpa [inB] using hin
   have e : failM (stepE b) b.steps 1 6 = (0, 3) := by rw [failM, if_pos (by omega)]
   rw [HC.out, e]; exact if_pos (by decide))
  go_wp2_with (go_at_call 56; refine (in_any _ _ _ _).mono ?_; rintro e w' ⟨rfl, rfl⟩; rw [hin])
  go_ret3
  exact ⟨by rw [HCC.out, HX.out]; rfl, HB0.out⟩
 | true =>
  have hlen : (1 : Int) ≤ b.steps.length ∧ (b.steps.length : Int) ≤ 6 := by simpa [inB] using hin
  have HL := hide hlen
  go_wp2_with (go_at_call 56; refine (in_any _ _ _ _).mono ?_; rintro e w' ⟨rfl, rfl⟩; rw [hin])
  go_loopw [5, 6] (fun v5 v6 wr => ∃ i : Nat, i ≤ b.steps.length ∧ v6 = .int .i64 i ∧ wr.ownsRow w0.heap.size 9 1 v5 i ((namesTo b i).map Value.string) ∧ Hid (∀ k, k < i → stepE b k (nth b.steps k) = 0) ∧ Below w0.heap.size w0 wr) (fun _ v6 _ => b.steps.length - (intOf v6).toNat)
  case atStart => exact ⟨0, Nat.zero_le _, rfl, World.ownsRow_nil _ _ _ _, hide (fun k hk => by omega), Below.refl _ _⟩
  case round =>
   clear hin
   obtain ⟨i, hi, rfl, hown, HK, hB⟩ := hrel
   obtain ⟨An, cn, rfl, hown⟩ := own_ex hown
   have hi0 : (0 : Int) ≤ (i : Int) := Int.natCast_nonneg _
   have HBY := hide (HBX.out.next hB)
   clear hz p0 p1
   obtain ⟨hz, p0, p1⟩ := HBY.out.cells
   have hzr := hB.size
   have HB := hide hB
   clear hB
   by_cases hlt : i < b.steps.length
   · have hi1 : (i : Int) < (b.steps.length : Int) := by omega
     obtain ⟨bs, os, hA, hbs, y0, y1, y2⟩ := HBX.out.v.steps.steps hlt
     have y0 := (HB.out.cell (p := ⟨bs, os + i * 3, none⟩) hbs).trans y0
     have y1 := (HB.out.cell (p := ⟨bs, os + i * 3 + 1, none⟩) hbs).trans y1
     have y2 := (HB.out.cell (p := ⟨bs, os + i * 3 + 2, none⟩) hbs).trans y2
     rw [hA] at p0
     clear hA
     have hbr : bs < wr.heap.size := by omega
     have hns := HSM.out i hlt
     have HNS := hide (namesTo_succ hlt)
     have HNA := hide (namesTo_any (b := b) (nth b.steps i).name (Nat.le_of_lt hlt))
     have HNL := hide (namesTo_len (b := b) (Nat.le_of_lt hlt))
     generalize hvv : nth b.steps i = s at *
     have HVV := hide hvv
     clear hvv
     obtain ⟨nm, fr, lo⟩ := s
     dsimp only at *
     have hbx : Below wr.heap.size wr (wr.alloc (.cells #[.string nm, .int .i64 fr, .int .i64 lo] 68)) := (Below.refl _ _).alloc (Nat.le_refl _) _
     have q : Blk (wr.alloc (.cells #[.string nm, .int .i64 fr, .int .i64 lo] 68)) wr.heap.size 68 #[.string nm, .int .i64 fr, .int .i64 lo] := Blk.made
     have HO := hide (hown.alloc (.cells #[.string nm, .int .i64 fr, .int .i64 lo] 68))
     have HFR := hide (fresh7_any (c := cn) (xs := namesTo b i) ((strs_own hown).below hbx) (by rw [HNL.out]; exact Nat.le_refl _) (by omega) nm hns)
     rw [HNA.out] at HFR
     have HPE := hide (fun E0 h => stepE_of (b := b) (i := i) (nm := nm) (fr := fr) (lo := lo) (E0 := E0) h)
     generalize hE0 : (if nameB nm then (if (b.steps.take i).any (fun x => eqS x.name nm) then 5 else 0) else 6 : Int) = E0 at HFR
     have HPE := hide (HPE.out E0 hE0)
     have HOL := hide (fun k hk => (World.ownsRow.lt hown k hk).2)
     clear hE0 hown
     go_upto_region 8 with (fail)
     have HB := hide (HB.out.trans (hbx.mono HB.out.size))
     have HBY := hide (HBY.out.next hbx)
     clear hz p0 p1 y0 y1 y2 hbx
     generalize hx : wr.heap.size = gx at *
     generalize (wr.alloc (.cells #[.string nm, .int .i64 fr, .int .i64 lo] 68)) = wx at *
     have r0 := q.at_ 0
     have r1 := q.at_ 1
     have r2 := q.at_ 2
     simp only [List.getElem?_toArray, List.getElem?_cons_zero, List.getElem?_cons_succ] at r0 r1 r2
     have hzx := q.lt
     have hzs := HB.out.size
     go_upto_region 10 with (first
      | (go_at_call 65; refine HFR.out.mono ?_; rintro e w' ⟨rfl, rfl⟩)
      | (at_builtin
         refine wpList_append_own _ rfl _ _ 80 rfl w0.heap.size 9 i0 (.string ⟨#[]⟩) 1 16 Tryz.underlying80 hinf hz0 hz1 hz2 rfl (by decide) _ _ _ rfl (HO.out.alloc _) ⟨wx.heap.size, 0, none⟩ 1 1 [.string nm] rfl rfl ?c1 ?c2 ?c3 ?c4 ?c5 ?_
         case c1 => exact cell_one_new _ _ _
         case c2 => simp [Value.oneCell']
         case c3 => simp [maxLen]; omega
         case c4 => omega
         case c5 => simp; omega
         intro v' w1 hown' hg _
         have hb1 := app_below hzs HO.out hg
         have hq1 : ∀ o, w1.cell? ⟨gx, o, none⟩ = wx.cell? ⟨gx, o, none⟩ := fun o => (World.cell?_of_block (hg.block gx (by simp; omega) (fun e => by have := HOL.out gx e.symm; omega))).trans (((Below.refl wx.heap.size wx).alloc (Nat.le_refl _) _).cell (p := ⟨gx, o, none⟩) hzx)
         have hsz1 : wx.heap.size ≤ w1.heap.size := Nat.le_trans (by simp) hg.size
         clear hg))
     have HO1 := hide (show w1.ownsRow w0.heap.size 9 1 v' (i + 1) ((namesTo b (i + 1)).map Value.string) by rw [HNS.out, List.map_append]; exact hown')
     have r0 := (hq1 0).trans r0
     have r1 := (hq1 1).trans r1
     have r2 := (hq1 2).trans r2
     have hzx := Nat.lt_of_lt_of_le hzx (show wx.heap.size ≤ w1.heap.size from hsz1)
     have HB1 := hide (HB.out.trans hb1)
     clear hown' HO HFR HOL q hinf hz0 hz1 hz2 hb1 hq1 hsz1
     by_cases hE : E0 = 0
     · subst hE
       have HEZ := hide (show (if (0 : Int) ≠ 0 then (0 : Int) else if (if i = 0 then decide (fr ≠ -1) else offP 0 ((i : Int) - 1) fr) then 4 else if offP 0 20 lo then 7 else 0) = if (if i = 0 then decide (fr ≠ -1) else offP 0 ((i : Int) - 1) fr) then 4 else if offP 0 20 lo then 7 else 0 from rfl)
       by_cases hi' : i = 0
       · have hd1 : ((i : Int) == 0) = true := by simp [hi']
         have hd2 : decide ((i : Int) > 0) = false := by simp [hi']
         have hd3 : ¬ (i : Int) > 0 := by omega
         cases hfb : (fr != -1) with
         | true =>
          have hfi : decide (fr ≠ -1) = true := by simpa using hfb
          have HBD := hide (show (if i = 0 then decide (fr ≠ -1) else offP 0 ((i : Int) - 1) fr) = true by rw [if_pos hi']; exact hfi)
          clear hfi
          have HX := hide (show C = (1, (i : Int), 4) by rw [HC.out, failM_hit12 (f := stepE b) HL.out.1 HL.out.2 hlt HK.out (show stepE b i (nth b.steps i) = 4 by rw [HVV.out]; exact (by rw [HPE.out, HEZ.out, HBD.out]; rfl)) (by decide)]; exact if_pos (by simp))
          have HI := hide hi'
          clear hi'
          go_wp2_with (fail)
          go_ret3
          exact ⟨by rw [HCC.out, HX.out]; rfl, HB0.out.trans (HB1.out.mono HB0.out.size)⟩
         | false =>
          have hfi : decide (fr ≠ -1) = false := by simpa using hfb
          have HBD := hide (show (if i = 0 then decide (fr ≠ -1) else offP 0 ((i : Int) - 1) fr) = false by rw [if_pos hi']; exact hfi)
          clear hfi
          cases hlb : inB lo 0 20 with
          | false =>
           have HLB := hide (show offP 0 20 lo = true by have := inB_off lo 0 20; rw [hlb] at this; simpa using this.symm)
           have HX := hide (show C = (1, (i : Int), 7) by rw [HC.out, failM_hit12 (f := stepE b) HL.out.1 HL.out.2 hlt HK.out (show stepE b i (nth b.steps i) = 7 by rw [HVV.out]; exact (by rw [HPE.out, HEZ.out, HBD.out, HLB.out]; rfl)) (by decide)]; exact if_pos (by simp))
           have HI := hide hi'
           clear hi'
           go_wp2_with (go_at_call 56; refine (in_any _ _ _ _).mono ?_; rintro e w' ⟨rfl, rfl⟩; rw [hlb])
           go_ret3
           exact ⟨by rw [HCC.out, HX.out]; rfl, HB0.out.trans (HB1.out.mono HB0.out.size)⟩
          | true =>
           have HLB := hide (show offP 0 20 lo = false by have := inB_off lo 0 20; rw [hlb] at this; simpa using this.symm)
           have HNE := hide (show stepE b i ⟨nm, fr, lo⟩ = 0 by rw [HPE.out, HEZ.out, HBD.out, HLB.out]; rfl)
           have HI := hide hi'
           clear hi'
           go_wp2_with (go_at_call 56; refine (in_any _ _ _ _).mono ?_; rintro e w' ⟨rfl, rfl⟩; rw [hlb])
           go_roundw
           case rel => exact ⟨i + 1, by omega, by go_num, HO1.out, hide (fun k hk => by
            rcases Nat.lt_or_ge k i with h1 | h1
            · exact HK.out k h1
            · rw [show k = i by omega, HVV.out]; exact HNE.out), HB1.out⟩
           case measure => simp [intOf]; omega
       · have hd1 : ((i : Int) == 0) = false := by simp [hi']
         have hd2 : decide ((i : Int) > 0) = true := by simp; omega
         have hd3 : (i : Int) > 0 := by omega
         have hw1 : IntKind.i64.wrap ((i : Int) - 1) = (i : Int) - 1 := IntWalk.i64_in _ (by omega)
         cases hfb : (inB fr 0 ((i : Int) - 1)) with
         | true =>
          have hfo : offP 0 ((i : Int) - 1) fr = false := by have := inB_off fr 0 ((i : Int) - 1); rw [hfb] at this; simpa using this.symm
          have HBD := hide (show (if i = 0 then decide (fr ≠ -1) else offP 0 ((i : Int) - 1) fr) = false by rw [if_neg hi']; exact hfo)
          clear hfo
          cases hlb : inB lo 0 20 with
          | false =>
           have HLB := hide (show offP 0 20 lo = true by have := inB_off lo 0 20; rw [hlb] at this; simpa using this.symm)
           have HX := hide (show C = (1, (i : Int), 7) by rw [HC.out, failM_hit12 (f := stepE b) HL.out.1 HL.out.2 hlt HK.out (show stepE b i (nth b.steps i) = 7 by rw [HVV.out]; exact (by rw [HPE.out, HEZ.out, HBD.out, HLB.out]; rfl)) (by decide)]; exact if_pos (by simp))
           have HI := hide hi'
           clear hi'
           go_wp2_with (go_at_call 56; refine (in_any _ _ _ _).mono ?_; rintro e w' ⟨rfl, rfl⟩; first | rw [hfb] | rw [hlb])
           go_ret3
           exact ⟨by rw [HCC.out, HX.out]; rfl, HB0.out.trans (HB1.out.mono HB0.out.size)⟩
          | true =>
           have HLB := hide (show offP 0 20 lo = false by have := inB_off lo 0 20; rw [hlb] at this; simpa using this.symm)
           have HNE := hide (show stepE b i ⟨nm, fr, lo⟩ = 0 by rw [HPE.out, HEZ.out, HBD.out, HLB.out]; rfl)
           have HI := hide hi'
           clear hi'
           go_wp2_with (go_at_call 56; refine (in_any _ _ _ _).mono ?_; rintro e w' ⟨rfl, rfl⟩; first | rw [hfb] | rw [hlb])
           go_roundw
           case rel => exact ⟨i + 1, by omega, by go_num, HO1.out, hide (fun k hk => by
            rcases Nat.lt_or_ge k i with h1 | h1
            · exact HK.out k h1
            · rw [show k = i by omega, HVV.out]; exact HNE.out), HB1.out⟩
           case measure => simp [intOf]; omega
         | false =>
          have hfo : offP 0 ((i : Int) - 1) fr = true := by have := inB_off fr 0 ((i : Int) - 1); rw [hfb] at this; simpa using this.symm
          have HBD := hide (show (if i = 0 then decide (fr ≠ -1) else offP 0 ((i : Int) - 1) fr) = true by rw [if_neg hi']; exact hfo)
          clear hfo
          have HX := hide (show C = (1, (i : Int), 4) by rw [HC.out, failM_hit12 (f := stepE b) HL.out.1 HL.out.2 hlt HK.out (show stepE b i (nth b.steps i) = 4 by rw [HVV.out]; exact (by rw [HPE.out, HEZ.out, HBD.out]; rfl)) (by decide)]; exact if_pos (by simp))
          have HI := hide hi'
          clear hi'
          go_wp2_with (go_at_call 56; refine (in_any _ _ _ _).mono ?_; rintro e w' ⟨rfl, rfl⟩; rw [hfb])
          go_ret3
          exact ⟨by rw [HCC.out, HX.out]; rfl, HB0.out.trans (HB1.out.mono HB0.out.size)⟩
     · have hd1 : (E0 == 0) = false := by simp [hE]
       have hd2 : (E0 != 0) = true := by simp [hE]
       have hne : E0 ≠ 0 := hE
       have HX := hide (show C = (1, (i : Int), E0) by rw [HC.out, failM_hit12 (f := stepE b) HL.out.1 HL.out.2 hlt HK.out (show stepE b i (nth b.steps i) = E0 by rw [HVV.out]; exact (by rw [HPE.out, if_pos hne])) (by exact hne)]; exact if_pos (by exact hne))
       go_wp2_with (fail)
       go_ret3
       exact ⟨by rw [HCC.out, HX.out]; rfl, HB0.out.trans (HB1.out.mono HB0.out.size)⟩
   · obtain rfl : i = b.steps.length := by omega
     have hnot : ¬ (b.steps.length : Int) < (b.steps.length : Int) := by omega
     have HC1 := hide (show C = if (failM (tallyE b) b.tallies 0 6).2 ≠ 0 then (2, failM (tallyE b) b.tallies 0 6) else (0, 0, 0) by rw [HC.out, failM_none12 HL.out.1 HL.out.2 HK.out]; exact if_neg (by simp))
     clear HC HK
     have HBA := hide (HB0.out.trans (HB.out.mono HB0.out.size))
     by_cases htl : (6 : Int) < b.tallies.length
     · have HX := hide (show C = (2, 0, 3) by
        have e : failM (tallyE b) b.tallies 0 6 = (0, 3) := by rw [failM, if_pos (by omega)]
        rw [HC1.out, e]; exact if_pos (by decide))
       go_wp2_with (fail)
       go_ret3
       exact ⟨by rw [HCC.out, HX.out]; rfl, HBA.out⟩
     · have HT6 := hide (show (b.tallies.length : Int) ≤ 6 by omega)
       go_wp2_with (fail)
       obtain ⟨wa, rfl⟩ : ∃ wa : World, wa = wr := ⟨_, rfl⟩
       clear hz p0 p1
       go_loopw [9] (fun v9 wr => ∃ i : Nat, i ≤ b.tallies.length ∧ v9 = .int .i64 i ∧ Hid (∀ k, k < i → tallyE b k (nth b.tallies k) = 0) ∧ Below wa.heap.size wa wr) (fun v9 _ => b.tallies.length - (intOf v9).toNat)
       case atStart => exact ⟨0, Nat.zero_le _, rfl, hide (fun k hk => by omega), Below.refl _ _⟩
       case round =>
        clear hi0 hlt hi hnot
        obtain ⟨i, hi, rfl, HK, hB⟩ := hrel
        have hi0 : (0 : Int) ≤ (i : Int) := Int.natCast_nonneg _
        have HBZ := hide (HBY.out.next hB)
        obtain ⟨hz, p0, p1⟩ := HBZ.out.cells
        have hzr2 := hB.size
        have HB2 := hide hB
        clear hB
        by_cases hlt : i < b.tallies.length
        · have hi1 : (i : Int) < (b.tallies.length : Int) := by omega
          obtain ⟨bs, os, hA, hbs, y0, y1, y2⟩ := HBZ.out.v.tallies.tallies hlt
          rw [hA] at p1
          clear hA
          have HPE := hide (fun t => show tallyE b i t = if offP 0 ((b.steps.length : Int) - 1) t.step then 4 else if offP 0 99 t.hands || offP 0 9 t.off then 7 else 0 from rfl)
          generalize hvv : nth b.tallies i = s at *
          have HVV := hide hvv
          clear hvv
          obtain ⟨ts, th, tf⟩ := s
          have HPE := hide (HPE.out ⟨ts, th, tf⟩)
          dsimp only at *
          have hw1 : IntKind.i64.wrap ((b.steps.length : Int) - 1) = (b.steps.length : Int) - 1 := IntWalk.i64_in _ (by omega)
          have HF1 := hide (inB_off ts 0 ((b.steps.length : Int) - 1))
          have HF2 := hide (inB_off th 0 99)
          have HF3 := hide (inB_off tf 0 9)
          have hbx : Below wr.heap.size wr (wr.alloc (.cells #[.int .i64 ts, .int .i64 th, .int .i64 tf] 50)) := (Below.refl _ _).alloc (Nat.le_refl _) _
          have q : Blk (wr.alloc (.cells #[.int .i64 ts, .int .i64 th, .int .i64 tf] 50)) wr.heap.size 50 #[.int .i64 ts, .int .i64 th, .int .i64 tf] := Blk.made
          have p0 := (hbx.cell (p := ⟨w.heap.size, 0, none⟩) hz).trans p0
          go_upto_region 22 with (fail)
          have HB2 := hide (HB2.out.trans (hbx.mono HB2.out.size))
          have hzx := hbx.size
          clear y0 y1 y2 p1 hbx
          generalize hx : wr.heap.size = gx at *
          generalize (wr.alloc (.cells #[.int .i64 ts, .int .i64 th, .int .i64 tf] 50)) = wx at *
          have r0 := q.at_ 0
          have r1 := q.at_ 1
          have r2 := q.at_ 2
          simp only [List.getElem?_toArray, List.getElem?_cons_zero, List.getElem?_cons_succ] at r0 r1 r2
          have hzq := q.lt
          clear q
          cases h1 : inB ts 0 ((b.steps.length : Int) - 1) with
          | false =>
           have HO1 := hide (show offP 0 ((b.steps.length : Int) - 1) ts = true by have := HF1.out; rw [h1] at this; simpa using this.symm)
           have HX := hide (show C = (2, (i : Int), 4) by rw [HC1.out, failM_hit12 (f := tallyE b) (Int.natCast_nonneg _) HT6.out hlt HK.out (show tallyE b i (nth b.tallies i) = 4 by rw [HVV.out]; exact (by rw [HPE.out, HO1.out]; rfl)) (by decide)]; exact if_pos (by simp))
           go_wp2_with (go_at_call 56; refine (in_any _ _ _ _).mono ?_; rintro e w' ⟨rfl, rfl⟩; rw [h1])
           go_ret3
           exact ⟨by rw [HCC.out, HX.out]; rfl, HBA.out.trans (HB2.out.mono HBA.out.size)⟩
          | true =>
           have HO1 := hide (show offP 0 ((b.steps.length : Int) - 1) ts = false by have := HF1.out; rw [h1] at this; simpa using this.symm)
           cases h2 : inB th 0 99 with
           | false =>
            have HO2 := hide (show offP 0 99 th = true by have := HF2.out; rw [h2] at this; simpa using this.symm)
            have HX := hide (show C = (2, (i : Int), 7) by rw [HC1.out, failM_hit12 (f := tallyE b) (Int.natCast_nonneg _) HT6.out hlt HK.out (show tallyE b i (nth b.tallies i) = 7 by rw [HVV.out]; exact (by rw [HPE.out, HO1.out, HO2.out]; rfl)) (by decide)]; exact if_pos (by simp))
            go_wp2_with (go_at_call 56; refine (in_any _ _ _ _).mono ?_; rintro e w' ⟨rfl, rfl⟩; first | rw [h1] | rw [h2])
            go_ret3
            exact ⟨by rw [HCC.out, HX.out]; rfl, HBA.out.trans (HB2.out.mono HBA.out.size)⟩
           | true =>
            have HO2 := hide (show offP 0 99 th = false by have := HF2.out; rw [h2] at this; simpa using this.symm)
            cases h3 : inB tf 0 9 with
            | false =>
             have HO3 := hide (show offP 0 9 tf = true by have := HF3.out; rw [h3] at this; simpa using this.symm)
             have HX := hide (show C = (2, (i : Int), 7) by rw [HC1.out, failM_hit12 (f := tallyE b) (Int.natCast_nonneg _) HT6.out hlt HK.out (show tallyE b i (nth b.tallies i) = 7 by rw [HVV.out]; exact (by rw [HPE.out, HO1.out, HO2.out, HO3.out]; rfl)) (by decide)]; exact if_pos (by simp))
             go_wp2_with (go_at_call 56; refine (in_any _ _ _ _).mono ?_; rintro e w' ⟨rfl, rfl⟩; first | rw [h1] | rw [h2] | rw [h3])
             go_ret3
             exact ⟨by rw [HCC.out, HX.out]; rfl, HBA.out.trans (HB2.out.mono HBA.out.size)⟩
            | true =>
             have HO3 := hide (show offP 0 9 tf = false by have := HF3.out; rw [h3] at this; simpa using this.symm)
             have HNE := hide (show tallyE b i ⟨ts, th, tf⟩ = 0 by rw [HPE.out, HO1.out, HO2.out, HO3.out]; rfl)
             go_wp2_with (go_at_call 56; refine (in_any _ _ _ _).mono ?_; rintro e w' ⟨rfl, rfl⟩; first | rw [h1] | rw [h2] | rw [h3])
             go_roundw
             case rel => exact ⟨i + 1, by omega, by go_num, hide (fun k hk => by
              rcases Nat.lt_or_ge k i with h1 | h1
              · exact HK.out k h1
              · rw [show k = i by omega, HVV.out]; exact HNE.out), HB2.out⟩
             case measure => simp [intOf]; omega
        · obtain rfl : i = b.tallies.length := by omega
          have hnot : ¬ (b.tallies.length : Int) < (b.tallies.length : Int) := by omega
          have HX := hide (show C = (0, 0, 0) by rw [HC1.out, failM_none12 (Int.natCast_nonneg _) HT6.out HK.out]; exact if_neg (by simp))
          go_wp2_with (fail)
          go_ret3
          exact ⟨by rw [HCC.out, HX.out]; rfl, HBA.out.trans (HB2.out.mono HBA.out.size)⟩
end Go.Proofs.YtocdmkilnbpkdaaGreatDoor
