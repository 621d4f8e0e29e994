/- LedgerSum. -/
import Derived.Test.YtocdmkilnbpkdaaGreatDoorQG
import Derived.OwnWalkIn
import Derived.OwnWalk
import Derived.Laws.AppendOwn
import Derived.Laws.StructEq
import Derived.TacticsInMore
import Derived.Deep.DeepCutAuto
set_option linter.unusedVariables false
set_option linter.unusedSimpArgs false
namespace Go.Proofs.YtocdmkilnbpkdaaGreatDoor
open Go.RowKit
attribute [local go_sem] Oper.semAt_some

structure SumF (b : Book) (n : Nat) (l : List Nat) (d : Nat → Span) (p : Span) (lo : Int) : Prop where
 ne : (d n).lo ≤ (d n).hi ∧ p.lo ≤ p.hi ∧ 0 ≤ p.lo ∧ p.hi ≤ lo ∧ lo ≤ 20
 bd : 0 ≤ (d n).lo ∧ (d n).hi ≤ 99
 kid : ∀ k, k ∈ l → k < b.steps.length ∧ (d k).hi ≤ (d n).hi ∧ 0 ≤ (d k).lo ∧ (d k).lo ≤ (d k).hi ∧ (d k).hi ≤ 99
 len : l.length ≤ 6
 none : l = [] → p = ⟨0, 0⟩
 all : l ≠ [] → sLo d l ≤ (d n).lo ∧ (d n).hi ≤ sHi d l + lo ∧ (d n).lo - sHi d l ≤ p.lo ∧ p.hi ≤ (d n).hi - sLo d l
theorem sum_facts {b : Book} (h : someV b = true) {n : Nat} (hn : n < b.steps.length) : SumF b n (behindB b n) (handsB b fun _ => false) (lostB b n) (nth b.steps n).loss := by
 obtain ⟨hg, hs⟩ := some_good h
 have hw := hg.way
 have hne := u_ne hw hs
 have hc := cB_99 b (fun _ => false)
 have ht := d_tame hw hc hne
 have hl := lost_facts h hn
 have hlo := hg.loss n hn
 have hk := behind_kids hg n
 have hcl := d_closed hw hne n hn
 refine ⟨⟨(ht n hn).2.1, hl.2.1, hl.1, hl.2.2, hlo.2⟩, ⟨(ht n hn).1, (ht n hn).2.2⟩, fun k hkk => ?_, ?_, fun e => ?_, fun e => ?_⟩
 · rw [hk] at hkk
   have g := kid_gt hw hkk
   have h1 := (hcl (List.ne_nil_of_mem hkk)).2 k hkk
   have h2 := sumL_less (f := fun _ => 0) (g := fun k => ((wayOf b).d (cB b fun _ => false) k).lo) hkk fun x hx => (ht x (kid_gt hw hx).2).1
   have z : ∀ l : List Nat, sumL (fun _ => 0) l = 0 := fun l => by
    induction l with
    | nil => rfl
    | cons x l ih => simp [sumL, ih]
   rw [z] at h2
   have h3 := ht k g.2
   unfold sLo at h1
   unfold handsB
   exact ⟨g.2, by omega, h3.1, h3.2.1, h3.2.2⟩
 · rw [hk]; exact kids_len hw n
 · rw [hk] at e
   rw [lostB, Way.lost, if_pos e]
 · rw [hk] at e ⊢
   have h1 := (hcl e).1
   have h2 := lost_eq hw hc hne (h := (wayOf b).d (cB b fun _ => false)) (fun _ _ => rfl) hn
   have h3 := sum_tame ht (fun x hx => (kid_gt hw hx).2) (kids_len hw n)
   have h4 := ht n hn
   rw [Way.lostW, if_neg e, outW_tame hw ht] at h2
   rw [lostB, ← h2, show (handsB b fun _ => false) = (wayOf b).d (cB b fun _ => false) from rfl]
   unfold lessW both
   simp only
   rw [wrap_id (by omega), wrap_id (by omega)]
   refine ⟨h1.1, ?_, by omega, by omega⟩
   have h5 := h1.2
   show _ ≤ _ + (wayOf b).loss n
   exact h5
theorem sLo_snoc (d : Nat → Span) (l : List Nat) (k : Nat) : sLo d (l ++ [k]) = sLo d l + (d k).lo := by
 unfold sLo
 induction l with
 | nil => simp [sumL]
 | cons x l ih => rw [List.cons_append, sumL, sumL, ih]; omega
theorem sHi_snoc (d : Nat → Span) (l : List Nat) (k : Nat) : sHi d (l ++ [k]) = sHi d l + (d k).hi := by
 unfold sHi
 induction l with
 | nil => simp [sumL]
 | cons x l ih => rw [List.cons_append, sumL, sumL, ih]; omega
theorem sLo_bd {d : Nat → Span} {l : List Nat} (h : ∀ k, k ∈ l → 0 ≤ (d k).lo ∧ (d k).lo ≤ (d k).hi ∧ (d k).hi ≤ 99) (hl : l.length ≤ 6) : (0 ≤ sLo d l ∧ sLo d l ≤ 594) ∧ 0 ≤ sHi d l ∧ sHi d l ≤ 594 := by
 have h1 := sumL_bd (f := fun k => (d k).lo) (a := 0) (b := 99) (l := l) fun k hk => by have := h k hk; omega
 have h2 := sumL_bd (f := fun k => (d k).hi) (a := 0) (b := 99) (l := l) fun k hk => by have := h k hk; omega
 unfold sLo sHi
 omega
theorem sBd_take {d : Nat → Span} {l : List Nat} (h : ∀ k, k ∈ l → 0 ≤ (d k).lo ∧ (d k).lo ≤ (d k).hi ∧ (d k).hi ≤ 99) (hl : l.length ≤ 6) (j : Nat) : (0 ≤ sLo d (l.take j) ∧ sLo d (l.take j) ≤ 594) ∧ 0 ≤ sHi d (l.take j) ∧ sHi d (l.take j) ≤ 594 :=
 sLo_bd (fun k hk => h k (List.mem_of_mem_take hk)) (by rw [List.length_take]; omega)
attribute [local go_sem] span_equal10
set_option maxHeartbeats 8000000 in
set_option maxRecDepth 100000 in
theorem ledgerSum_any {m : Int} {b : Book} {a : BA} {w : World} (hm : w.cell? ⟨0, 0, none⟩ = some (.int .i64 m)) (hw0 : 0 < w.heap.size) (h : BookV w w.heap.size b a) {x : Int} (hx : 0 ≤ x ∧ x ≤ 255) :
 Calls Tryz.prog 12 #[bookVal b a, .int .u8 x] w fun e w' => e = .returned (.bool true) ∧ Below w.heap.size w w' := by
 have hb0 : Below w.heap.size w (w.alloc (.cells (bookCells b a) 25)) := (Below.refl _ _).alloc (Nat.le_refl _) _
 have HX := hide (BoxB.made h)
 have HG := hide ((hb0.cell (p := ⟨0, 0, none⟩) hw0).trans hm)
 have HB := hide hb0
 have hz0 := Nat.lt_of_lt_of_le hw0 hb0.size
 clear h hm hb0 hw0
 go_enter Tryz.func12, Tryz.ntmps12
 go_upto_region 1 with (fail)
 generalize w.alloc (.cells (bookCells b a) 25) = w0 at *
 cases hv : someV b with
 | false =>
  have hk : enterK b 0 ≠ 0 := by rw [someV_enter] at hv; exact of_decide_eq_false hv
  have HO := hide (show okS b 0 (handsB b (fun _ => false) (0 : Int).toNat) = ⟨0, 0⟩ by rw [okS, if_neg hk])
  have HV := hide hv
  generalize hE : enterK b 0 = E at *
  have HE := hide hE
  have hd : (E != 0) = true := by simp [hk]
  clear hk hv hE
  obtain ⟨gx, x0, x1⟩ := HX.out.cells
  go_upto_region 2 with (go_at_call 47; refine (some12L_any HX.out.v).mono ?_; rintro e y1 ⟨rfl, hb⟩; rw [HV.out])
  clear gx x0 x1
  replace HG := hide ((hb.cell (p := ⟨0, 0, none⟩) hz0).trans HG.out)
  replace HB := hide (HB.out.trans (hb.mono HB.out.size))
  replace HX := hide (HX.out.next hb)
  replace hz0 := Nat.lt_of_lt_of_le hz0 hb.size
  clear hb
  obtain ⟨gx, x0, x1⟩ := HX.out.cells
  go_upto_region 3 with (go_at_call 19; refine (hands_any (s := 0) HX.out.v).mono ?_; rintro e y2 ⟨rfl, hb⟩; rw [HO.out, HE.out])
  clear gx x0 x1
  replace HG := hide ((hb.cell (p := ⟨0, 0, none⟩) hz0).trans HG.out)
  replace HB := hide (HB.out.trans (hb.mono HB.out.size))
  replace HX := hide (HX.out.next hb)
  replace hz0 := Nat.lt_of_lt_of_le hz0 hb.size
  clear hb
  have hb : Below y2.heap.size y2 (y2.alloc (.cells #[.int .i64 0, .int .i64 0] 30)) := (Below.refl _ _).alloc (Nat.le_refl _) _
  have SP := hide (show Blk (y2.alloc (.cells #[.int .i64 0, .int .i64 0] 30)) y2.heap.size 30 #[.int .i64 0, .int .i64 0] from Blk.made)
  replace HG := hide ((hb.cell (p := ⟨0, 0, none⟩) hz0).trans HG.out)
  replace HB := hide (HB.out.trans (hb.mono HB.out.size))
  replace HX := hide (HX.out.next hb)
  replace hz0 := Nat.lt_of_lt_of_le hz0 hb.size
  clear hb
  generalize y2.alloc (.cells #[.int .i64 0, .int .i64 0] 30) = y3 at *
  generalize y2.heap.size = ggcs at *
  clear HE HO
  obtain ⟨gx, x0, x1⟩ := HX.out.cells
  have gcs := SP.out.lt
  have cs0 := SP.out.at_ 0
  have cs1 := SP.out.at_ 1
  simp only [List.getElem?_toArray, List.getElem?_cons_zero, List.getElem?_cons_succ] at cs0 cs1
  go_wp2_with (first | (go_at_call 23; refine (awake12_any HG.out hz0).mono ?_; rintro e y4 ⟨rfl, hb⟩))
  go_ret
  exact ⟨rfl, HB.out.trans (hb.mono HB.out.size)⟩
 | true =>
  have hpos := (some_good hv).1.pos
  have h6 := (some_good hv).1.six
  have HV := hide hv
  obtain ⟨n, hn, hxn⟩ : ∃ n : Nat, n < b.steps.length ∧ x.tmod (b.steps.length : Int) = (n : Int) := by
   refine ⟨(x % (b.steps.length : Int)).toNat, ?_, ?_⟩
   · have h1 := Int.emod_lt_of_pos x (show (0 : Int) < (b.steps.length : Int) by omega)
     have h2 := Int.emod_nonneg x (show (b.steps.length : Int) ≠ 0 by omega)
     omega
   · rw [Int.tmod_eq_emod_of_nonneg hx.1]
     have h2 := Int.emod_nonneg x (show (b.steps.length : Int) ≠ 0 by omega)
     omega
  have hn0 : (b.steps.length : Int) ≠ 0 := by omega
  have hnz : ((b.steps.length : Int) == 0) = false := by simpa using hn0
  have hxw : IntKind.i64.wrap x = x := IntWalk.i64_in _ (by omega)
  clear hv
  obtain ⟨gx, x0, x1⟩ := HX.out.cells
  go_upto_region 4 with (go_at_call 47; refine (some12L_any HX.out.v).mono ?_; rintro e y1 ⟨rfl, hb⟩; rw [HV.out])
  clear gx x0 x1
  replace HG := hide ((hb.cell (p := ⟨0, 0, none⟩) hz0).trans HG.out)
  replace HB := hide (HB.out.trans (hb.mono HB.out.size))
  replace HX := hide (HX.out.next hb)
  replace hz0 := Nat.lt_of_lt_of_le hz0 hb.size
  clear hb
  obtain ⟨gx, x0, x1⟩ := HX.out.cells
  go_upto_region 5 with fail
  have HF := hide (sum_facts HV.out hn)
  have HO := hide (show okS b (n : Int) (handsB b (fun _ => false) (n : Int).toNat) = handsB b (fun _ => false) n by rw [okS, if_pos (enter_at HV.out hn)]; rfl)
  have HLO := hide (show okS b (n : Int) (lostB b (n : Int).toNat) = lostB b n by rw [okS, if_pos (enter_at HV.out hn)]; rfl)
  have HEN := hide (enter_at HV.out hn)
  have HOQ := hide (fun (q : Nat) (hq : q < b.steps.length) => show okS b (q : Int) (handsB b (fun _ => false) (q : Int).toNat) = handsB b (fun _ => false) q by rw [okS, if_pos (enter_at HV.out hq)]; rfl)
  have hlo0 := (some_good HV.out).1.loss n hn
  generalize hdd : handsB b (fun _ => false) = d at HF HO HOQ
  have HDD := hide hdd
  clear hdd
  generalize lostB b n = p at HF HLO
  obtain ⟨p1, p2⟩ := p
  obtain ⟨s1, s2, hds⟩ : ∃ s1 s2, d n = ⟨s1, s2⟩ := ⟨_, _, rfl⟩
  rw [hds] at HO
  have hne := HF.out.ne
  have hbd := HF.out.bd
  have hkd := HF.out.kid
  have hal := HF.out.all
  have hnn := HF.out.none
  have hl6 := HF.out.len
  rw [hds] at hne hbd hal hkd
  simp only at hne hbd hal hkd
  have HAL := hide hal
  have HNN := hide hnn
  have HKD := hide hkd
  clear hal hnn hkd hds HF
  go_upto_region 6 with (go_at_call 19; refine (hands_any (s := (n : Int)) HX.out.v).mono ?_; rintro e y2 ⟨rfl, hb⟩; rw [HDD.out, HO.out, HEN.out])
  clear gx x0 x1
  replace HG := hide ((hb.cell (p := ⟨0, 0, none⟩) hz0).trans HG.out)
  replace HB := hide (HB.out.trans (hb.mono HB.out.size))
  replace HX := hide (HX.out.next hb)
  replace hz0 := Nat.lt_of_lt_of_le hz0 hb.size
  clear hb
  have hb : Below y2.heap.size y2 (y2.alloc (.cells #[.int .i64 s1, .int .i64 s2] 30)) := (Below.refl _ _).alloc (Nat.le_refl _) _
  have SS := hide (show Blk (y2.alloc (.cells #[.int .i64 s1, .int .i64 s2] 30)) y2.heap.size 30 #[.int .i64 s1, .int .i64 s2] from Blk.made)
  replace HG := hide ((hb.cell (p := ⟨0, 0, none⟩) hz0).trans HG.out)
  replace HB := hide (HB.out.trans (hb.mono HB.out.size))
  replace HX := hide (HX.out.next hb)
  replace hz0 := Nat.lt_of_lt_of_le hz0 hb.size
  clear hb
  generalize y2.alloc (.cells #[.int .i64 s1, .int .i64 s2] 30) = y3 at *
  generalize y2.heap.size = ggcs at *
  obtain ⟨gx, x0, x1⟩ := HX.out.cells
  go_upto_region 7 with (go_at_call 21; refine (losts_any (s := (n : Int)) HX.out.v).mono ?_; rintro e y4 ⟨rfl, hb⟩; rw [HLO.out, HEN.out])
  clear gx x0 x1
  replace HG := hide ((hb.cell (p := ⟨0, 0, none⟩) hz0).trans HG.out)
  replace HB := hide (HB.out.trans (hb.mono HB.out.size))
  replace HX := hide (HX.out.next hb)
  replace SS := hide (SS.out.next hb)
  replace hz0 := Nat.lt_of_lt_of_le hz0 hb.size
  clear hb
  have hb : Below y4.heap.size y4 (y4.alloc (.cells #[.int .i64 p1, .int .i64 p2] 30)) := (Below.refl _ _).alloc (Nat.le_refl _) _
  have SP := hide (show Blk (y4.alloc (.cells #[.int .i64 p1, .int .i64 p2] 30)) y4.heap.size 30 #[.int .i64 p1, .int .i64 p2] from Blk.made)
  replace HG := hide ((hb.cell (p := ⟨0, 0, none⟩) hz0).trans HG.out)
  replace HB := hide (HB.out.trans (hb.mono HB.out.size))
  replace HX := hide (HX.out.next hb)
  replace SS := hide (SS.out.next hb)
  replace hz0 := Nat.lt_of_lt_of_le hz0 hb.size
  clear hb
  generalize y4.alloc (.cells #[.int .i64 p1, .int .i64 p2] 30) = y5 at *
  generalize y4.heap.size = ggcp at *
  obtain ⟨gx, x0, x1⟩ := HX.out.cells
  have gcs := SS.out.lt
  have cs0 := SS.out.at_ 0
  have cs1 := SS.out.at_ 1
  simp only [List.getElem?_toArray, List.getElem?_cons_zero, List.getElem?_cons_succ] at cs0 cs1
  have gcp := SP.out.lt
  have cp0 := SP.out.at_ 0
  have cp1 := SP.out.at_ 1
  simp only [List.getElem?_toArray, List.getElem?_cons_zero, List.getElem?_cons_succ] at cp0 cp1
  obtain ⟨g1, o1, hA1, hg1, q0, q1, q2⟩ := HX.out.v.steps.steps hn
  rw [hA1] at x0
  clear hA1 q0 q1
  generalize hlo : (nth b.steps n).loss = lo at *
  have HLS := hide hlo
  clear hlo
  have hin1 : inB p1 0 lo = true := by simp [inB]; omega
  have hin2 : inB p2 0 lo = true := by simp [inB]; omega
  have hc1 : s1 ≤ s2 := hne.1
  have hc2 : p1 ≤ p2 := hne.2.1
  have hnn0 : (0 : Int) ≤ (n : Int) := Int.natCast_nonneg _
  have hnn1 : (n : Int) < (b.steps.length : Int) := by omega
  go_quiet (first | (go_at_call 56; first | with_reducible exact Calls.quiet_of_same ((in_any p1 0 lo _).mono (fun _ _ h => ⟨by rw [h.1, hin1], h.2.symm⟩)) | with_reducible exact Calls.quiet_of_same ((in_any p2 0 lo _).mono (fun _ _ h => ⟨by rw [h.1, hin2], h.2.symm⟩))))
  clear gx x0 x1 gcs cs0 cs1 gcp cp0 cp1
  have hb := below_drewN (Below.refl y5.heap.size y5) nq
  replace HG := hide ((hb.cell (p := ⟨0, 0, none⟩) hz0).trans HG.out)
  replace HB := hide (HB.out.trans (hb.mono HB.out.size))
  replace HX := hide (HX.out.next hb)
  replace SS := hide (SS.out.next hb)
  replace SP := hide (SP.out.next hb)
  replace hz0 := Nat.lt_of_lt_of_le hz0 hb.size
  clear hb
  generalize y5.drewN nq = y6 at *
  clear q2 hin1 hin2
  obtain ⟨gx, x0, x1⟩ := HX.out.cells
  have gcs := SS.out.lt
  have cs0 := SS.out.at_ 0
  have cs1 := SS.out.at_ 1
  simp only [List.getElem?_toArray, List.getElem?_cons_zero, List.getElem?_cons_succ] at cs0 cs1
  have gcp := SP.out.lt
  have cp0 := SP.out.at_ 0
  have cp1 := SP.out.at_ 1
  simp only [List.getElem?_toArray, List.getElem?_cons_zero, List.getElem?_cons_succ] at cp0 cp1
  go_upto_region 10 with (go_at_call 44; refine (behind12_any HX.out.v h6 n).mono ?_; rintro e y7 ⟨lA, lc, rfl, hl, _, hb⟩; have HL := hide hl; clear hl)
  clear gx x0 x1 gcs cs0 cs1 gcp cp0 cp1
  replace HG := hide ((hb.cell (p := ⟨0, 0, none⟩) hz0).trans HG.out)
  replace HB := hide (HB.out.trans (hb.mono HB.out.size))
  replace HX := hide (HX.out.next hb)
  replace SS := hide (SS.out.next hb)
  replace SP := hide (SP.out.next hb)
  replace hz0 := Nat.lt_of_lt_of_le hz0 hb.size
  clear hb
  generalize hLL : behindB b n = l at *
  have HLL := hide hLL
  clear hLL
  by_cases hl0 : l = []
  · subst hl0
    obtain ⟨rfl, rfl⟩ : p1 = 0 ∧ p2 = 0 := by have := HNN.out rfl; simpa using this
    have hgt : Tryz.prog.eqGuardType Tryz.prog.depth 30 = false := by kernel_rfl
    obtain ⟨gx, x0, x1⟩ := HX.out.cells
    have gcs := SS.out.lt
    have cs0 := SS.out.at_ 0
    have cs1 := SS.out.at_ 1
    simp only [List.getElem?_toArray, List.getElem?_cons_zero, List.getElem?_cons_succ] at cs0 cs1
    have gcp := SP.out.lt
    have cp0 := SP.out.at_ 0
    have cp1 := SP.out.at_ 1
    simp only [List.getElem?_toArray, List.getElem?_cons_zero, List.getElem?_cons_succ] at cp0 cp1
    go_upto_region 11 with fail
    refine wp_post (fun a W => a.tmps[4]?.getD undef = .bool true ∧ a.defers = [] ∧ Keep (fun _ => False) y7 W) ?reg ?imp
    case reg =>
     refine wp_region_rel3 (dst := fun oi => [98, 99, 100, 101, 102, 103, 4].getD oi 0) (mono := fun oi => decide (oi < 7)) (pre := fun oi => decide (oi < 7)) (R := LKeep (fun _ => False) (fun _ => True))
      (Pv := fun oi v W => match oi with
       | 0 => v = .agg #[.int .i64 0, .int .i64 0]
       | 1 => v = .agg #[.int .i64 0, .int .i64 0]
       | 2 => v = .bool true
       | 3 => v = .bool true
       | 4 => v = .bool true
       | 5 => v = .bool true
       | 6 => v = .bool true
       | _ => True) (by kernel_rfl) (by kernel_rfl) (LKeep.refl _ _) (fun _ _ _ h h' => h.trans h') ?hst ?hstep ?hend
     case hst =>
      intro oi v W W' h hk
      match oi, h with
      | 0, h => exact h
      | 1, h => exact h
      | 2, h => exact h
      | 3, h => exact h
      | 4, h => exact h
      | 5, h => exact h
      | 6, h => exact h
      | oi + 7, h => exact trivial
     case hstep =>
      intro oi hoi hom listed vs ao W hU hk0 hpv haft Ko hK
      have hkk := (LKeep.drew (fun _ => False) (M := fun _ => True) y7 (fun h => h)).trans hk0
      have hk := hkk.1
      have hkm := hkk.2
      clear hkk
      match oi, hoi, hom with
      | 0, hoi, hom =>
       have z10 : ao.tmps[10]?.getD undef = .pointer (some ⟨ggcp, 0, none⟩) := hU.same 10 (by decide)
       have y0 := (hk.cell (b := ggcp) (o := 0) (gcp) (fun h => h)).trans (cp0)
       have y1 := (hk.cell (b := ggcp) (o := 1) (gcp) (fun h => h)).trans (cp1)
       refine wpOp_value (v := .agg #[.int .i64 0, .int .i64 0]) (W' := W) rfl rfl ?_ (hK _ _ (LKeep.refl _ _ _) rfl)
       go_simp
      | 1, hoi, hom =>
       refine wpOp_enter (f := 40) (args := #[.int .i64 0, .int .i64 0]) (W' := W) rfl rfl ?_ ((span12_any 0 0 W).mono (fun e w'' h => ?_))
       · go_simp
       · obtain ⟨he, hbw⟩ := h
         exact ⟨_, he, hK _ _ (LKeep.below hbw (fun h => h)) rfl⟩
      | 2, hoi, hom =>
       have l0 := haft _ rfl ⟨0, .data⟩ (by simp) rfl
       have s0 : ao.tmps[98]?.getD undef = .agg #[.int .i64 0, .int .i64 0] := (hU.slot 0 (by decide) l0).trans (hpv 0 l0)
       have l1 := haft _ rfl ⟨1, .data⟩ (by simp) rfl
       have s1 : ao.tmps[99]?.getD undef = .agg #[.int .i64 0, .int .i64 0] := (hU.slot 1 (by decide) l1).trans (hpv 1 l1)
       refine wpOp_value (v := .bool true) (W' := W) rfl rfl ?_ (hK _ _ (LKeep.refl _ _ _) rfl)
       go_simp
       all_goals rfl
      | 3, hoi, hom =>
       have l2 := haft _ rfl ⟨2, .data⟩ (by simp) rfl
       have s2 : ao.tmps[100]?.getD undef = .bool true := (hU.slot 2 (by decide) l2).trans (hpv 2 l2)
       refine wpOp_value (v := .bool true) (W' := W) rfl rfl ?_ (hK _ _ (LKeep.refl _ _ _) rfl)
       go_simp
      | 4, hoi, hom =>
       have l3 := haft _ rfl ⟨3, .guard⟩ (by simp) rfl
       have s3 : ao.tmps[101]?.getD undef = .bool true := (hU.slot 3 (by decide) l3).trans (hpv 3 l3)
       have hc : Calls Tryz.prog 23 #[] W fun e w => e = .returned (.bool true) ∧ Below W.heap.size W w := awake12_any ((hk.cell (b := 0) (o := 0) hz0 (fun h => h)).trans HG.out) (Nat.lt_of_lt_of_le hz0 hk.size)
       refine wpOp_enterW (f := 23) (args := #[]) (W' := W) rfl ?_ ?_ ((hc).mono (fun e w'' h => ?_))
       · refine wanted_yes (j := 3) (d := 101) ?_ ?_ s3 <;> rfl
       · go_simp
       · obtain ⟨he, hbw⟩ := h
         exact ⟨_, he, hK _ _ (LKeep.below hbw (fun h => h)) rfl⟩
      | 5, hoi, hom =>
       have l3 := haft _ rfl ⟨3, .data⟩ (by simp) rfl
       have s3 : ao.tmps[101]?.getD undef = .bool true := (hU.slot 3 (by decide) l3).trans (hpv 3 l3)
       have l4 := haft _ rfl ⟨4, .data⟩ (by simp) rfl
       have s4 : ao.tmps[102]?.getD undef = .bool true := (hU.slot 4 (by decide) l4).trans (hpv 4 l4)
       refine wpOp_value (v := .bool true) (W' := W) rfl rfl ?_ (hK _ _ (LKeep.refl _ _ _) rfl)
       go_simp
      | 6, hoi, hom =>
       have l5 := haft _ rfl ⟨5, .data⟩ (by simp) rfl
       have s5 : ao.tmps[103]?.getD undef = .bool true := (hU.slot 5 (by decide) l5).trans (hpv 5 l5)
       refine wpOp_value (v := .bool true) (W' := W) rfl rfl ?_ (hK _ _ (LKeep.refl _ _ _) rfl)
       go_simp
      | oi + 7, hoi, hom => exact absurd (of_decide_eq_true hom) (by omega)
     case hend =>
      intro listed vs ao W hG hGU hk0 hpv hpre
      have hkk := (LKeep.drew (fun _ => False) (M := fun _ => True) y7 (fun h => h)).trans hk0
      have hk := hkk.1
      have hkm := hkk.2
      clear hkk
      have hT := hG.lst hpre 0 #[true, true, true, true, true, true, true] rfl (by kernel_rfl) (hpre 0 (by decide) (by decide))
      have h0 : ao.tmps[4]?.getD undef = vs 6 := hGU.slot 6 (by decide) (hpre 6 (by decide) (by decide))
      have hv : vs 6 = .bool true := hpv 6 (hpre 6 (by decide) (by decide))
      have hdf := hG.defers
      rw [hG.lo hT (k := 0) (by kernel_rfl)]
      subst hT
      refine wpAny_done (by kernel_rfl) ?_ _
      exact ⟨rfl, h0.trans hv, hdf, hk⟩
    case imp =>
     rintro ⟨tm, df⟩ W ⟨h0, hd, hk⟩
     simp only at h0 hd
     subst hd
     have HBZ := hide (HB.out.trans ((hk.below (B := y7.heap.size) (fun k h => h.elim) (Nat.le_refl _)).mono HB.out.size))
     clear hk
     go_wp2_with fail
     exact bodyPost_ret (v := .bool true) (by simp [results, Tryz.results12, go_sem, h0]) rfl ⟨rfl, HBZ.out⟩
  · have hlp : 0 < l.length := List.length_pos_iff.2 hl0
    have hal := HAL.out hl0
    clear HAL HNN hl0
    have hkq := HKD.out
    obtain ⟨gx, x0, x1⟩ := HX.out.cells
    have gcs := SS.out.lt
    have cs0 := SS.out.at_ 0
    have cs1 := SS.out.at_ 1
    simp only [List.getElem?_toArray, List.getElem?_cons_zero, List.getElem?_cons_succ] at cs0 cs1
    have gcp := SP.out.lt
    have cp0 := SP.out.at_ 0
    have cp1 := SP.out.at_ 1
    simp only [List.getElem?_toArray, List.getElem?_cons_zero, List.getElem?_cons_succ] at cp0 cp1
    have hc0 : ((l.length : Int) == 0) = false := beq_false_of_ne (by omega)
    go_upto_region 13 with fail
    clear gx x0 x1 gcs cs0 cs1 gcp cp0 cp1
    have hb : Below y7.heap.size y7 (y7.alloc (.cells #[.int .i64 0, .int .i64 0] 30)) := (Below.refl _ _).alloc (Nat.le_refl _) _
    have SA := hide (show Blk (y7.alloc (.cells #[.int .i64 0, .int .i64 0] 30)) y7.heap.size 30 #[.int .i64 0, .int .i64 0] from Blk.made)
    have hgs1 := SS.out.lt
    have hgp1 := SP.out.lt
    have hgx1 := HX.out.k.lt
    have hgA0 := hz0
    have HXV := hide (HX.out.v.below hb)
    have HLV := hide (HL.out.below hb)
    replace HG := hide ((hb.cell (p := ⟨0, 0, none⟩) hz0).trans HG.out)
    replace HB := hide (HB.out.trans (hb.mono HB.out.size))
    replace HX := hide (HX.out.next hb)
    replace SS := hide (SS.out.next hb)
    replace SP := hide (SP.out.next hb)
    replace HL := hide (HL.out.next hb)
    replace hz0 := Nat.lt_of_lt_of_le hz0 hb.size
    clear hb
    generalize y7.alloc (.cells #[.int .i64 0, .int .i64 0] 30) = y8 at *
    have hzA : y7.heap.size < y8.heap.size := SA.out.lt
    generalize y7.heap.size = gA at *
    clear hc0
    go_wp2_with fail
    go_loopw [14, 15, 16, 104, 105, 106, 107, 108, 109, 110, 111, 112, 113, 114, 115, 116, 117, 118, 119, 120, 121, 122, 123, 124, 125, 126, 127, 128, 129, 130, 131, 132, 133, 134, 135, 136, 137, 138] (fun v14 _ _ _ _ _ _ _ _ _ _ _ _ _ _ _ _ _ _ _ _ _ _ _ _ _ _ _ _ _ _ _ _ _ _ _ _ _ wr => ∃ k : Nat, k ≤ l.length ∧ v14 = .int .i64 (k : Nat) ∧ Hid (Blk wr gA 30 #[.int .i64 (sLo d (l.take k)), .int .i64 (sHi d (l.take k))]) ∧ Hid (Keep (fun k => k = gA) y8 wr)) (fun v14 _ _ _ _ _ _ _ _ _ _ _ _ _ _ _ _ _ _ _ _ _ _ _ _ _ _ _ _ _ _ _ _ _ _ _ _ _ _ => l.length - (intOf v14).toNat)
    case atStart => exact ⟨0, Nat.zero_le _, rfl, SA, hide (Keep.refl _ _)⟩
    case round =>
     obtain ⟨k, hk, rfl, SB, HK⟩ := hrel
     obtain ⟨u0, rfl⟩ : ∃ u0 : World, u0 = wr := ⟨_, rfl⟩
     have hk0 : (0 : Int) ≤ (k : Int) := Int.natCast_nonneg _
     have hb : Below w.heap.size w u0 := HB.out.trans (HK.out.below (fun k hk => by omega) (by have := HB.out.size; omega))
     have HB1 := hide hb
     clear hb
     have hzu := HK.out.size
     have HG1 := hide ((HK.out.cell (b := 0) (o := 0) hz0 (by omega)).trans HG.out)
     have hz1 := Nat.lt_of_lt_of_le hz0 HK.out.size
     have hbl : Below gA y8 u0 := HK.out.below (fun k hk => by omega) (by omega)
     have HX1 : Hid (BoxB u0 w.heap.size b a) := hide ⟨(HXV.out.below hbl).more (by omega), HX.out.k.keep HK.out (by omega)⟩
     have HL1 := hide ((HLV.out.below hbl).more (show gA ≤ u0.heap.size by omega))
     have SS1 := hide (SS.out.keep HK.out (by omega))
     have SP1 := hide (SP.out.keep HK.out (by omega))
     clear hbl
     have hbt := sBd_take (fun q hq => (hkq q hq).2.2) hl6 k
     by_cases hlt : k < l.length
     · have hk1 : (k : Int) < ((l.length : Nat) : Int) := by omega
       have HTK := hide (take_snoc (l := l) hlt)
       obtain ⟨lb, lof, rfl, hlb, lx⟩ := HL1.out.at_ hlt
       rw [natInts_nth hlt] at lx
       have hq := hkq (nth l k) (nth_mem hlt)
       have HT1 := hide (show sLo d (l.take (k + 1)) = sLo d (l.take k) + (d (nth l k)).lo by rw [HTK.out, sLo_snoc])
       have HT2 := hide (show sHi d (l.take (k + 1)) = sHi d (l.take k) + (d (nth l k)).hi by rw [HTK.out, sHi_snoc])
       generalize nth l k = q at *
       have HOq := hide (HOQ.out q hq.1)
       have HEq := hide (enter_at HV.out hq.1)
       generalize d q = dq at *
       obtain ⟨t1, t2⟩ := dq
       simp only at hq HT1 HT2
       generalize sLo d (l.take k) = z1 at *
       generalize sHi d (l.take k) = z2 at *
       obtain ⟨gx, x0, x1⟩ := HX1.out.cells
       have gcs := SS1.out.lt
       have cs0 := SS1.out.at_ 0
       have cs1 := SS1.out.at_ 1
       simp only [List.getElem?_toArray, List.getElem?_cons_zero, List.getElem?_cons_succ] at cs0 cs1
       have gcp := SP1.out.lt
       have cp0 := SP1.out.at_ 0
       have cp1 := SP1.out.at_ 1
       simp only [List.getElem?_toArray, List.getElem?_cons_zero, List.getElem?_cons_succ] at cp0 cp1
       have gcb := SB.out.lt
       have cb0 := SB.out.at_ 0
       have cb1 := SB.out.at_ 1
       simp only [List.getElem?_toArray, List.getElem?_cons_zero, List.getElem?_cons_succ] at cb0 cb1
       go_upto_region 16 with fail
       refine wp_region_rel4 (dst := fun oi => [111, 112, 113, 114, 115, 116, 110, 117, 118, 15, 3, 3].getD oi 0) (mono := fun oi => decide (oi < 10)) (pre := fun oi => decide (oi < 10) && decide (oi != 8)) (R := LKeep (fun _ => False) (fun _ => True))
        (Pv := fun oi v W => match oi with
         | 0 => v = bookVal b a
         | 1 => v = .slice (some ⟨lb, lof, none⟩) l.length lc
         | 2 => v = .int .i64 (k : Nat)
         | 3 => v = .pointer (some ⟨lb, lof + k, none⟩)
         | 4 => v = .int .i64 (q : Nat)
         | 5 => v = .tuple #[spanVal ⟨t1, t2⟩, .int .i64 0]
         | 6 => v = .tuple #[spanVal ⟨t1, t2⟩, .int .i64 0]
         | 7 => v = spanVal ⟨t1, t2⟩
         | 8 => v = .int .i64 0
         | 9 => ∃ gl cp, v = .pointer (some ⟨gl, 0, none⟩) ∧ MadeB W u0.heap.size gl cp 30 #[.int .i64 0, .int .i64 0]
         | _ => True) (by kernel_rfl) (by kernel_rfl) (LKeep.refl _ _) (fun _ _ _ h h' => h.trans h') ?hsth ?hsteph ?hendh
       case hsth =>
        intro oi v W W' h hk
        match oi, h with
        | 0, h => exact h
        | 1, h => exact h
        | 2, h => exact h
        | 3, h => exact h
        | 4, h => exact h
        | 5, h => exact h
        | 6, h => exact h
        | 7, h => exact h
        | 8, h => exact h
        | 9, h => obtain ⟨gl, cp, h1, h2⟩ := h; exact ⟨gl, cp, h1, h2.next (hk.1.below (B := W.heap.size) (fun k h => h.elim) (Nat.le_refl _))⟩
        | oi + 10, h => exact trivial
       case hsteph =>
        intro oi hoi hom listed vs ao W hU hk0 hpv haft Ko hK
        have hkk := (LKeep.drew (fun _ => False) (M := fun _ => True) u0 (fun h => h)).trans hk0
        have hk := hkk.1
        have hkm := hkk.2
        clear hkk
        match oi, hoi, hom with
        | 0, hoi, hom =>
         have z2 : ao.tmps[2]?.getD undef = .pointer (some ⟨w.heap.size, 0, none⟩) := hU.same 2 (by decide)
         have y0 := (hk.cell (b := w.heap.size) (o := 0) (gx) (fun h => h)).trans (x0)
         have y1 := (hk.cell (b := w.heap.size) (o := 1) (gx) (fun h => h)).trans (x1)
         refine wpOp_value (v := bookVal b a) (W' := W) rfl rfl ?_ (hK _ _ (LKeep.refl _ _ _) rfl)
         go_simp
        | 1, hoi, hom =>
         have z12 : ao.tmps[12]?.getD undef = .slice (some ⟨lb, lof, none⟩) l.length lc := hU.same 12 (by decide)
         refine wpOp_value (v := .slice (some ⟨lb, lof, none⟩) l.length lc) (W' := W) rfl rfl ?_ (hK _ _ (LKeep.refl _ _ _) rfl)
         go_simp
        | 2, hoi, hom =>
         have z14 : ao.tmps[14]?.getD undef = .int .i64 (k : Nat) := hU.same 14 (by decide)
         refine wpOp_value (v := .int .i64 (k : Nat)) (W' := W) rfl rfl ?_ (hK _ _ (LKeep.refl _ _ _) rfl)
         go_simp
        | 3, hoi, hom =>
         have l1 := haft _ rfl ⟨1, .data⟩ (by simp) rfl
         have s1 : ao.tmps[112]?.getD undef = .slice (some ⟨lb, lof, none⟩) l.length lc := (hU.slot 1 (by decide) l1).trans (hpv 1 l1)
         have l2 := haft _ rfl ⟨2, .data⟩ (by simp) rfl
         have s2 : ao.tmps[113]?.getD undef = .int .i64 (k : Nat) := (hU.slot 2 (by decide) l2).trans (hpv 2 l2)
         refine wpOp_value (v := .pointer (some ⟨lb, lof + k, none⟩)) (W' := W) rfl rfl ?_ (hK _ _ (LKeep.refl _ _ _) rfl)
         go_simp
        | 4, hoi, hom =>
         have l3 := haft _ rfl ⟨3, .data⟩ (by simp) rfl
         have s3 : ao.tmps[114]?.getD undef = .pointer (some ⟨lb, lof + k, none⟩) := (hU.slot 3 (by decide) l3).trans (hpv 3 l3)
         have y0 := (hk.cell (b := lb) (o := lof + k) (hlb) (fun h => h)).trans (lx)
         refine wpOp_value (v := .int .i64 (q : Nat)) (W' := W) rfl rfl ?_ (hK _ _ (LKeep.refl _ _ _) rfl)
         go_simp
        | 5, hoi, hom =>
         have l0 := haft _ rfl ⟨0, .data⟩ (by simp) rfl
         have s0 : ao.tmps[111]?.getD undef = bookVal b a := (hU.slot 0 (by decide) l0).trans (hpv 0 l0)
         have l4 := haft _ rfl ⟨4, .data⟩ (by simp) rfl
         have s4 : ao.tmps[115]?.getD undef = .int .i64 (q : Nat) := (hU.slot 4 (by decide) l4).trans (hpv 4 l4)
         have hc : Calls Tryz.prog 19 #[bookVal b a, .int .i64 ((q : Nat) : Int)] W fun e w' => e = .returned (.tuple #[spanVal ⟨t1, t2⟩, .int .i64 0]) ∧ Below W.heap.size W w' := by
          have hx9 := hands_any (s := ((q : Nat) : Int)) (HX1.out.v.next (hk.below (B := u0.heap.size) (fun k h => h.elim) (Nat.le_refl _)))
          rw [HDD.out, HOq.out, HEq.out] at hx9
          exact hx9
         refine wpOp_enter (f := 19) (args := #[bookVal b a, .int .i64 (q : Nat)]) (W' := W) rfl rfl ?_ ((hc).mono (fun e w'' h => ?_))
         · go_simp
         · obtain ⟨he, hbw⟩ := h
           exact ⟨_, he, hK _ _ (LKeep.below hbw (fun h => h)) rfl⟩
        | 6, hoi, hom =>
         have l5 := haft _ rfl ⟨5, .data⟩ (by simp) rfl
         have s5 : ao.tmps[116]?.getD undef = .tuple #[spanVal ⟨t1, t2⟩, .int .i64 0] := (hU.slot 5 (by decide) l5).trans (hpv 5 l5)
         refine wpOp_value (v := .tuple #[spanVal ⟨t1, t2⟩, .int .i64 0]) (W' := W) rfl rfl ?_ (hK _ _ (LKeep.refl _ _ _) rfl)
         go_simp
        | 7, hoi, hom =>
         have l6 := haft _ rfl ⟨6, .data⟩ (by simp) rfl
         have s6 : ao.tmps[110]?.getD undef = .tuple #[spanVal ⟨t1, t2⟩, .int .i64 0] := (hU.slot 6 (by decide) l6).trans (hpv 6 l6)
         refine wpOp_value (v := spanVal ⟨t1, t2⟩) (W' := W) rfl rfl ?_ (hK _ _ (LKeep.refl _ _ _) rfl)
         go_simp
        | 8, hoi, hom =>
         have l6 := haft _ rfl ⟨6, .data⟩ (by simp) rfl
         have s6 : ao.tmps[110]?.getD undef = .tuple #[spanVal ⟨t1, t2⟩, .int .i64 0] := (hU.slot 6 (by decide) l6).trans (hpv 6 l6)
         refine wpOp_value (v := .int .i64 0) (W' := W) rfl rfl ?_ (hK _ _ (LKeep.refl _ _ _) rfl)
         go_simp
        | 9, hoi, hom =>
         refine wpOp_value (v := .pointer (some ⟨W.heap.size, 0, none⟩)) (W' := (W.alloc (.cells #[.int .i64 0, .int .i64 0] 30))) rfl rfl ?_ (hK _ _ (LKeep.below ((Below.refl _ _).alloc (Nat.le_refl _) _) (fun h => h)) ⟨_, 0, rfl, ⟨Blk.made, hk.size⟩⟩)
         go_simp
        | oi + 10, hoi, hom => exact absurd (of_decide_eq_true hom) (by omega)
       case hendh =>
        intro listed vs ao W hG hk0 hpv hpre
        have hkk := (LKeep.drew (fun _ => False) (M := fun _ => True) u0 (fun h => h)).trans hk0
        have hk := hkk.1
        have hkm := hkk.2
        clear hkk
        have hact := hG.act
        cases hq : listed.getD 8 false with
        | true =>
         have hT := hG.lst hpre 8 #[true, true, true, true, true, true, true, true, true, true, false, false] rfl (by kernel_rfl) hq
         rw [hG.ix hT (l := [0, 1, 2, 3, 4, 5, 6, 7, 8, 9]) (by kernel_rfl)] at hact
         rw [hG.lo hT (k := 2) (by kernel_rfl)]
         have hv0 : vs 0 = bookVal b a := hpv 0 (hpre 0 (by decide) (by decide))
         have hv1 : vs 1 = .slice (some ⟨lb, lof, none⟩) l.length lc := hpv 1 (hpre 1 (by decide) (by decide))
         have hv2 : vs 2 = .int .i64 (k : Nat) := hpv 2 (hpre 2 (by decide) (by decide))
         have hv3 : vs 3 = .pointer (some ⟨lb, lof + k, none⟩) := hpv 3 (hpre 3 (by decide) (by decide))
         have hv4 : vs 4 = .int .i64 (q : Nat) := hpv 4 (hpre 4 (by decide) (by decide))
         have hv5 : vs 5 = .tuple #[spanVal ⟨t1, t2⟩, .int .i64 0] := hpv 5 (hpre 5 (by decide) (by decide))
         have hv6 : vs 6 = .tuple #[spanVal ⟨t1, t2⟩, .int .i64 0] := hpv 6 (hpre 6 (by decide) (by decide))
         have hv7 : vs 7 = spanVal ⟨t1, t2⟩ := hpv 7 (hpre 7 (by decide) (by decide))
         have hv8 : vs 8 = .int .i64 0 := hpv 8 hq
         obtain ⟨gl9, cp9, hv9, hi9⟩ := hpv 9 (hpre 9 (by decide) (by decide))
         clear hpv hpre hG hk0 hq
         obtain rfl : ao = _ := hact
         subst hT
         simp only [setAll, List.setIfInBounds_toArray, List.set_cons_succ, List.set_cons_zero, List.getD_cons_succ, List.getD_cons_zero]
         simp only [hv0, hv1, hv2, hv3, hv4, hv5, hv6, hv7, hv8, hv9]
         clear hv0 hv1 hv2 hv3 hv4 hv5 hv6 hv7 hv8 hv9
         have n9 := hi9.k
         have c0 := n9.at_ 0
         have c1 := n9.at_ 1
         have f0 := n9.free 0
         have f1 := n9.free 1
         simp only [List.getElem?_toArray, List.getElem?_cons_zero, List.getElem?_cons_succ] at c0 c1
         refine wpAny_all (rs := [10]) (by kernel_rfl) (by simp) ?_
         intro i2 hi2
         obtain rfl : i2 = 10 := by simpa using hi2
         refine wpOp_skip (W' := ((W.setCell ⟨gl9, 0, none⟩ (.int .i64 t1)).setCell ⟨gl9, 1, none⟩ (.int .i64 t2))) rfl rfl ?_ ?_
         · go_simp
         refine wpAny_all (rs := [11]) (by kernel_rfl) (by simp) ?_
         intro i2 hi2
         obtain rfl : i2 = 11 := by simpa using hi2
         refine wpOp_value (v := .int .i64 0) (W' := ((W.setCell ⟨gl9, 0, none⟩ (.int .i64 t1)).setCell ⟨gl9, 1, none⟩ (.int .i64 t2))) rfl rfl ?_ ?_
         · go_simp
         refine wpAny_done (by kernel_rfl) ?_ _
         have ST := hide (show Blk ((W.setCell ⟨gl9, 0, none⟩ (.int .i64 t1)).setCell ⟨gl9, 1, none⟩ (.int .i64 t2)) gl9 30 #[.int .i64 t1, .int .i64 t2] from (n9.store 0 _).store 1 _)
         have hb : Below u0.heap.size u0 ((W.setCell ⟨gl9, 0, none⟩ (.int .i64 t1)).setCell ⟨gl9, 1, none⟩ (.int .i64 t2)) := ((hk.below (B := u0.heap.size) (fun k h => h.elim) (Nat.le_refl _)).setCell hi9.ge _).setCell hi9.ge _
         have hge := hi9.ge
         clear c0 c1 f0 f1 n9 hk hkm hi9
         clear gx x0 x1 gcs cs0 cs1 gcp cp0 cp1 gcb cb0 cb1
         generalize ((W.setCell ⟨gl9, 0, none⟩ (.int .i64 t1)).setCell ⟨gl9, 1, none⟩ (.int .i64 t2)) = v5 at *
         replace HB1 := hide (HB1.out.trans (hb.mono HB1.out.size))
         replace HG1 := hide ((hb.cell (p := ⟨0, 0, none⟩) hz1).trans HG1.out)
         replace HX1 := hide (HX1.out.next hb)
         replace HL1 := hide (HL1.out.next hb)
         replace SS1 := hide (SS1.out.next hb)
         replace SP1 := hide (SP1.out.next hb)
         replace SB := hide (SB.out.next hb)
         replace HK := hide (HK.out.trans (Keep.of_below' hb (fun k => k = gA)))
         have hgA1 := SB.out.lt
         replace hz1 := Nat.lt_of_lt_of_le hz1 hb.size
         clear hb
         obtain ⟨gcs, cs0, cs1⟩ : _ ∧ _ ∧ _ := ⟨SS1.out.lt, SS1.out.at_ 0, SS1.out.at_ 1⟩
         obtain ⟨gct, ct0, ct1⟩ : _ ∧ _ ∧ _ := ⟨ST.out.lt, ST.out.at_ 0, ST.out.at_ 1⟩
         obtain ⟨gcb, cb0, cb1⟩ : _ ∧ _ ∧ _ := ⟨SB.out.lt, SB.out.at_ 0, SB.out.at_ 1⟩
         simp only [List.getElem?_toArray, List.getElem?_cons_zero, List.getElem?_cons_succ] at cs0 cs1 ct0 ct1 cb0 cb1
         have hw1 : IntKind.i64.wrap (z1 + t1) = z1 + t1 := IntWalk.i64_in _ (by omega)
         have hw2 : IntKind.i64.wrap (z2 + t2) = z2 + t2 := IntWalk.i64_in _ (by omega)
         have hcc : t2 ≤ s2 := hq.2.1
         go_wp2_with (go_at_call 40; refine (span12_any (z1 + t1) (z2 + t2) _).mono ?_; rintro e v6 ⟨rfl, hb⟩; have HK6 := hide (HK.out.trans (Keep.of_below' hb (fun k => k = gA))); have SB6 := hide (SB.out.next hb); have hz6 := SB6.out.lt; have f0 := SB6.out.free 0; have f1 := SB6.out.free 1; have r0 := SB6.out.at_ 0; have r1 := SB6.out.at_ 1; simp only [List.getElem?_toArray, List.getElem?_cons_zero, List.getElem?_cons_succ] at r0 r1)
         go_roundw
         case rel => exact ⟨k + 1, by omega, by go_num, hide (by rw [HT1.out, HT2.out]; exact (SB6.out.store 0 _).store 1 _), hide ((HK6.out.trans (Keep.setCell _ _ _ _ rfl)).trans (Keep.setCell _ _ _ _ rfl))⟩
         case measure => simp [intOf]; omega
        | false =>
         have hT := hG.lst hpre 8 #[true, true, true, true, true, true, true, true, false, true, false, false] rfl (by kernel_rfl) hq
         rw [hG.ix hT (l := [0, 1, 2, 3, 4, 5, 6, 7, 9]) (by kernel_rfl)] at hact
         rw [hG.lo hT (k := 3) (by kernel_rfl)]
         have hv0 : vs 0 = bookVal b a := hpv 0 (hpre 0 (by decide) (by decide))
         have hv1 : vs 1 = .slice (some ⟨lb, lof, none⟩) l.length lc := hpv 1 (hpre 1 (by decide) (by decide))
         have hv2 : vs 2 = .int .i64 (k : Nat) := hpv 2 (hpre 2 (by decide) (by decide))
         have hv3 : vs 3 = .pointer (some ⟨lb, lof + k, none⟩) := hpv 3 (hpre 3 (by decide) (by decide))
         have hv4 : vs 4 = .int .i64 (q : Nat) := hpv 4 (hpre 4 (by decide) (by decide))
         have hv5 : vs 5 = .tuple #[spanVal ⟨t1, t2⟩, .int .i64 0] := hpv 5 (hpre 5 (by decide) (by decide))
         have hv6 : vs 6 = .tuple #[spanVal ⟨t1, t2⟩, .int .i64 0] := hpv 6 (hpre 6 (by decide) (by decide))
         have hv7 : vs 7 = spanVal ⟨t1, t2⟩ := hpv 7 (hpre 7 (by decide) (by decide))
         obtain ⟨gl9, cp9, hv9, hi9⟩ := hpv 9 (hpre 9 (by decide) (by decide))
         clear hpv hpre hG hk0 hq
         obtain rfl : ao = _ := hact
         subst hT
         simp only [setAll, List.setIfInBounds_toArray, List.set_cons_succ, List.set_cons_zero, List.getD_cons_succ, List.getD_cons_zero]
         simp only [hv0, hv1, hv2, hv3, hv4, hv5, hv6, hv7, hv9]
         clear hv0 hv1 hv2 hv3 hv4 hv5 hv6 hv7 hv9
         have n9 := hi9.k
         have c0 := n9.at_ 0
         have c1 := n9.at_ 1
         have f0 := n9.free 0
         have f1 := n9.free 1
         simp only [List.getElem?_toArray, List.getElem?_cons_zero, List.getElem?_cons_succ] at c0 c1
         refine wpAny_all (rs := [8, 10]) (by kernel_rfl) (by simp) ?_
         intro i2 hi2
         rcases (by simpa using hi2 : i2 = 8 ∨ i2 = 10) with rfl | rfl
         · refine wpOp_value (v := .int .i64 0) (W' := W) rfl rfl ?_ ?_
           · go_simp
           refine wpAny_all (rs := [10]) (by kernel_rfl) (by simp) ?_
           intro i2 hi2
           obtain rfl : i2 = 10 := by simpa using hi2
           refine wpOp_skip (W' := ((W.setCell ⟨gl9, 0, none⟩ (.int .i64 t1)).setCell ⟨gl9, 1, none⟩ (.int .i64 t2))) rfl rfl ?_ ?_
           · go_simp
           refine wpAny_all (rs := [11]) (by kernel_rfl) (by simp) ?_
           intro i2 hi2
           obtain rfl : i2 = 11 := by simpa using hi2
           refine wpOp_value (v := .int .i64 0) (W' := ((W.setCell ⟨gl9, 0, none⟩ (.int .i64 t1)).setCell ⟨gl9, 1, none⟩ (.int .i64 t2))) rfl rfl ?_ ?_
           · go_simp
           refine wpAny_done (by kernel_rfl) ?_ _
           have ST := hide (show Blk ((W.setCell ⟨gl9, 0, none⟩ (.int .i64 t1)).setCell ⟨gl9, 1, none⟩ (.int .i64 t2)) gl9 30 #[.int .i64 t1, .int .i64 t2] from (n9.store 0 _).store 1 _)
           have hb : Below u0.heap.size u0 ((W.setCell ⟨gl9, 0, none⟩ (.int .i64 t1)).setCell ⟨gl9, 1, none⟩ (.int .i64 t2)) := ((hk.below (B := u0.heap.size) (fun k h => h.elim) (Nat.le_refl _)).setCell hi9.ge _).setCell hi9.ge _
           have hge := hi9.ge
           clear c0 c1 f0 f1 n9 hk hkm hi9
           clear gx x0 x1 gcs cs0 cs1 gcp cp0 cp1 gcb cb0 cb1
           generalize ((W.setCell ⟨gl9, 0, none⟩ (.int .i64 t1)).setCell ⟨gl9, 1, none⟩ (.int .i64 t2)) = v5 at *
           replace HB1 := hide (HB1.out.trans (hb.mono HB1.out.size))
           replace HG1 := hide ((hb.cell (p := ⟨0, 0, none⟩) hz1).trans HG1.out)
           replace HX1 := hide (HX1.out.next hb)
           replace HL1 := hide (HL1.out.next hb)
           replace SS1 := hide (SS1.out.next hb)
           replace SP1 := hide (SP1.out.next hb)
           replace SB := hide (SB.out.next hb)
           replace HK := hide (HK.out.trans (Keep.of_below' hb (fun k => k = gA)))
           have hgA1 := SB.out.lt
           replace hz1 := Nat.lt_of_lt_of_le hz1 hb.size
           clear hb
           obtain ⟨gcs, cs0, cs1⟩ : _ ∧ _ ∧ _ := ⟨SS1.out.lt, SS1.out.at_ 0, SS1.out.at_ 1⟩
           obtain ⟨gct, ct0, ct1⟩ : _ ∧ _ ∧ _ := ⟨ST.out.lt, ST.out.at_ 0, ST.out.at_ 1⟩
           obtain ⟨gcb, cb0, cb1⟩ : _ ∧ _ ∧ _ := ⟨SB.out.lt, SB.out.at_ 0, SB.out.at_ 1⟩
           simp only [List.getElem?_toArray, List.getElem?_cons_zero, List.getElem?_cons_succ] at cs0 cs1 ct0 ct1 cb0 cb1
           have hw1 : IntKind.i64.wrap (z1 + t1) = z1 + t1 := IntWalk.i64_in _ (by omega)
           have hw2 : IntKind.i64.wrap (z2 + t2) = z2 + t2 := IntWalk.i64_in _ (by omega)
           have hcc : t2 ≤ s2 := hq.2.1
           go_wp2_with (go_at_call 40; refine (span12_any (z1 + t1) (z2 + t2) _).mono ?_; rintro e v6 ⟨rfl, hb⟩; have HK6 := hide (HK.out.trans (Keep.of_below' hb (fun k => k = gA))); have SB6 := hide (SB.out.next hb); have hz6 := SB6.out.lt; have f0 := SB6.out.free 0; have f1 := SB6.out.free 1; have r0 := SB6.out.at_ 0; have r1 := SB6.out.at_ 1; simp only [List.getElem?_toArray, List.getElem?_cons_zero, List.getElem?_cons_succ] at r0 r1)
           go_roundw
           case rel => exact ⟨k + 1, by omega, by go_num, hide (by rw [HT1.out, HT2.out]; exact (SB6.out.store 0 _).store 1 _), hide ((HK6.out.trans (Keep.setCell _ _ _ _ rfl)).trans (Keep.setCell _ _ _ _ rfl))⟩
           case measure => simp [intOf]; omega
         · refine wpOp_skip (W' := ((W.setCell ⟨gl9, 0, none⟩ (.int .i64 t1)).setCell ⟨gl9, 1, none⟩ (.int .i64 t2))) rfl rfl ?_ ?_
           · go_simp
           refine wpAny_all (rs := [8]) (by kernel_rfl) (by simp) ?_
           intro i2 hi2
           obtain rfl : i2 = 8 := by simpa using hi2
           refine wpOp_value (v := .int .i64 0) (W' := ((W.setCell ⟨gl9, 0, none⟩ (.int .i64 t1)).setCell ⟨gl9, 1, none⟩ (.int .i64 t2))) rfl rfl ?_ ?_
           · go_simp
           refine wpAny_all (rs := [11]) (by kernel_rfl) (by simp) ?_
           intro i2 hi2
           obtain rfl : i2 = 11 := by simpa using hi2
           refine wpOp_value (v := .int .i64 0) (W' := ((W.setCell ⟨gl9, 0, none⟩ (.int .i64 t1)).setCell ⟨gl9, 1, none⟩ (.int .i64 t2))) rfl rfl ?_ ?_
           · go_simp
           refine wpAny_done (by kernel_rfl) ?_ _
           have ST := hide (show Blk ((W.setCell ⟨gl9, 0, none⟩ (.int .i64 t1)).setCell ⟨gl9, 1, none⟩ (.int .i64 t2)) gl9 30 #[.int .i64 t1, .int .i64 t2] from (n9.store 0 _).store 1 _)
           have hb : Below u0.heap.size u0 ((W.setCell ⟨gl9, 0, none⟩ (.int .i64 t1)).setCell ⟨gl9, 1, none⟩ (.int .i64 t2)) := ((hk.below (B := u0.heap.size) (fun k h => h.elim) (Nat.le_refl _)).setCell hi9.ge _).setCell hi9.ge _
           have hge := hi9.ge
           clear c0 c1 f0 f1 n9 hk hkm hi9
           clear gx x0 x1 gcs cs0 cs1 gcp cp0 cp1 gcb cb0 cb1
           generalize ((W.setCell ⟨gl9, 0, none⟩ (.int .i64 t1)).setCell ⟨gl9, 1, none⟩ (.int .i64 t2)) = v5 at *
           replace HB1 := hide (HB1.out.trans (hb.mono HB1.out.size))
           replace HG1 := hide ((hb.cell (p := ⟨0, 0, none⟩) hz1).trans HG1.out)
           replace HX1 := hide (HX1.out.next hb)
           replace HL1 := hide (HL1.out.next hb)
           replace SS1 := hide (SS1.out.next hb)
           replace SP1 := hide (SP1.out.next hb)
           replace SB := hide (SB.out.next hb)
           replace HK := hide (HK.out.trans (Keep.of_below' hb (fun k => k = gA)))
           have hgA1 := SB.out.lt
           replace hz1 := Nat.lt_of_lt_of_le hz1 hb.size
           clear hb
           obtain ⟨gcs, cs0, cs1⟩ : _ ∧ _ ∧ _ := ⟨SS1.out.lt, SS1.out.at_ 0, SS1.out.at_ 1⟩
           obtain ⟨gct, ct0, ct1⟩ : _ ∧ _ ∧ _ := ⟨ST.out.lt, ST.out.at_ 0, ST.out.at_ 1⟩
           obtain ⟨gcb, cb0, cb1⟩ : _ ∧ _ ∧ _ := ⟨SB.out.lt, SB.out.at_ 0, SB.out.at_ 1⟩
           simp only [List.getElem?_toArray, List.getElem?_cons_zero, List.getElem?_cons_succ] at cs0 cs1 ct0 ct1 cb0 cb1
           have hw1 : IntKind.i64.wrap (z1 + t1) = z1 + t1 := IntWalk.i64_in _ (by omega)
           have hw2 : IntKind.i64.wrap (z2 + t2) = z2 + t2 := IntWalk.i64_in _ (by omega)
           have hcc : t2 ≤ s2 := hq.2.1
           go_wp2_with (go_at_call 40; refine (span12_any (z1 + t1) (z2 + t2) _).mono ?_; rintro e v6 ⟨rfl, hb⟩; have HK6 := hide (HK.out.trans (Keep.of_below' hb (fun k => k = gA))); have SB6 := hide (SB.out.next hb); have hz6 := SB6.out.lt; have f0 := SB6.out.free 0; have f1 := SB6.out.free 1; have r0 := SB6.out.at_ 0; have r1 := SB6.out.at_ 1; simp only [List.getElem?_toArray, List.getElem?_cons_zero, List.getElem?_cons_succ] at r0 r1)
           go_roundw
           case rel => exact ⟨k + 1, by omega, by go_num, hide (by rw [HT1.out, HT2.out]; exact (SB6.out.store 0 _).store 1 _), hide ((HK6.out.trans (Keep.setCell _ _ _ _ rfl)).trans (Keep.setCell _ _ _ _ rfl))⟩
           case measure => simp [intOf]; omega
     · obtain rfl : k = l.length := by omega
       rw [List.take_length] at SB hbt
       generalize sLo d l = z1 at *
       generalize sHi d l = z2 at *
       obtain ⟨e1, e2, e3, e4⟩ := hal
       replace HG := HG1
       replace HB := HB1
       replace hz0 := hz1
       obtain ⟨gx, x0, x1⟩ := HX1.out.cells
       have gcs := SS1.out.lt
       have cs0 := SS1.out.at_ 0
       have cs1 := SS1.out.at_ 1
       simp only [List.getElem?_toArray, List.getElem?_cons_zero, List.getElem?_cons_succ] at cs0 cs1
       have gcp := SP1.out.lt
       have cp0 := SP1.out.at_ 0
       have cp1 := SP1.out.at_ 1
       simp only [List.getElem?_toArray, List.getElem?_cons_zero, List.getElem?_cons_succ] at cp0 cp1
       have gcb := SB.out.lt
       have cb0 := SB.out.at_ 0
       have cb1 := SB.out.at_ 1
       simp only [List.getElem?_toArray, List.getElem?_cons_zero, List.getElem?_cons_succ] at cb0 cb1
       obtain ⟨g2, o2, hA2, hg2, q0, q1, q2⟩ := HX1.out.v.steps.steps hn
       rw [hA2] at x0
       rw [HLS.out] at q2
       clear hA2 q0 q1
       have hgb := HX1.out.k.lt
       go_upto_region 20 with fail
       refine wp_post (fun a W => a.tmps[4]?.getD undef = .bool true ∧ a.defers = [] ∧ Keep (fun _ => False) u0 W) ?reg ?imp
       case reg =>
        refine wp_region_rel3 (dst := fun oi => [139, 140, 141, 142, 143, 144, 145, 146, 147, 148, 149, 150, 151, 152, 153, 154, 155, 156, 157, 158, 159, 160, 161, 162, 163, 164, 165, 166, 167, 168, 169, 170, 171, 172, 173, 174, 175, 176, 177, 178, 179, 180, 4].getD oi 0) (mono := fun oi => decide (oi < 43)) (pre := fun oi => decide (oi < 43)) (R := LKeep (fun _ => False) (fun _ => True))
         (Pv := fun oi v W => match oi with
          | 0 => v = .pointer (some ⟨ggcs, 0, none⟩)
          | 1 => v = .int .i64 s1
          | 2 => v = .pointer (some ⟨gA, 0, none⟩)
          | 3 => v = .int .i64 z1
          | 4 => v = .bool true
          | 5 => v = .bool true
          | 6 => v = .pointer (some ⟨ggcs, 1, none⟩)
          | 7 => v = .int .i64 s2
          | 8 => v = .pointer (some ⟨gA, 1, none⟩)
          | 9 => v = .int .i64 z2
          | 10 => v = .pointer (some ⟨w.heap.size, 0, none⟩)
          | 11 => v = .slice (some ⟨g2, o2, none⟩) b.steps.length a.c1
          | 12 => v = .int .i64 (n : Nat)
          | 13 => v = .pointer (some ⟨g2, o2 + n * 3, none⟩)
          | 14 => v = .pointer (some ⟨g2, o2 + n * 3 + 2, none⟩)
          | 15 => v = .int .i64 lo
          | 16 => v = .int .i64 (z2 + lo)
          | 17 => v = .bool true
          | 18 => v = .bool true
          | 19 => v = .bool true
          | 20 => v = .pointer (some ⟨ggcp, 0, none⟩)
          | 21 => v = .int .i64 p1
          | 22 => v = .pointer (some ⟨ggcs, 0, none⟩)
          | 23 => v = .int .i64 s1
          | 24 => v = .pointer (some ⟨gA, 1, none⟩)
          | 25 => v = .int .i64 z2
          | 26 => v = .int .i64 (s1 - z2)
          | 27 => v = .bool true
          | 28 => v = .bool true
          | 29 => v = .bool true
          | 30 => v = .pointer (some ⟨ggcp, 1, none⟩)
          | 31 => v = .int .i64 p2
          | 32 => v = .pointer (some ⟨ggcs, 1, none⟩)
          | 33 => v = .int .i64 s2
          | 34 => v = .pointer (some ⟨gA, 0, none⟩)
          | 35 => v = .int .i64 z1
          | 36 => v = .int .i64 (s2 - z1)
          | 37 => v = .bool true
          | 38 => v = .bool true
          | 39 => v = .bool true
          | 40 => v = .bool true
          | 41 => v = .bool true
          | 42 => v = .bool true
          | _ => True) (by kernel_rfl) (by kernel_rfl) (LKeep.refl _ _) (fun _ _ _ h h' => h.trans h') ?hst ?hstep ?hend
        case hst =>
         intro oi v W W' h hk
         match oi, h with
         | 0, h => exact h
         | 1, h => exact h
         | 2, h => exact h
         | 3, h => exact h
         | 4, h => exact h
         | 5, h => exact h
         | 6, h => exact h
         | 7, h => exact h
         | 8, h => exact h
         | 9, h => exact h
         | 10, h => exact h
         | 11, h => exact h
         | 12, h => exact h
         | 13, h => exact h
         | 14, h => exact h
         | 15, h => exact h
         | 16, h => exact h
         | 17, h => exact h
         | 18, h => exact h
         | 19, h => exact h
         | 20, h => exact h
         | 21, h => exact h
         | 22, h => exact h
         | 23, h => exact h
         | 24, h => exact h
         | 25, h => exact h
         | 26, h => exact h
         | 27, h => exact h
         | 28, h => exact h
         | 29, h => exact h
         | 30, h => exact h
         | 31, h => exact h
         | 32, h => exact h
         | 33, h => exact h
         | 34, h => exact h
         | 35, h => exact h
         | 36, h => exact h
         | 37, h => exact h
         | 38, h => exact h
         | 39, h => exact h
         | 40, h => exact h
         | 41, h => exact h
         | 42, h => exact h
         | oi + 43, h => exact trivial
        case hstep =>
         intro oi hoi hom listed vs ao W hU hk0 hpv haft Ko hK
         have hkk := (LKeep.drew (fun _ => False) (M := fun _ => True) u0 (fun h => h)).trans hk0
         have hk := hkk.1
         have hkm := hkk.2
         clear hkk
         match oi, hoi, hom with
         | 0, hoi, hom =>
          have z8 : ao.tmps[8]?.getD undef = .pointer (some ⟨ggcs, 0, none⟩) := hU.same 8 (by decide)
          refine wpOp_value (v := .pointer (some ⟨ggcs, 0, none⟩)) (W' := W) rfl rfl ?_ (hK _ _ (LKeep.refl _ _ _) rfl)
          go_simp
         | 1, hoi, hom =>
          have l0 := haft _ rfl ⟨0, .data⟩ (by simp) rfl
          have s0 : ao.tmps[139]?.getD undef = .pointer (some ⟨ggcs, 0, none⟩) := (hU.slot 0 (by decide) l0).trans (hpv 0 l0)
          have y0 := (hk.cell (b := ggcs) (o := 0) (gcs) (fun h => h)).trans (cs0)
          refine wpOp_value (v := .int .i64 s1) (W' := W) rfl rfl ?_ (hK _ _ (LKeep.refl _ _ _) rfl)
          go_simp
         | 2, hoi, hom =>
          have z13 : ao.tmps[13]?.getD undef = .pointer (some ⟨gA, 0, none⟩) := hU.same 13 (by decide)
          refine wpOp_value (v := .pointer (some ⟨gA, 0, none⟩)) (W' := W) rfl rfl ?_ (hK _ _ (LKeep.refl _ _ _) rfl)
          go_simp
         | 3, hoi, hom =>
          have l2 := haft _ rfl ⟨2, .data⟩ (by simp) rfl
          have s2 : ao.tmps[141]?.getD undef = .pointer (some ⟨gA, 0, none⟩) := (hU.slot 2 (by decide) l2).trans (hpv 2 l2)
          have y0 := (hk.cell (b := gA) (o := 0) (gcb) (fun h => h)).trans (cb0)
          refine wpOp_value (v := .int .i64 z1) (W' := W) rfl rfl ?_ (hK _ _ (LKeep.refl _ _ _) rfl)
          go_simp
         | 4, hoi, hom =>
          have l1 := haft _ rfl ⟨1, .data⟩ (by simp) rfl
          have s1 : ao.tmps[140]?.getD undef = .int .i64 s1 := (hU.slot 1 (by decide) l1).trans (hpv 1 l1)
          have l3 := haft _ rfl ⟨3, .data⟩ (by simp) rfl
          have s3 : ao.tmps[142]?.getD undef = .int .i64 z1 := (hU.slot 3 (by decide) l3).trans (hpv 3 l3)
          refine wpOp_value (v := .bool true) (W' := W) rfl rfl ?_ (hK _ _ (LKeep.refl _ _ _) rfl)
          go_simp
          all_goals (first | rfl | (simp; done) | (simp; omega))
         | 5, hoi, hom =>
          have l4 := haft _ rfl ⟨4, .data⟩ (by simp) rfl
          have s4 : ao.tmps[143]?.getD undef = .bool true := (hU.slot 4 (by decide) l4).trans (hpv 4 l4)
          refine wpOp_value (v := .bool true) (W' := W) rfl rfl ?_ (hK _ _ (LKeep.refl _ _ _) rfl)
          go_simp
         | 6, hoi, hom =>
          have l5 := haft _ rfl ⟨5, .guard⟩ (by simp) rfl
          have s5 : ao.tmps[144]?.getD undef = .bool true := (hU.slot 5 (by decide) l5).trans (hpv 5 l5)
          have z8 : ao.tmps[8]?.getD undef = .pointer (some ⟨ggcs, 0, none⟩) := hU.same 8 (by decide)
          refine wpOp_wanted (v := .pointer (some ⟨ggcs, 1, none⟩)) (W' := W) rfl ?_ ?_ (hK _ _ (LKeep.refl _ _ _) rfl)
          · refine wanted_yes (j := 5) (d := 144) ?_ ?_ s5 <;> rfl
          go_simp
         | 7, hoi, hom =>
          have l5 := haft _ rfl ⟨5, .guard⟩ (by simp) rfl
          have s5 : ao.tmps[144]?.getD undef = .bool true := (hU.slot 5 (by decide) l5).trans (hpv 5 l5)
          have l6 := haft _ rfl ⟨6, .data⟩ (by simp) rfl
          have s6 : ao.tmps[145]?.getD undef = .pointer (some ⟨ggcs, 1, none⟩) := (hU.slot 6 (by decide) l6).trans (hpv 6 l6)
          have y0 := (hk.cell (b := ggcs) (o := 1) (gcs) (fun h => h)).trans (cs1)
          refine wpOp_wanted (v := .int .i64 s2) (W' := W) rfl ?_ ?_ (hK _ _ (LKeep.refl _ _ _) rfl)
          · refine wanted_yes (j := 5) (d := 144) ?_ ?_ s5 <;> rfl
          go_simp
         | 8, hoi, hom =>
          have l5 := haft _ rfl ⟨5, .guard⟩ (by simp) rfl
          have s5 : ao.tmps[144]?.getD undef = .bool true := (hU.slot 5 (by decide) l5).trans (hpv 5 l5)
          have z13 : ao.tmps[13]?.getD undef = .pointer (some ⟨gA, 0, none⟩) := hU.same 13 (by decide)
          refine wpOp_wanted (v := .pointer (some ⟨gA, 1, none⟩)) (W' := W) rfl ?_ ?_ (hK _ _ (LKeep.refl _ _ _) rfl)
          · refine wanted_yes (j := 5) (d := 144) ?_ ?_ s5 <;> rfl
          go_simp
         | 9, hoi, hom =>
          have l5 := haft _ rfl ⟨5, .guard⟩ (by simp) rfl
          have s5 : ao.tmps[144]?.getD undef = .bool true := (hU.slot 5 (by decide) l5).trans (hpv 5 l5)
          have l8 := haft _ rfl ⟨8, .data⟩ (by simp) rfl
          have s8 : ao.tmps[147]?.getD undef = .pointer (some ⟨gA, 1, none⟩) := (hU.slot 8 (by decide) l8).trans (hpv 8 l8)
          have y0 := (hk.cell (b := gA) (o := 1) (gcb) (fun h => h)).trans (cb1)
          refine wpOp_wanted (v := .int .i64 z2) (W' := W) rfl ?_ ?_ (hK _ _ (LKeep.refl _ _ _) rfl)
          · refine wanted_yes (j := 5) (d := 144) ?_ ?_ s5 <;> rfl
          go_simp
         | 10, hoi, hom =>
          have l5 := haft _ rfl ⟨5, .guard⟩ (by simp) rfl
          have s5 : ao.tmps[144]?.getD undef = .bool true := (hU.slot 5 (by decide) l5).trans (hpv 5 l5)
          have z2 : ao.tmps[2]?.getD undef = .pointer (some ⟨w.heap.size, 0, none⟩) := hU.same 2 (by decide)
          refine wpOp_wanted (v := .pointer (some ⟨w.heap.size, 0, none⟩)) (W' := W) rfl ?_ ?_ (hK _ _ (LKeep.refl _ _ _) rfl)
          · refine wanted_yes (j := 5) (d := 144) ?_ ?_ s5 <;> rfl
          go_simp
         | 11, hoi, hom =>
          have l5 := haft _ rfl ⟨5, .guard⟩ (by simp) rfl
          have s5 : ao.tmps[144]?.getD undef = .bool true := (hU.slot 5 (by decide) l5).trans (hpv 5 l5)
          have l10 := haft _ rfl ⟨10, .data⟩ (by simp) rfl
          have s10 : ao.tmps[149]?.getD undef = .pointer (some ⟨w.heap.size, 0, none⟩) := (hU.slot 10 (by decide) l10).trans (hpv 10 l10)
          have y0 := (hk.cell (b := w.heap.size) (o := 0) (gx) (fun h => h)).trans (x0)
          refine wpOp_wanted (v := .slice (some ⟨g2, o2, none⟩) b.steps.length a.c1) (W' := W) rfl ?_ ?_ (hK _ _ (LKeep.refl _ _ _) rfl)
          · refine wanted_yes (j := 5) (d := 144) ?_ ?_ s5 <;> rfl
          go_simp
         | 12, hoi, hom =>
          have l5 := haft _ rfl ⟨5, .guard⟩ (by simp) rfl
          have s5 : ao.tmps[144]?.getD undef = .bool true := (hU.slot 5 (by decide) l5).trans (hpv 5 l5)
          have z7 : ao.tmps[7]?.getD undef = .int .i64 (n : Nat) := hU.same 7 (by decide)
          refine wpOp_wanted (v := .int .i64 (n : Nat)) (W' := W) rfl ?_ ?_ (hK _ _ (LKeep.refl _ _ _) rfl)
          · refine wanted_yes (j := 5) (d := 144) ?_ ?_ s5 <;> rfl
          go_simp
         | 13, hoi, hom =>
          have l5 := haft _ rfl ⟨5, .guard⟩ (by simp) rfl
          have s5 : ao.tmps[144]?.getD undef = .bool true := (hU.slot 5 (by decide) l5).trans (hpv 5 l5)
          have l11 := haft _ rfl ⟨11, .data⟩ (by simp) rfl
          have s11 : ao.tmps[150]?.getD undef = .slice (some ⟨g2, o2, none⟩) b.steps.length a.c1 := (hU.slot 11 (by decide) l11).trans (hpv 11 l11)
          have l12 := haft _ rfl ⟨12, .data⟩ (by simp) rfl
          have s12 : ao.tmps[151]?.getD undef = .int .i64 (n : Nat) := (hU.slot 12 (by decide) l12).trans (hpv 12 l12)
          refine wpOp_wanted (v := .pointer (some ⟨g2, o2 + n * 3, none⟩)) (W' := W) rfl ?_ ?_ (hK _ _ (LKeep.refl _ _ _) rfl)
          · refine wanted_yes (j := 5) (d := 144) ?_ ?_ s5 <;> rfl
          go_simp
         | 14, hoi, hom =>
          have l5 := haft _ rfl ⟨5, .guard⟩ (by simp) rfl
          have s5 : ao.tmps[144]?.getD undef = .bool true := (hU.slot 5 (by decide) l5).trans (hpv 5 l5)
          have l13 := haft _ rfl ⟨13, .data⟩ (by simp) rfl
          have s13 : ao.tmps[152]?.getD undef = .pointer (some ⟨g2, o2 + n * 3, none⟩) := (hU.slot 13 (by decide) l13).trans (hpv 13 l13)
          refine wpOp_wanted (v := .pointer (some ⟨g2, o2 + n * 3 + 2, none⟩)) (W' := W) rfl ?_ ?_ (hK _ _ (LKeep.refl _ _ _) rfl)
          · refine wanted_yes (j := 5) (d := 144) ?_ ?_ s5 <;> rfl
          go_simp
         | 15, hoi, hom =>
          have l5 := haft _ rfl ⟨5, .guard⟩ (by simp) rfl
          have s5 : ao.tmps[144]?.getD undef = .bool true := (hU.slot 5 (by decide) l5).trans (hpv 5 l5)
          have l14 := haft _ rfl ⟨14, .data⟩ (by simp) rfl
          have s14 : ao.tmps[153]?.getD undef = .pointer (some ⟨g2, o2 + n * 3 + 2, none⟩) := (hU.slot 14 (by decide) l14).trans (hpv 14 l14)
          have y0 := (hk.cell (b := g2) (o := o2 + n * 3 + 2) (hg2) (fun h => h)).trans (q2)
          refine wpOp_wanted (v := .int .i64 lo) (W' := W) rfl ?_ ?_ (hK _ _ (LKeep.refl _ _ _) rfl)
          · refine wanted_yes (j := 5) (d := 144) ?_ ?_ s5 <;> rfl
          go_simp
         | 16, hoi, hom =>
          have l5 := haft _ rfl ⟨5, .guard⟩ (by simp) rfl
          have s5 : ao.tmps[144]?.getD undef = .bool true := (hU.slot 5 (by decide) l5).trans (hpv 5 l5)
          have l9 := haft _ rfl ⟨9, .data⟩ (by simp) rfl
          have s9 : ao.tmps[148]?.getD undef = .int .i64 z2 := (hU.slot 9 (by decide) l9).trans (hpv 9 l9)
          have l15 := haft _ rfl ⟨15, .data⟩ (by simp) rfl
          have s15 : ao.tmps[154]?.getD undef = .int .i64 lo := (hU.slot 15 (by decide) l15).trans (hpv 15 l15)
          refine wpOp_wanted (v := .int .i64 (z2 + lo)) (W' := W) rfl ?_ ?_ (hK _ _ (LKeep.refl _ _ _) rfl)
          · refine wanted_yes (j := 5) (d := 144) ?_ ?_ s5 <;> rfl
          go_simp
          all_goals (exact IntWalk.i64_in _ (by omega))
         | 17, hoi, hom =>
          have l5 := haft _ rfl ⟨5, .guard⟩ (by simp) rfl
          have s5 : ao.tmps[144]?.getD undef = .bool true := (hU.slot 5 (by decide) l5).trans (hpv 5 l5)
          have l7 := haft _ rfl ⟨7, .data⟩ (by simp) rfl
          have s7 : ao.tmps[146]?.getD undef = .int .i64 s2 := (hU.slot 7 (by decide) l7).trans (hpv 7 l7)
          have l16 := haft _ rfl ⟨16, .data⟩ (by simp) rfl
          have s16 : ao.tmps[155]?.getD undef = .int .i64 (z2 + lo) := (hU.slot 16 (by decide) l16).trans (hpv 16 l16)
          refine wpOp_wanted (v := .bool true) (W' := W) rfl ?_ ?_ (hK _ _ (LKeep.refl _ _ _) rfl)
          · refine wanted_yes (j := 5) (d := 144) ?_ ?_ s5 <;> rfl
          go_simp
          all_goals (first | rfl | (simp; done) | (simp; omega))
         | 18, hoi, hom =>
          have l5 := haft _ rfl ⟨5, .data⟩ (by simp) rfl
          have s5 : ao.tmps[144]?.getD undef = .bool true := (hU.slot 5 (by decide) l5).trans (hpv 5 l5)
          have l17 := haft _ rfl ⟨17, .data⟩ (by simp) rfl
          have s17 : ao.tmps[156]?.getD undef = .bool true := (hU.slot 17 (by decide) l17).trans (hpv 17 l17)
          refine wpOp_value (v := .bool true) (W' := W) rfl rfl ?_ (hK _ _ (LKeep.refl _ _ _) rfl)
          go_simp
         | 19, hoi, hom =>
          have l18 := haft _ rfl ⟨18, .data⟩ (by simp) rfl
          have s18 : ao.tmps[157]?.getD undef = .bool true := (hU.slot 18 (by decide) l18).trans (hpv 18 l18)
          refine wpOp_value (v := .bool true) (W' := W) rfl rfl ?_ (hK _ _ (LKeep.refl _ _ _) rfl)
          go_simp
         | 20, hoi, hom =>
          have l19 := haft _ rfl ⟨19, .guard⟩ (by simp) rfl
          have s19 : ao.tmps[158]?.getD undef = .bool true := (hU.slot 19 (by decide) l19).trans (hpv 19 l19)
          have z10 : ao.tmps[10]?.getD undef = .pointer (some ⟨ggcp, 0, none⟩) := hU.same 10 (by decide)
          refine wpOp_wanted (v := .pointer (some ⟨ggcp, 0, none⟩)) (W' := W) rfl ?_ ?_ (hK _ _ (LKeep.refl _ _ _) rfl)
          · refine wanted_yes (j := 19) (d := 158) ?_ ?_ s19 <;> rfl
          go_simp
         | 21, hoi, hom =>
          have l19 := haft _ rfl ⟨19, .guard⟩ (by simp) rfl
          have s19 : ao.tmps[158]?.getD undef = .bool true := (hU.slot 19 (by decide) l19).trans (hpv 19 l19)
          have l20 := haft _ rfl ⟨20, .data⟩ (by simp) rfl
          have s20 : ao.tmps[159]?.getD undef = .pointer (some ⟨ggcp, 0, none⟩) := (hU.slot 20 (by decide) l20).trans (hpv 20 l20)
          have y0 := (hk.cell (b := ggcp) (o := 0) (gcp) (fun h => h)).trans (cp0)
          refine wpOp_wanted (v := .int .i64 p1) (W' := W) rfl ?_ ?_ (hK _ _ (LKeep.refl _ _ _) rfl)
          · refine wanted_yes (j := 19) (d := 158) ?_ ?_ s19 <;> rfl
          go_simp
         | 22, hoi, hom =>
          have l19 := haft _ rfl ⟨19, .guard⟩ (by simp) rfl
          have s19 : ao.tmps[158]?.getD undef = .bool true := (hU.slot 19 (by decide) l19).trans (hpv 19 l19)
          have z8 : ao.tmps[8]?.getD undef = .pointer (some ⟨ggcs, 0, none⟩) := hU.same 8 (by decide)
          refine wpOp_wanted (v := .pointer (some ⟨ggcs, 0, none⟩)) (W' := W) rfl ?_ ?_ (hK _ _ (LKeep.refl _ _ _) rfl)
          · refine wanted_yes (j := 19) (d := 158) ?_ ?_ s19 <;> rfl
          go_simp
         | 23, hoi, hom =>
          have l19 := haft _ rfl ⟨19, .guard⟩ (by simp) rfl
          have s19 : ao.tmps[158]?.getD undef = .bool true := (hU.slot 19 (by decide) l19).trans (hpv 19 l19)
          have l22 := haft _ rfl ⟨22, .data⟩ (by simp) rfl
          have s22 : ao.tmps[161]?.getD undef = .pointer (some ⟨ggcs, 0, none⟩) := (hU.slot 22 (by decide) l22).trans (hpv 22 l22)
          have y0 := (hk.cell (b := ggcs) (o := 0) (gcs) (fun h => h)).trans (cs0)
          refine wpOp_wanted (v := .int .i64 s1) (W' := W) rfl ?_ ?_ (hK _ _ (LKeep.refl _ _ _) rfl)
          · refine wanted_yes (j := 19) (d := 158) ?_ ?_ s19 <;> rfl
          go_simp
         | 24, hoi, hom =>
          have l19 := haft _ rfl ⟨19, .guard⟩ (by simp) rfl
          have s19 : ao.tmps[158]?.getD undef = .bool true := (hU.slot 19 (by decide) l19).trans (hpv 19 l19)
          have z13 : ao.tmps[13]?.getD undef = .pointer (some ⟨gA, 0, none⟩) := hU.same 13 (by decide)
          refine wpOp_wanted (v := .pointer (some ⟨gA, 1, none⟩)) (W' := W) rfl ?_ ?_ (hK _ _ (LKeep.refl _ _ _) rfl)
          · refine wanted_yes (j := 19) (d := 158) ?_ ?_ s19 <;> rfl
          go_simp
         | 25, hoi, hom =>
          have l19 := haft _ rfl ⟨19, .guard⟩ (by simp) rfl
          have s19 : ao.tmps[158]?.getD undef = .bool true := (hU.slot 19 (by decide) l19).trans (hpv 19 l19)
          have l24 := haft _ rfl ⟨24, .data⟩ (by simp) rfl
          have s24 : ao.tmps[163]?.getD undef = .pointer (some ⟨gA, 1, none⟩) := (hU.slot 24 (by decide) l24).trans (hpv 24 l24)
          have y0 := (hk.cell (b := gA) (o := 1) (gcb) (fun h => h)).trans (cb1)
          refine wpOp_wanted (v := .int .i64 z2) (W' := W) rfl ?_ ?_ (hK _ _ (LKeep.refl _ _ _) rfl)
          · refine wanted_yes (j := 19) (d := 158) ?_ ?_ s19 <;> rfl
          go_simp
         | 26, hoi, hom =>
          have l19 := haft _ rfl ⟨19, .guard⟩ (by simp) rfl
          have s19 : ao.tmps[158]?.getD undef = .bool true := (hU.slot 19 (by decide) l19).trans (hpv 19 l19)
          have l23 := haft _ rfl ⟨23, .data⟩ (by simp) rfl
          have s23 : ao.tmps[162]?.getD undef = .int .i64 s1 := (hU.slot 23 (by decide) l23).trans (hpv 23 l23)
          have l25 := haft _ rfl ⟨25, .data⟩ (by simp) rfl
          have s25 : ao.tmps[164]?.getD undef = .int .i64 z2 := (hU.slot 25 (by decide) l25).trans (hpv 25 l25)
          refine wpOp_wanted (v := .int .i64 (s1 - z2)) (W' := W) rfl ?_ ?_ (hK _ _ (LKeep.refl _ _ _) rfl)
          · refine wanted_yes (j := 19) (d := 158) ?_ ?_ s19 <;> rfl
          go_simp
          all_goals (exact IntWalk.i64_in _ (by omega))
         | 27, hoi, hom =>
          have l19 := haft _ rfl ⟨19, .guard⟩ (by simp) rfl
          have s19 : ao.tmps[158]?.getD undef = .bool true := (hU.slot 19 (by decide) l19).trans (hpv 19 l19)
          have l21 := haft _ rfl ⟨21, .data⟩ (by simp) rfl
          have s21 : ao.tmps[160]?.getD undef = .int .i64 p1 := (hU.slot 21 (by decide) l21).trans (hpv 21 l21)
          have l26 := haft _ rfl ⟨26, .data⟩ (by simp) rfl
          have s26 : ao.tmps[165]?.getD undef = .int .i64 (s1 - z2) := (hU.slot 26 (by decide) l26).trans (hpv 26 l26)
          refine wpOp_wanted (v := .bool true) (W' := W) rfl ?_ ?_ (hK _ _ (LKeep.refl _ _ _) rfl)
          · refine wanted_yes (j := 19) (d := 158) ?_ ?_ s19 <;> rfl
          go_simp
          all_goals (first | rfl | (simp; done) | (simp; omega))
         | 28, hoi, hom =>
          have l19 := haft _ rfl ⟨19, .data⟩ (by simp) rfl
          have s19 : ao.tmps[158]?.getD undef = .bool true := (hU.slot 19 (by decide) l19).trans (hpv 19 l19)
          have l27 := haft _ rfl ⟨27, .data⟩ (by simp) rfl
          have s27 : ao.tmps[166]?.getD undef = .bool true := (hU.slot 27 (by decide) l27).trans (hpv 27 l27)
          refine wpOp_value (v := .bool true) (W' := W) rfl rfl ?_ (hK _ _ (LKeep.refl _ _ _) rfl)
          go_simp
         | 29, hoi, hom =>
          have l28 := haft _ rfl ⟨28, .data⟩ (by simp) rfl
          have s28 : ao.tmps[167]?.getD undef = .bool true := (hU.slot 28 (by decide) l28).trans (hpv 28 l28)
          refine wpOp_value (v := .bool true) (W' := W) rfl rfl ?_ (hK _ _ (LKeep.refl _ _ _) rfl)
          go_simp
         | 30, hoi, hom =>
          have l29 := haft _ rfl ⟨29, .guard⟩ (by simp) rfl
          have s29 : ao.tmps[168]?.getD undef = .bool true := (hU.slot 29 (by decide) l29).trans (hpv 29 l29)
          have z10 : ao.tmps[10]?.getD undef = .pointer (some ⟨ggcp, 0, none⟩) := hU.same 10 (by decide)
          refine wpOp_wanted (v := .pointer (some ⟨ggcp, 1, none⟩)) (W' := W) rfl ?_ ?_ (hK _ _ (LKeep.refl _ _ _) rfl)
          · refine wanted_yes (j := 29) (d := 168) ?_ ?_ s29 <;> rfl
          go_simp
         | 31, hoi, hom =>
          have l29 := haft _ rfl ⟨29, .guard⟩ (by simp) rfl
          have s29 : ao.tmps[168]?.getD undef = .bool true := (hU.slot 29 (by decide) l29).trans (hpv 29 l29)
          have l30 := haft _ rfl ⟨30, .data⟩ (by simp) rfl
          have s30 : ao.tmps[169]?.getD undef = .pointer (some ⟨ggcp, 1, none⟩) := (hU.slot 30 (by decide) l30).trans (hpv 30 l30)
          have y0 := (hk.cell (b := ggcp) (o := 1) (gcp) (fun h => h)).trans (cp1)
          refine wpOp_wanted (v := .int .i64 p2) (W' := W) rfl ?_ ?_ (hK _ _ (LKeep.refl _ _ _) rfl)
          · refine wanted_yes (j := 29) (d := 168) ?_ ?_ s29 <;> rfl
          go_simp
         | 32, hoi, hom =>
          have l29 := haft _ rfl ⟨29, .guard⟩ (by simp) rfl
          have s29 : ao.tmps[168]?.getD undef = .bool true := (hU.slot 29 (by decide) l29).trans (hpv 29 l29)
          have z8 : ao.tmps[8]?.getD undef = .pointer (some ⟨ggcs, 0, none⟩) := hU.same 8 (by decide)
          refine wpOp_wanted (v := .pointer (some ⟨ggcs, 1, none⟩)) (W' := W) rfl ?_ ?_ (hK _ _ (LKeep.refl _ _ _) rfl)
          · refine wanted_yes (j := 29) (d := 168) ?_ ?_ s29 <;> rfl
          go_simp
         | 33, hoi, hom =>
          have l29 := haft _ rfl ⟨29, .guard⟩ (by simp) rfl
          have s29 : ao.tmps[168]?.getD undef = .bool true := (hU.slot 29 (by decide) l29).trans (hpv 29 l29)
          have l32 := haft _ rfl ⟨32, .data⟩ (by simp) rfl
          have s32 : ao.tmps[171]?.getD undef = .pointer (some ⟨ggcs, 1, none⟩) := (hU.slot 32 (by decide) l32).trans (hpv 32 l32)
          have y0 := (hk.cell (b := ggcs) (o := 1) (gcs) (fun h => h)).trans (cs1)
          refine wpOp_wanted (v := .int .i64 s2) (W' := W) rfl ?_ ?_ (hK _ _ (LKeep.refl _ _ _) rfl)
          · refine wanted_yes (j := 29) (d := 168) ?_ ?_ s29 <;> rfl
          go_simp
         | 34, hoi, hom =>
          have l29 := haft _ rfl ⟨29, .guard⟩ (by simp) rfl
          have s29 : ao.tmps[168]?.getD undef = .bool true := (hU.slot 29 (by decide) l29).trans (hpv 29 l29)
          have z13 : ao.tmps[13]?.getD undef = .pointer (some ⟨gA, 0, none⟩) := hU.same 13 (by decide)
          refine wpOp_wanted (v := .pointer (some ⟨gA, 0, none⟩)) (W' := W) rfl ?_ ?_ (hK _ _ (LKeep.refl _ _ _) rfl)
          · refine wanted_yes (j := 29) (d := 168) ?_ ?_ s29 <;> rfl
          go_simp
         | 35, hoi, hom =>
          have l29 := haft _ rfl ⟨29, .guard⟩ (by simp) rfl
          have s29 : ao.tmps[168]?.getD undef = .bool true := (hU.slot 29 (by decide) l29).trans (hpv 29 l29)
          have l34 := haft _ rfl ⟨34, .data⟩ (by simp) rfl
          have s34 : ao.tmps[173]?.getD undef = .pointer (some ⟨gA, 0, none⟩) := (hU.slot 34 (by decide) l34).trans (hpv 34 l34)
          have y0 := (hk.cell (b := gA) (o := 0) (gcb) (fun h => h)).trans (cb0)
          refine wpOp_wanted (v := .int .i64 z1) (W' := W) rfl ?_ ?_ (hK _ _ (LKeep.refl _ _ _) rfl)
          · refine wanted_yes (j := 29) (d := 168) ?_ ?_ s29 <;> rfl
          go_simp
         | 36, hoi, hom =>
          have l29 := haft _ rfl ⟨29, .guard⟩ (by simp) rfl
          have s29 : ao.tmps[168]?.getD undef = .bool true := (hU.slot 29 (by decide) l29).trans (hpv 29 l29)
          have l33 := haft _ rfl ⟨33, .data⟩ (by simp) rfl
          have s33 : ao.tmps[172]?.getD undef = .int .i64 s2 := (hU.slot 33 (by decide) l33).trans (hpv 33 l33)
          have l35 := haft _ rfl ⟨35, .data⟩ (by simp) rfl
          have s35 : ao.tmps[174]?.getD undef = .int .i64 z1 := (hU.slot 35 (by decide) l35).trans (hpv 35 l35)
          refine wpOp_wanted (v := .int .i64 (s2 - z1)) (W' := W) rfl ?_ ?_ (hK _ _ (LKeep.refl _ _ _) rfl)
          · refine wanted_yes (j := 29) (d := 168) ?_ ?_ s29 <;> rfl
          go_simp
          all_goals (exact IntWalk.i64_in _ (by omega))
         | 37, hoi, hom =>
          have l29 := haft _ rfl ⟨29, .guard⟩ (by simp) rfl
          have s29 : ao.tmps[168]?.getD undef = .bool true := (hU.slot 29 (by decide) l29).trans (hpv 29 l29)
          have l31 := haft _ rfl ⟨31, .data⟩ (by simp) rfl
          have s31 : ao.tmps[170]?.getD undef = .int .i64 p2 := (hU.slot 31 (by decide) l31).trans (hpv 31 l31)
          have l36 := haft _ rfl ⟨36, .data⟩ (by simp) rfl
          have s36 : ao.tmps[175]?.getD undef = .int .i64 (s2 - z1) := (hU.slot 36 (by decide) l36).trans (hpv 36 l36)
          refine wpOp_wanted (v := .bool true) (W' := W) rfl ?_ ?_ (hK _ _ (LKeep.refl _ _ _) rfl)
          · refine wanted_yes (j := 29) (d := 168) ?_ ?_ s29 <;> rfl
          go_simp
          all_goals (first | rfl | (simp; done) | (simp; omega))
         | 38, hoi, hom =>
          have l29 := haft _ rfl ⟨29, .data⟩ (by simp) rfl
          have s29 : ao.tmps[168]?.getD undef = .bool true := (hU.slot 29 (by decide) l29).trans (hpv 29 l29)
          have l37 := haft _ rfl ⟨37, .data⟩ (by simp) rfl
          have s37 : ao.tmps[176]?.getD undef = .bool true := (hU.slot 37 (by decide) l37).trans (hpv 37 l37)
          refine wpOp_value (v := .bool true) (W' := W) rfl rfl ?_ (hK _ _ (LKeep.refl _ _ _) rfl)
          go_simp
         | 39, hoi, hom =>
          have l38 := haft _ rfl ⟨38, .data⟩ (by simp) rfl
          have s38 : ao.tmps[177]?.getD undef = .bool true := (hU.slot 38 (by decide) l38).trans (hpv 38 l38)
          refine wpOp_value (v := .bool true) (W' := W) rfl rfl ?_ (hK _ _ (LKeep.refl _ _ _) rfl)
          go_simp
         | 40, hoi, hom =>
          have l39 := haft _ rfl ⟨39, .guard⟩ (by simp) rfl
          have s39 : ao.tmps[178]?.getD undef = .bool true := (hU.slot 39 (by decide) l39).trans (hpv 39 l39)
          have hc : Calls Tryz.prog 23 #[] W fun e w => e = .returned (.bool true) ∧ Below W.heap.size W w := awake12_any ((hk.cell (b := 0) (o := 0) hz0 (fun h => h)).trans HG.out) (Nat.lt_of_lt_of_le hz0 hk.size)
          refine wpOp_enterW (f := 23) (args := #[]) (W' := W) rfl ?_ ?_ ((hc).mono (fun e w'' h => ?_))
          · refine wanted_yes (j := 39) (d := 178) ?_ ?_ s39 <;> rfl
          · go_simp
          · obtain ⟨he, hbw⟩ := h
            exact ⟨_, he, hK _ _ (LKeep.below hbw (fun h => h)) rfl⟩
         | 41, hoi, hom =>
          have l39 := haft _ rfl ⟨39, .data⟩ (by simp) rfl
          have s39 : ao.tmps[178]?.getD undef = .bool true := (hU.slot 39 (by decide) l39).trans (hpv 39 l39)
          have l40 := haft _ rfl ⟨40, .data⟩ (by simp) rfl
          have s40 : ao.tmps[179]?.getD undef = .bool true := (hU.slot 40 (by decide) l40).trans (hpv 40 l40)
          refine wpOp_value (v := .bool true) (W' := W) rfl rfl ?_ (hK _ _ (LKeep.refl _ _ _) rfl)
          go_simp
         | 42, hoi, hom =>
          have l41 := haft _ rfl ⟨41, .data⟩ (by simp) rfl
          have s41 : ao.tmps[180]?.getD undef = .bool true := (hU.slot 41 (by decide) l41).trans (hpv 41 l41)
          refine wpOp_value (v := .bool true) (W' := W) rfl rfl ?_ (hK _ _ (LKeep.refl _ _ _) rfl)
          go_simp
         | oi + 43, hoi, hom => exact absurd (of_decide_eq_true hom) (by omega)
        case hend =>
         intro listed vs ao W hG hGU hk0 hpv hpre
         have hkk := (LKeep.drew (fun _ => False) (M := fun _ => True) u0 (fun h => h)).trans hk0
         have hk := hkk.1
         have hkm := hkk.2
         clear hkk
         have hT := hG.lst hpre 0 #[true, true, true, true, true, true, true, true, true, true, true, true, true, true, true, true, true, true, true, true, true, true, true, true, true, true, true, true, true, true, true, true, true, true, true, true, true, true, true, true, true, true, true] rfl (by kernel_rfl) (hpre 0 (by decide) (by decide))
         have h0 : ao.tmps[4]?.getD undef = vs 42 := hGU.slot 42 (by decide) (hpre 42 (by decide) (by decide))
         have hv : vs 42 = .bool true := hpv 42 (hpre 42 (by decide) (by decide))
         have hdf := hG.defers
         rw [hG.lo hT (k := 0) (by kernel_rfl)]
         subst hT
         refine wpAny_done (by kernel_rfl) ?_ _
         exact ⟨rfl, h0.trans hv, hdf, hk⟩
       case imp =>
        rintro ⟨tm, df⟩ W ⟨h0, hd, hk⟩
        simp only at h0 hd
        subst hd
        have HBZ := hide (HB.out.trans ((hk.below (B := u0.heap.size) (fun k h => h.elim) (Nat.le_refl _)).mono HB.out.size))
        clear hk
        go_wp2_with fail
        exact bodyPost_ret (v := .bool true) (by simp [results, Tryz.results12, go_sem, h0]) rfl ⟨rfl, HBZ.out⟩
end Go.Proofs.YtocdmkilnbpkdaaGreatDoor
