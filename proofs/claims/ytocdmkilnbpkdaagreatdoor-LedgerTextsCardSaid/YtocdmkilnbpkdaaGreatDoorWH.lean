/- A line that is a tally; the kinds of lines. -/
import Derived.Test.YtocdmkilnbpkdaaGreatDoorWG
import Derived.OwnWalkIn
import Derived.Laws.EntriesVeiled
import Derived.ArgAppend
import Derived.TacticsInMore
import Derived.Deep.DeepCutAuto
set_option linter.unusedVariables false
set_option linter.unusedSimpArgs false
namespace Go.Proofs.YtocdmkilnbpkdaaGreatDoor
open Go.RowKit
attribute [local go_sem] Oper.semAt_some

theorem clipT_any (A : Option Addr) (n c : Nat) (w : World) (h : n ≤ c ∧ c ≤ maxLen) (hA : A = none → n = 0) :
 Calls Tryz.prog 124 #[.slice A n c] w fun e w' => e = .returned (.slice A n n) ∧ w' = w := by
 unfold maxLen at h
 go_enter Tryz.func124, Tryz.ntmps124
 cases A with
 | none =>
  obtain rfl := hA rfl
  go_wp2
  go_ret
  exact ⟨rfl, rfl⟩
 | some p =>
  go_wp2
  go_ret
  exact ⟨rfl, rfl⟩
set_option maxHeartbeats 4000000 in
set_option maxRecDepth 100000 in
theorem readTally_any {W0 : World} {q cq za zb rb mb : Nat} {b : Book} {a : BA} {w0 w1 w2 w3 : ByteArray} (hr : RdI W0 rb mb b a) (hw : WordsAt W0 q cq za zb rb mb w0 w1 w2 w3) (hl : b.tallies.length ≤ 1000) (hcq : 4 ≤ cq) :
 Calls Tryz.prog 123 #[.slice (some ⟨q, 0, none⟩) 4 cq, .pointer (some ⟨za, 0, none⟩), .pointer (some ⟨zb, 0, none⟩)] W0 fun e w' => LineE (tallyP b w1 w2 w3) a rb mb W0 e w' := by
 have HR := hide hr
 have HW := hide hw
 obtain ⟨hs1, hs2, hs3⟩ := hw.s
 have y1 := hw.kw.at_ 1
 have y2 := hw.kw.at_ 2
 have y3 := hw.kw.at_ 3
 have n0 := hw.k2.at_ 0
 have z0 := hw.k1.at_ 0
 have hzq := hw.kw.lt
 have hzb := hw.k2.lt
 have hza := hw.k1.lt
 simp only [List.getElem?_toArray, List.getElem?_cons_zero, List.getElem?_cons_succ] at y1 y2 y3 n0 z0
 clear hr hw
 go_enter Tryz.func123, Tryz.ntmps123
 go_upto_region 0 with fail
 refine wp_region_rel5 (dst := fun oi => [5, 6, 7, 8, 9, 10, 11, 12, 13, 14, 15, 16, 17, 18, 19, 20, 4, 3].getD oi 0) (mono := fun oi => decide (oi < 17)) (pre := fun oi => decide (oi < 17)) (R := LKeep (fun _ => False) (fun _ => True))
  (Pv := fun oi v W => match oi with
   | 0 => v = .pointer (some ⟨rb, 0, none⟩)
   | 1 => v = .slice (some ⟨q, 0, none⟩) 4 cq
   | 2 => v = .pointer (some ⟨q, 1, none⟩)
   | 3 => v = .string w1
   | 4 => v = .int .i64 (((ixOf b.steps w1).getD 0 : Nat) : Int) ∧ (ixOf b.steps w1).isSome = true
   | 5 => v = .func (.func 119) #[.pointer (some ⟨rb, 0, none⟩)] #[]
   | 6 => v = .slice (some ⟨q, 0, none⟩) 4 cq
   | 7 => v = .pointer (some ⟨q, 2, none⟩)
   | 8 => v = .string w2
   | 9 => v = .int .i64 (((numP w2).getD 0 : Nat) : Int) ∧ (numP w2).isSome = true
   | 10 => v = .func (.func 119) #[.pointer (some ⟨rb, 0, none⟩)] #[]
   | 11 => v = .slice (some ⟨q, 0, none⟩) 4 cq
   | 12 => v = .pointer (some ⟨q, 3, none⟩)
   | 13 => v = .string w3
   | 14 => v = .int .i64 (((numP w3).getD 0 : Nat) : Int) ∧ (numP w3).isSome = true
   | 15 => v = .agg #[.int .i64 (((ixOf b.steps w1).getD 0 : Nat) : Int), .int .i64 (((numP w2).getD 0 : Nat) : Int), .int .i64 (((numP w3).getD 0 : Nat) : Int)]
   | 16 => ∃ gl cp, v = .pointer (some ⟨gl, 0, none⟩) ∧ MadeB W W0.heap.size gl cp 50 #[.int .i64 0, .int .i64 0, .int .i64 0]
   | _ => True) (by kernel_rfl) (by kernel_rfl) (LKeep.refl _ _) (fun _ _ _ h h' => h.trans h') ?hsta ?hstepa ?henda
 case hsta =>
  intro oi v W W' h hk
  match oi, h with
  | 0, h => exact h
  | 1, h => exact h
  | 2, h => exact h
  | 3, h => exact h
  | 4, h => exact h
  | 5, h => exact h
  | 6, h => exact h
  | 7, h => exact h
  | 8, h => exact h
  | 9, h => exact h
  | 10, h => exact h
  | 11, h => exact h
  | 12, h => exact h
  | 13, h => exact h
  | 14, h => exact h
  | 15, h => exact h
  | 16, h => obtain ⟨gl, cp, h1, h2⟩ := h; exact ⟨gl, cp, h1, h2.next (hk.1.below (B := W.heap.size) (fun k h => h.elim) (Nat.le_refl _))⟩
  | oi + 17, h => exact trivial
 case hstepa =>
  intro oi hoi hom listed vs ao W hU hk0 hpv haft Ko hK
  have hkk := (LKeep.drew (fun _ => False) (M := fun _ => True) W0 (fun h => h)).trans hk0
  have hk := hkk.1
  have hkm := hkk.2
  clear hkk
  match oi, hoi, hom with
  | 0, hoi, hom =>
   have z1 : ao.tmps[1]?.getD undef = .pointer (some ⟨za, 0, none⟩) := hU.same 1 (by decide)
   have y0 := (hk.cell (b := za) (o := 0) (hza) (fun h => h)).trans (z0)
   refine wpOp_value (v := .pointer (some ⟨rb, 0, none⟩)) (W' := W) rfl rfl ?_ (hK _ _ (LKeep.refl _ _ _) rfl)
   go_simp
  | 1, hoi, hom =>
   have z0 : ao.tmps[0]?.getD undef = .slice (some ⟨q, 0, none⟩) 4 cq := hU.same 0 (by decide)
   refine wpOp_value (v := .slice (some ⟨q, 0, none⟩) 4 cq) (W' := W) rfl rfl ?_ (hK _ _ (LKeep.refl _ _ _) rfl)
   go_simp
  | 2, hoi, hom =>
   have l1 := haft _ rfl ⟨1, .data⟩ (by simp) rfl
   have s1 : ao.tmps[6]?.getD undef = .slice (some ⟨q, 0, none⟩) 4 cq := (hU.slot 1 (by decide) l1).trans (hpv 1 l1)
   refine wpOp_value (v := .pointer (some ⟨q, 1, none⟩)) (W' := W) rfl rfl ?_ (hK _ _ (LKeep.refl _ _ _) rfl)
   go_simp
  | 3, hoi, hom =>
   have l2 := haft _ rfl ⟨2, .data⟩ (by simp) rfl
   have s2 : ao.tmps[7]?.getD undef = .pointer (some ⟨q, 1, none⟩) := (hU.slot 2 (by decide) l2).trans (hpv 2 l2)
   have y0 := (hk.cell (b := q) (o := 1) (hzq) (fun h => h)).trans (y1)
   refine wpOp_value (v := .string w1) (W' := W) rfl rfl ?_ (hK _ _ (LKeep.refl _ _ _) rfl)
   go_simp
  | 4, hoi, hom =>
   have l0 := haft _ rfl ⟨0, .data⟩ (by simp) rfl
   have s0 : ao.tmps[5]?.getD undef = .pointer (some ⟨rb, 0, none⟩) := (hU.slot 0 (by decide) l0).trans (hpv 0 l0)
   have l3 := haft _ rfl ⟨3, .data⟩ (by simp) rfl
   have s3 : ao.tmps[8]?.getD undef = .string w1 := (hU.slot 3 (by decide) l3).trans (hpv 3 l3)
   refine wpOp_enterP (f := 121) (args := #[.pointer (some ⟨rb, 0, none⟩), .string w1]) (W' := W) rfl rfl ?_ ((rstep_any (HR.out.k.keep hk (fun h => h)) (HR.out.m.block (hk.block _ HR.out.m.lt (fun h => h))) w1 (by unfold maxLen; omega)).mono (fun e w'' h => ?_))
   · go_simp
   · obtain ⟨hne, rfl⟩ := h
     rcases numE_cases hne with ⟨nn, ho, he⟩ | ⟨ho, he⟩
     · exact .inl ⟨_, he, hK _ _ (LKeep.refl _ _ _) ⟨by rw [ho]; rfl, by rw [ho]; rfl⟩⟩
     · refine .inr ⟨_, he, ?_⟩
       exact ⟨hU.defers, (hk.mono (fun k _ h => h.elim)), .inr ⟨by rw [tallyP, ho], rfl⟩⟩
  | 5, hoi, hom =>
   have z2 : ao.tmps[2]?.getD undef = .pointer (some ⟨zb, 0, none⟩) := hU.same 2 (by decide)
   have y0 := (hk.cell (b := zb) (o := 0) (hzb) (fun h => h)).trans (n0)
   refine wpOp_value (v := .func (.func 119) #[.pointer (some ⟨rb, 0, none⟩)] #[]) (W' := W) rfl rfl ?_ (hK _ _ (LKeep.refl _ _ _) rfl)
   go_simp
  | 6, hoi, hom =>
   have z0 : ao.tmps[0]?.getD undef = .slice (some ⟨q, 0, none⟩) 4 cq := hU.same 0 (by decide)
   refine wpOp_value (v := .slice (some ⟨q, 0, none⟩) 4 cq) (W' := W) rfl rfl ?_ (hK _ _ (LKeep.refl _ _ _) rfl)
   go_simp
  | 7, hoi, hom =>
   have l6 := haft _ rfl ⟨6, .data⟩ (by simp) rfl
   have s6 : ao.tmps[11]?.getD undef = .slice (some ⟨q, 0, none⟩) 4 cq := (hU.slot 6 (by decide) l6).trans (hpv 6 l6)
   refine wpOp_value (v := .pointer (some ⟨q, 2, none⟩)) (W' := W) rfl rfl ?_ (hK _ _ (LKeep.refl _ _ _) rfl)
   go_simp
  | 8, hoi, hom =>
   have l7 := haft _ rfl ⟨7, .data⟩ (by simp) rfl
   have s7 : ao.tmps[12]?.getD undef = .pointer (some ⟨q, 2, none⟩) := (hU.slot 7 (by decide) l7).trans (hpv 7 l7)
   have y0 := (hk.cell (b := q) (o := 2) (hzq) (fun h => h)).trans (y2)
   refine wpOp_value (v := .string w2) (W' := W) rfl rfl ?_ (hK _ _ (LKeep.refl _ _ _) rfl)
   go_simp
  | 9, hoi, hom =>
   have l5 := haft _ rfl ⟨5, .data⟩ (by simp) rfl
   have s5 : ao.tmps[10]?.getD undef = .func (.func 119) #[.pointer (some ⟨rb, 0, none⟩)] #[] := (hU.slot 5 (by decide) l5).trans (hpv 5 l5)
   have l8 := haft _ rfl ⟨8, .data⟩ (by simp) rfl
   have s8 : ao.tmps[13]?.getD undef = .string w2 := (hU.slot 8 (by decide) l8).trans (hpv 8 l8)
   refine wpOp_enterP (f := 119) (args := #[.pointer (some ⟨rb, 0, none⟩), .string w2]) (W' := W) rfl rfl ?_ ((number_any _ w2 W (by omega)).mono (fun e w'' h => ?_))
   · go_simp
   · obtain ⟨hne, hbw⟩ := h
     rcases numE_cases hne with ⟨nn, ho, he⟩ | ⟨ho, he⟩
     · exact .inl ⟨_, he, hK _ _ (LKeep.below hbw (fun h => h)) ⟨by rw [ho]; rfl, by rw [ho]; rfl⟩⟩
     · refine .inr ⟨_, he, ?_⟩
       exact ⟨hU.defers, (hk.mono (fun k _ h => h.elim)).trans (Keep.of_below' hbw _), .inr ⟨by rw [tallyP]; cases ixOf b.steps w1 with | none => rfl | some i => simp only; rw [ho], rfl⟩⟩
  | 10, hoi, hom =>
   have z2 : ao.tmps[2]?.getD undef = .pointer (some ⟨zb, 0, none⟩) := hU.same 2 (by decide)
   have y0 := (hk.cell (b := zb) (o := 0) (hzb) (fun h => h)).trans (n0)
   refine wpOp_value (v := .func (.func 119) #[.pointer (some ⟨rb, 0, none⟩)] #[]) (W' := W) rfl rfl ?_ (hK _ _ (LKeep.refl _ _ _) rfl)
   go_simp
  | 11, hoi, hom =>
   have z0 : ao.tmps[0]?.getD undef = .slice (some ⟨q, 0, none⟩) 4 cq := hU.same 0 (by decide)
   refine wpOp_value (v := .slice (some ⟨q, 0, none⟩) 4 cq) (W' := W) rfl rfl ?_ (hK _ _ (LKeep.refl _ _ _) rfl)
   go_simp
  | 12, hoi, hom =>
   have l11 := haft _ rfl ⟨11, .data⟩ (by simp) rfl
   have s11 : ao.tmps[16]?.getD undef = .slice (some ⟨q, 0, none⟩) 4 cq := (hU.slot 11 (by decide) l11).trans (hpv 11 l11)
   refine wpOp_value (v := .pointer (some ⟨q, 3, none⟩)) (W' := W) rfl rfl ?_ (hK _ _ (LKeep.refl _ _ _) rfl)
   go_simp
  | 13, hoi, hom =>
   have l12 := haft _ rfl ⟨12, .data⟩ (by simp) rfl
   have s12 : ao.tmps[17]?.getD undef = .pointer (some ⟨q, 3, none⟩) := (hU.slot 12 (by decide) l12).trans (hpv 12 l12)
   have y0 := (hk.cell (b := q) (o := 3) (hzq) (fun h => h)).trans (y3)
   refine wpOp_value (v := .string w3) (W' := W) rfl rfl ?_ (hK _ _ (LKeep.refl _ _ _) rfl)
   go_simp
  | 14, hoi, hom =>
   have l10 := haft _ rfl ⟨10, .data⟩ (by simp) rfl
   have s10 : ao.tmps[15]?.getD undef = .func (.func 119) #[.pointer (some ⟨rb, 0, none⟩)] #[] := (hU.slot 10 (by decide) l10).trans (hpv 10 l10)
   have l13 := haft _ rfl ⟨13, .data⟩ (by simp) rfl
   have s13 : ao.tmps[18]?.getD undef = .string w3 := (hU.slot 13 (by decide) l13).trans (hpv 13 l13)
   refine wpOp_enterP (f := 119) (args := #[.pointer (some ⟨rb, 0, none⟩), .string w3]) (W' := W) rfl rfl ?_ ((number_any _ w3 W (by omega)).mono (fun e w'' h => ?_))
   · go_simp
   · obtain ⟨hne, hbw⟩ := h
     rcases numE_cases hne with ⟨nn, ho, he⟩ | ⟨ho, he⟩
     · exact .inl ⟨_, he, hK _ _ (LKeep.below hbw (fun h => h)) ⟨by rw [ho]; rfl, by rw [ho]; rfl⟩⟩
     · refine .inr ⟨_, he, ?_⟩
       exact ⟨hU.defers, (hk.mono (fun k _ h => h.elim)).trans (Keep.of_below' hbw _), .inr ⟨by rw [tallyP]; cases ixOf b.steps w1 with | none => rfl | some i => simp only; cases numP w2 with | none => rfl | some m => simp only; rw [ho], rfl⟩⟩
  | 15, hoi, hom =>
   have l4 := haft _ rfl { on := 4, ground := .data } (by simp) rfl
   obtain ⟨hv4, hp4⟩ := hpv 4 l4
   have s4 : ao.tmps[9]?.getD undef = vs 4 := hU.slot 4 (by decide) l4
   rw [hv4] at s4
   have l9 := haft _ rfl { on := 9, ground := .data } (by simp) rfl
   obtain ⟨hv9, hp9⟩ := hpv 9 l9
   have s9 : ao.tmps[14]?.getD undef = vs 9 := hU.slot 9 (by decide) l9
   rw [hv9] at s9
   have l14 := haft _ rfl { on := 14, ground := .data } (by simp) rfl
   obtain ⟨hv14, hp14⟩ := hpv 14 l14
   have s14 : ao.tmps[19]?.getD undef = vs 14 := hU.slot 14 (by decide) l14
   rw [hv14] at s14
   refine wpOp_value (v := .agg #[.int .i64 (((ixOf b.steps w1).getD 0 : Nat) : Int), .int .i64 (((numP w2).getD 0 : Nat) : Int), .int .i64 (((numP w3).getD 0 : Nat) : Int)]) (W' := W) rfl rfl ?_ (hK _ _ (LKeep.refl _ _ _) rfl)
   go_simp
  | 16, hoi, hom =>
   refine wpOp_value (v := .pointer (some ⟨W.heap.size, 0, none⟩)) (W' := (W.alloc (.cells #[.int .i64 0, .int .i64 0, .int .i64 0] 50))) rfl rfl ?_ (hK _ _ (LKeep.below ((Below.refl _ _).alloc (Nat.le_refl _) _) (fun h => h)) ⟨_, 0, rfl, ⟨Blk.made, hk.size⟩⟩)
   go_simp
  | oi + 17, hoi, hom => exact absurd (of_decide_eq_true hom) (by omega)
 case henda =>
  intro listed vs ao W hG hk0 hpv hpre
  have hkk := (LKeep.drew (fun _ => False) (M := fun _ => True) W0 (fun h => h)).trans hk0
  have hk := hkk.1
  have hkm := hkk.2
  clear hkk
  have hact := hG.act
  have hT := hG.lst hpre 0 #[true, true, true, true, true, true, true, true, true, true, true, true, true, true, true, true, true, false] rfl (by kernel_rfl) (hpre 0 (by decide) (by decide))
  rw [hG.ix hT (l := [0, 1, 2, 3, 4, 5, 6, 7, 8, 9, 10, 11, 12, 13, 14, 15, 16]) (by kernel_rfl)] at hact
  rw [hG.lo hT (k := 1) (by kernel_rfl)]
  have hv0 : vs 0 = .pointer (some ⟨rb, 0, none⟩) := hpv 0 (hpre 0 (by decide) (by decide))
  have hv1 : vs 1 = .slice (some ⟨q, 0, none⟩) 4 cq := hpv 1 (hpre 1 (by decide) (by decide))
  have hv2 : vs 2 = .pointer (some ⟨q, 1, none⟩) := hpv 2 (hpre 2 (by decide) (by decide))
  have hv3 : vs 3 = .string w1 := hpv 3 (hpre 3 (by decide) (by decide))
  obtain ⟨hv4, hp4⟩ := hpv 4 (hpre 4 (by decide) (by decide))
  have hv5 : vs 5 = .func (.func 119) #[.pointer (some ⟨rb, 0, none⟩)] #[] := hpv 5 (hpre 5 (by decide) (by decide))
  have hv6 : vs 6 = .slice (some ⟨q, 0, none⟩) 4 cq := hpv 6 (hpre 6 (by decide) (by decide))
  have hv7 : vs 7 = .pointer (some ⟨q, 2, none⟩) := hpv 7 (hpre 7 (by decide) (by decide))
  have hv8 : vs 8 = .string w2 := hpv 8 (hpre 8 (by decide) (by decide))
  obtain ⟨hv9, hp9⟩ := hpv 9 (hpre 9 (by decide) (by decide))
  have hv10 : vs 10 = .func (.func 119) #[.pointer (some ⟨rb, 0, none⟩)] #[] := hpv 10 (hpre 10 (by decide) (by decide))
  have hv11 : vs 11 = .slice (some ⟨q, 0, none⟩) 4 cq := hpv 11 (hpre 11 (by decide) (by decide))
  have hv12 : vs 12 = .pointer (some ⟨q, 3, none⟩) := hpv 12 (hpre 12 (by decide) (by decide))
  have hv13 : vs 13 = .string w3 := hpv 13 (hpre 13 (by decide) (by decide))
  obtain ⟨hv14, hp14⟩ := hpv 14 (hpre 14 (by decide) (by decide))
  have hv15 : vs 15 = .agg #[.int .i64 (((ixOf b.steps w1).getD 0 : Nat) : Int), .int .i64 (((numP w2).getD 0 : Nat) : Int), .int .i64 (((numP w3).getD 0 : Nat) : Int)] := hpv 15 (hpre 15 (by decide) (by decide))
  obtain ⟨gl16, cp16, hv16, hi16⟩ := hpv 16 (hpre 16 (by decide) (by decide))
  clear hpv hpre hG hk0
  obtain rfl : ao = _ := hact
  subst hT
  simp only [setAll, List.setIfInBounds_toArray, List.set_cons_succ, List.set_cons_zero, List.getD_cons_succ, List.getD_cons_zero]
  simp only [hv0, hv1, hv2, hv3, hv4, hv5, hv6, hv7, hv8, hv9, hv10, hv11, hv12, hv13, hv14, hv15, hv16]
  clear hv0 hv1 hv2 hv3 hv4 hv5 hv6 hv7 hv8 hv9 hv10 hv11 hv12 hv13 hv14 hv15 hv16
  have c0 := hi16.k.at_ 0
  have c1 := hi16.k.at_ 1
  have c2 := hi16.k.at_ 2
  have f0 := hi16.k.free 0
  have f1 := hi16.k.free 1
  have f2 := hi16.k.free 2
  simp only [List.getElem?_toArray, List.getElem?_cons_zero, List.getElem?_cons_succ] at c0 c1 c2
  refine wpAny_all (rs := [17]) (by kernel_rfl) (by simp) ?_
  intro i2 hi2
  obtain rfl : i2 = 17 := by simpa using hi2
  refine wpOp_skip (W' := ((W.setCell ⟨gl16, 0, none⟩ (.int .i64 (((ixOf b.steps w1).getD 0 : Nat) : Int))).setCell ⟨gl16, 1, none⟩ (.int .i64 (((numP w2).getD 0 : Nat) : Int))).setCell ⟨gl16, 2, none⟩ (.int .i64 (((numP w3).getD 0 : Nat) : Int))) rfl rfl ?_ ?_
  · go_simp
  refine wpAny_done (by kernel_rfl) ?_ _
  have b2 : Blk (((W.setCell ⟨gl16, 0, none⟩ (.int .i64 (((ixOf b.steps w1).getD 0 : Nat) : Int))).setCell ⟨gl16, 1, none⟩ (.int .i64 (((numP w2).getD 0 : Nat) : Int))).setCell ⟨gl16, 2, none⟩ (.int .i64 (((numP w3).getD 0 : Nat) : Int))) gl16 50 #[.int .i64 (((ixOf b.steps w1).getD 0 : Nat) : Int), .int .i64 (((numP w2).getD 0 : Nat) : Int), .int .i64 (((numP w3).getD 0 : Nat) : Int)] := ((hi16.k.store 0 _).store 1 _).store 2 _
  have hs : Keep (fun q => q = gl16) W (((W.setCell ⟨gl16, 0, none⟩ (.int .i64 (((ixOf b.steps w1).getD 0 : Nat) : Int))).setCell ⟨gl16, 1, none⟩ (.int .i64 (((numP w2).getD 0 : Nat) : Int))).setCell ⟨gl16, 2, none⟩ (.int .i64 (((numP w3).getD 0 : Nat) : Int))) := ((Keep.setCell _ _ _ (fun q => q = gl16) rfl).trans (Keep.setCell _ _ _ (fun q => q = gl16) rfl)).trans (Keep.setCell _ _ _ (fun q => q = gl16) rfl)
  generalize ((W.setCell ⟨gl16, 0, none⟩ (.int .i64 (((ixOf b.steps w1).getD 0 : Nat) : Int))).setCell ⟨gl16, 1, none⟩ (.int .i64 (((numP w2).getD 0 : Nat) : Int))).setCell ⟨gl16, 2, none⟩ (.int .i64 (((numP w3).getD 0 : Nat) : Int)) = V at *
  have hge := hi16.ge
  have hbV : Below W0.heap.size W0 V := ((hk.mono (S' := fun q => q = gl16) (fun k _ h => h.elim)).trans hs).below (B := W0.heap.size) (fun k h => by omega) (Nat.le_refl _)
  have HRV := hide (HR.out.next hbV)
  have HWV := hide (HW.out.next hbV)
  have HKV := hide (Keep.of_below' hbV (fun k => k = rb ∨ k = mb))
  obtain ⟨iv, hiv⟩ := Option.isSome_iff_exists.1 hp4
  obtain ⟨nv, hnv⟩ := Option.isSome_iff_exists.1 hp9
  obtain ⟨mv, hmv⟩ := Option.isSome_iff_exists.1 hp14
  rw [hiv, hnv, hmv] at b2
  have HQV : Hid (Blk V gl16 50 #[.int .i64 (iv : Int), .int .i64 (nv : Int), .int .i64 (mv : Int)]) := hide b2
  simp only [hiv, hnv, hmv, Option.getD_some]
  have HS := hide (show tallyP b w1 w2 w3 = some ⟨b.steps, (b.tallies ++ [(⟨(iv : Int), (nv : Int), (mv : Int)⟩ : Tally)])⟩ by rw [tallyP, hiv]; simp only; rw [hnv]; simp only; rw [hmv])
  clear hk hkm hs hbV b2 hi16 c0 c1 c2 f0 f1 f2 y1 y2 y3 n0 z0 hzq hzb hza hp4 hp9 hp14 hiv hnv hmv W
  generalize gl16 = gl at *
  have z0 := HWV.out.k1.at_ 0
  have r1 := HRV.out.k.at_ 1
  have q0 := HQV.out.at_ 0
  have q1 := HQV.out.at_ 1
  have q2 := HQV.out.at_ 2
  simp only [List.getElem?_toArray, List.getElem?_cons_zero, List.getElem?_cons_succ] at z0 r1 q0 q1 q2
  have hza := HWV.out.k1.lt
  have hzr := HRV.out.k.lt
  have hzl := HQV.out.lt
  go_upto_region 1 with fail
  simp only [Act.put, List.getElem_toArray, List.getElem_cons_succ, List.getElem_cons_zero]
  refine wp_region_rel4 (dst := fun oi => [21, 22, 23, 24, 25, 26, 27, 28, 29, 30, 31, 32, 33, 3].getD oi 0) (mono := fun oi => decide (oi < 13)) (pre := fun oi => decide (oi < 13)) (R := LKeep (fun _ => False) (fun _ => True))
   (Pv := fun oi v W => match oi with
    | 0 => v = .pointer (some ⟨rb, 0, none⟩)
    | 1 => v = .pointer (some ⟨rb, 0, none⟩)
    | 2 => v = .pointer (some ⟨rb, 0, none⟩)
    | 3 => v = .pointer (some ⟨rb, 0, none⟩)
    | 4 => v = .pointer (some ⟨rb, 1, none⟩)
    | 5 => v = .slice a.A2 b.tallies.length a.c2
    | 6 => v = .slice a.A2 b.tallies.length b.tallies.length
    | 7 => v = .agg #[.int .i64 (iv : Int), .int .i64 (nv : Int), .int .i64 (mv : Int)]
    | 8 => ∃ gl cp, v = .slice (some ⟨gl, 0, none⟩) 1 1 ∧ MadeB W V.heap.size gl cp 50 #[.int .i64 (iv : Int), .int .i64 (nv : Int), .int .i64 (mv : Int)]
    | 9 => ∃ gl cp, v = .slice (some ⟨gl, 0, none⟩) (b.tallies.length + 1) cp ∧ NewRow W V.heap.size gl cp (b.tallies.length + 1) (talliesF (b.tallies ++ [(⟨(iv : Int), (nv : Int), (mv : Int)⟩ : Tally)]))
    | 10 => v = .pointer (some ⟨rb, 0, none⟩)
    | 11 => v = .pointer (some ⟨rb, 0, none⟩)
    | 12 => v = .pointer (some ⟨rb, 1, none⟩)
    | _ => True) (by kernel_rfl) (by kernel_rfl) (LKeep.refl _ _) (fun _ _ _ h h' => h.trans h') ?hstb ?hstepb ?hendb
  case hstb =>
   intro oi v W W' h hk
   match oi, h with
   | 0, h => exact h
   | 1, h => exact h
   | 2, h => exact h
   | 3, h => exact h
   | 4, h => exact h
   | 5, h => exact h
   | 6, h => exact h
   | 7, h => exact h
   | 8, h => obtain ⟨gl, cp, h1, h2⟩ := h; exact ⟨gl, cp, h1, h2.next (hk.1.below (B := W.heap.size) (fun k h => h.elim) (Nat.le_refl _))⟩
   | 9, h => obtain ⟨gl, cp, h1, h2⟩ := h; exact ⟨gl, cp, h1, h2.next (hk.1.below (B := W.heap.size) (fun k h => h.elim) (Nat.le_refl _))⟩
   | 10, h => exact h
   | 11, h => exact h
   | 12, h => exact h
   | oi + 13, h => exact trivial
  case hstepb =>
   intro oi hoi hom listed vs ao W hU hk0 hpv haft Ko hK
   have hkk := (LKeep.drew (fun _ => False) (M := fun _ => True) V (fun h => h)).trans hk0
   have hk := hkk.1
   have hkm := hkk.2
   clear hkk
   match oi, hoi, hom with
   | 0, hoi, hom =>
    have z1 : ao.tmps[1]?.getD undef = .pointer (some ⟨za, 0, none⟩) := hU.same 1 (by decide)
    have y0 := (hk.cell (b := za) (o := 0) (hza) (fun h => h)).trans (z0)
    refine wpOp_value (v := .pointer (some ⟨rb, 0, none⟩)) (W' := W) rfl rfl ?_ (hK _ _ (LKeep.refl _ _ _) rfl)
    go_simp
   | 1, hoi, hom =>
    have z1 : ao.tmps[1]?.getD undef = .pointer (some ⟨za, 0, none⟩) := hU.same 1 (by decide)
    have y0 := (hk.cell (b := za) (o := 0) (hza) (fun h => h)).trans (z0)
    refine wpOp_value (v := .pointer (some ⟨rb, 0, none⟩)) (W' := W) rfl rfl ?_ (hK _ _ (LKeep.refl _ _ _) rfl)
    go_simp
   | 2, hoi, hom =>
    have l1 := haft _ rfl ⟨1, .data⟩ (by simp) rfl
    have s1 : ao.tmps[22]?.getD undef = .pointer (some ⟨rb, 0, none⟩) := (hU.slot 1 (by decide) l1).trans (hpv 1 l1)
    refine wpOp_value (v := .pointer (some ⟨rb, 0, none⟩)) (W' := W) rfl rfl ?_ (hK _ _ (LKeep.refl _ _ _) rfl)
    go_simp
   | 3, hoi, hom =>
    have l2 := haft _ rfl ⟨2, .data⟩ (by simp) rfl
    have s2 : ao.tmps[23]?.getD undef = .pointer (some ⟨rb, 0, none⟩) := (hU.slot 2 (by decide) l2).trans (hpv 2 l2)
    refine wpOp_value (v := .pointer (some ⟨rb, 0, none⟩)) (W' := W) rfl rfl ?_ (hK _ _ (LKeep.refl _ _ _) rfl)
    go_simp
   | 4, hoi, hom =>
    have l3 := haft _ rfl ⟨3, .data⟩ (by simp) rfl
    have s3 : ao.tmps[24]?.getD undef = .pointer (some ⟨rb, 0, none⟩) := (hU.slot 3 (by decide) l3).trans (hpv 3 l3)
    refine wpOp_value (v := .pointer (some ⟨rb, 1, none⟩)) (W' := W) rfl rfl ?_ (hK _ _ (LKeep.refl _ _ _) rfl)
    go_simp
   | 5, hoi, hom =>
    have l4 := haft _ rfl ⟨4, .data⟩ (by simp) rfl
    have s4 : ao.tmps[25]?.getD undef = .pointer (some ⟨rb, 1, none⟩) := (hU.slot 4 (by decide) l4).trans (hpv 4 l4)
    have y0 := (hk.cell (b := rb) (o := 1) (hzr) (fun h => h)).trans (r1)
    refine wpOp_value (v := .slice a.A2 b.tallies.length a.c2) (W' := W) rfl rfl ?_ (hK _ _ (LKeep.refl _ _ _) rfl)
    go_simp
   | 6, hoi, hom =>
    have l5 := haft _ rfl ⟨5, .data⟩ (by simp) rfl
    have s5 : ao.tmps[26]?.getD undef = .slice a.A2 b.tallies.length a.c2 := (hU.slot 5 (by decide) l5).trans (hpv 5 l5)
    refine wpOp_enter (f := 124) (args := #[.slice a.A2 b.tallies.length a.c2]) (W' := W) rfl rfl ?_ ((clipT_any a.A2 b.tallies.length a.c2 W HRV.out.v.m2 (none_or HR.out.n2).1).mono (fun e w'' h => ?_))
    · go_simp
    · obtain ⟨he, rfl⟩ := h
      exact ⟨_, he, hK _ _ (LKeep.refl _ _ _) rfl⟩
   | 7, hoi, hom =>
    have z4 : ao.tmps[4]?.getD undef = .pointer (some ⟨gl, 0, none⟩) := hU.same 4 (by decide)
    have y0 := (hk.cell (b := gl) (o := 0) (hzl) (fun h => h)).trans (q0)
    have y1 := (hk.cell (b := gl) (o := 1) (hzl) (fun h => h)).trans (q1)
    have y2 := (hk.cell (b := gl) (o := 2) (hzl) (fun h => h)).trans (q2)
    refine wpOp_value (v := .agg #[.int .i64 (iv : Int), .int .i64 (nv : Int), .int .i64 (mv : Int)]) (W' := W) rfl rfl ?_ (hK _ _ (LKeep.refl _ _ _) rfl)
    go_simp
   | 8, hoi, hom =>
    have l7 := haft _ rfl ⟨7, .data⟩ (by simp) rfl
    have s7 : ao.tmps[28]?.getD undef = .agg #[.int .i64 (iv : Int), .int .i64 (nv : Int), .int .i64 (mv : Int)] := (hU.slot 7 (by decide) l7).trans (hpv 7 l7)
    refine wpOp_value (v := .slice (some ⟨W.heap.size, 0, none⟩) 1 1) (W' := (W.alloc (.cells #[.int .i64 (iv : Int), .int .i64 (nv : Int), .int .i64 (mv : Int)] 50))) rfl rfl ?_ (hK _ _ (LKeep.below ((Below.refl _ _).alloc (Nat.le_refl _) _) (fun h => h)) ⟨_, 0, rfl, ⟨Blk.made, hk.size⟩⟩)
    go_simp
   | 9, hoi, hom =>
    have l6 := haft _ rfl ⟨6, .data⟩ (by simp) rfl
    have s6 : ao.tmps[27]?.getD undef = .slice a.A2 b.tallies.length b.tallies.length := (hU.slot 6 (by decide) l6).trans (hpv 6 l6)
    have l8 := haft _ rfl { on := 8, ground := .data } (by simp) rfl
    obtain ⟨gl8, cp8, hv8, hi8⟩ := hpv 8 l8
    have s8 : ao.tmps[29]?.getD undef = vs 8 := hU.slot 8 (by decide) l8
    rw [hv8] at s8
    obtain ⟨si, hinf, hz0, hsz1, hsz2⟩ := info_parts Tryz.infoTally
    have hsn := talliesF_new b.tallies ⟨(iv : Int), (nv : Int), (mv : Int)⟩
    obtain ⟨g9, c9, w9, hrun, hnew, hgr⟩ := app_new (P := Tryz.prog) (W := W) (ty := 23) (f' := talliesF (b.tallies ++ [(⟨(iv : Int), (nv : Int), (mv : Int)⟩ : Tally)])) Tryz.underlying23 hinf hz0 hsz1 hsz2 rfl ((HRV.out.v.tallies.below (hk.below (B := V.heap.size) (fun k h => h.elim) (Nat.le_refl _))).more hk.size) (none_or HR.out.n2).1 (none_or HR.out.n2).2 hi8.k ⟨rfl, rfl, rfl⟩ (fun j hj => talliesF_app _ _ hj) hsn.1 hsn.2.1 hsn.2.2 hl (by decide)
    have hgb := (Keep.of_grown hgr).below (B := W.heap.size) (fun k h => by cases h) (Nat.le_refl _)
    refine wpOp_append (W' := w9) rfl rfl rfl s6 s8 hrun (hK _ _ (LKeep.below hgb (fun h => h)) ⟨g9, c9, rfl, hnew.row, Nat.le_trans hk.size hnew.ge, hnew.cap⟩)
   | 10, hoi, hom =>
    have l0 := haft _ rfl ⟨0, .data⟩ (by simp) rfl
    have s0 : ao.tmps[21]?.getD undef = .pointer (some ⟨rb, 0, none⟩) := (hU.slot 0 (by decide) l0).trans (hpv 0 l0)
    refine wpOp_value (v := .pointer (some ⟨rb, 0, none⟩)) (W' := W) rfl rfl ?_ (hK _ _ (LKeep.refl _ _ _) rfl)
    go_simp
   | 11, hoi, hom =>
    have l10 := haft _ rfl ⟨10, .data⟩ (by simp) rfl
    have s10 : ao.tmps[31]?.getD undef = .pointer (some ⟨rb, 0, none⟩) := (hU.slot 10 (by decide) l10).trans (hpv 10 l10)
    refine wpOp_value (v := .pointer (some ⟨rb, 0, none⟩)) (W' := W) rfl rfl ?_ (hK _ _ (LKeep.refl _ _ _) rfl)
    go_simp
   | 12, hoi, hom =>
    have l11 := haft _ rfl ⟨11, .data⟩ (by simp) rfl
    have s11 : ao.tmps[32]?.getD undef = .pointer (some ⟨rb, 0, none⟩) := (hU.slot 11 (by decide) l11).trans (hpv 11 l11)
    refine wpOp_value (v := .pointer (some ⟨rb, 1, none⟩)) (W' := W) rfl rfl ?_ (hK _ _ (LKeep.refl _ _ _) rfl)
    go_simp
   | oi + 13, hoi, hom => exact absurd (of_decide_eq_true hom) (by omega)
  case hendb =>
   intro listed vs ao W hG hk0 hpv hpre
   have hkk := (LKeep.drew (fun _ => False) (M := fun _ => True) V (fun h => h)).trans hk0
   have hk := hkk.1
   have hkm := hkk.2
   clear hkk
   have hact := hG.act
   have hT := hG.lst hpre 0 #[true, true, true, true, true, true, true, true, true, true, true, true, true, false] rfl (by kernel_rfl) (hpre 0 (by decide) (by decide))
   rw [hG.ix hT (l := [0, 1, 2, 3, 4, 5, 6, 7, 8, 9, 10, 11, 12]) (by kernel_rfl)] at hact
   rw [hG.lo hT (k := 1) (by kernel_rfl)]
   have hv0 : vs 0 = .pointer (some ⟨rb, 0, none⟩) := hpv 0 (hpre 0 (by decide) (by decide))
   have hv1 : vs 1 = .pointer (some ⟨rb, 0, none⟩) := hpv 1 (hpre 1 (by decide) (by decide))
   have hv2 : vs 2 = .pointer (some ⟨rb, 0, none⟩) := hpv 2 (hpre 2 (by decide) (by decide))
   have hv3 : vs 3 = .pointer (some ⟨rb, 0, none⟩) := hpv 3 (hpre 3 (by decide) (by decide))
   have hv4 : vs 4 = .pointer (some ⟨rb, 1, none⟩) := hpv 4 (hpre 4 (by decide) (by decide))
   have hv5 : vs 5 = .slice a.A2 b.tallies.length a.c2 := hpv 5 (hpre 5 (by decide) (by decide))
   have hv6 : vs 6 = .slice a.A2 b.tallies.length b.tallies.length := hpv 6 (hpre 6 (by decide) (by decide))
   have hv7 : vs 7 = .agg #[.int .i64 (iv : Int), .int .i64 (nv : Int), .int .i64 (mv : Int)] := hpv 7 (hpre 7 (by decide) (by decide))
   obtain ⟨gl8, cp8, hv8, hi8⟩ := hpv 8 (hpre 8 (by decide) (by decide))
   obtain ⟨gl9, cp9, hv9, hi9⟩ := hpv 9 (hpre 9 (by decide) (by decide))
   have hv10 : vs 10 = .pointer (some ⟨rb, 0, none⟩) := hpv 10 (hpre 10 (by decide) (by decide))
   have hv11 : vs 11 = .pointer (some ⟨rb, 0, none⟩) := hpv 11 (hpre 11 (by decide) (by decide))
   have hv12 : vs 12 = .pointer (some ⟨rb, 1, none⟩) := hpv 12 (hpre 12 (by decide) (by decide))
   clear hpv hpre hG hk0
   obtain rfl : ao = _ := hact
   subst hT
   simp only [setAll, List.setIfInBounds_toArray, List.set_cons_succ, List.set_cons_zero, List.getD_cons_succ, List.getD_cons_zero]
   simp only [hv0, hv1, hv2, hv3, hv4, hv5, hv6, hv7, hv8, hv9, hv10, hv11, hv12]
   clear hv0 hv1 hv2 hv3 hv4 hv5 hv6 hv7 hv8 hv9 hv10 hv11 hv12
   have n9 := HRV.out.k.keep hk (fun h => h)
   have c1 := n9.at_ 1
   have f1 := n9.free 1
   simp only [List.getElem?_toArray, List.getElem?_cons_zero, List.getElem?_cons_succ] at c1
   refine wpAny_all (rs := [13]) (by kernel_rfl) (by simp) ?_
   intro i2 hi2
   obtain rfl : i2 = 13 := by simpa using hi2
   refine wpOp_skip (W' := W.setCell ⟨rb, 1, none⟩ (.slice (some ⟨gl9, 0, none⟩) (b.tallies.length + 1) cp9)) rfl rfl ?_ ?_
   · go_simp
   refine wpAny_done (by kernel_rfl) ?_ _
   have hs : Keep (fun q => q = rb) W (W.setCell ⟨rb, 1, none⟩ (.slice (some ⟨gl9, 0, none⟩) (b.tallies.length + 1) cp9)) := Keep.setCell _ _ _ (fun q => q = rb) rfl
   have b2 := n9.store 1 (.slice (some ⟨gl9, 0, none⟩) (b.tallies.length + 1) cp9)
   generalize W.setCell ⟨rb, 1, none⟩ (.slice (some ⟨gl9, 0, none⟩) (b.tallies.length + 1) cp9) = X at *
   have hge9 := hi9.ge
   have hrne : gl9 ≠ rb ∧ gl9 ≠ mb := by have := HRV.out.m.lt; omega
   have hKX : Keep (fun k => k = rb ∨ k = mb) V X := (hk.mono (fun k _ h => h.elim)).trans (hs.mono (fun k _ h => .inl h))
   have hKall := HKV.out.trans hKX
   have hlen : (b.tallies ++ [(⟨(iv : Int), (nv : Int), (mv : Int)⟩ : Tally)]).length = b.tallies.length + 1 := by simp
   have hfin : RdI X rb mb ⟨b.steps, (b.tallies ++ [(⟨(iv : Int), (nv : Int), (mv : Int)⟩ : Tally)])⟩ ⟨a.A1, some ⟨gl9, 0, none⟩, a.c1, cp9⟩ := ⟨⟨?r1, ?r2, HR.out.v.small, HR.out.v.m1, ?r4⟩, ?r5, ?r6, HR.out.ne1, ?r7, HR.out.n1, .inr ⟨gl9, rfl⟩, HR.out.d⟩
   case r1 => exact (HR.out.book hKall).steps
   case r2 => show Row X X.heap.size _ (_ * 3) _; rw [hlen]; exact hi9.row.stab hs.size (fun g o hg e _ => hs.block g hg (fun hh => hrne.1 (by simp only [Option.some.injEq, Addr.mk.injEq] at e; omega)))
   case r4 => show ((b.tallies ++ [(⟨(iv : Int), (nv : Int), (mv : Int)⟩ : Tally)])).length ≤ cp9 ∧ cp9 ≤ maxLen; rw [hlen]; exact hi9.cap
   case r5 => show Blk X rb _ #[_, .slice (some ⟨gl9, 0, none⟩) ((b.tallies ++ [(⟨(iv : Int), (nv : Int), (mv : Int)⟩ : Tally)])).length cp9, _]; rw [hlen]; exact b2
   case r6 => exact ((HRV.out.m.block (hk.block _ HRV.out.m.lt (fun h => h))).block (hs.block _ (by have := HRV.out.m.lt; have := hk.size; omega) (fun h => HR.out.d h.symm)))
   case r7 => intro g o p e; simp only [Option.some.injEq, Addr.mk.injEq] at e; rw [← e.1]; exact hrne
   have HNA := hide (show NewA a ⟨a.A1, some ⟨gl9, 0, none⟩, a.c1, cp9⟩ W0.heap.size from ⟨fun g o p e => .inl e, fun g o p e => .inr (by simp only [Option.some.injEq, Addr.mk.injEq] at e; have := HKV.out.size; omega)⟩)
   have HF := hide hfin
   have HKA := hide hKall
   clear hfin hKall hKX hs b2 n9 c1 f1 hi9 hi8 hk hkm z0 r1 q0 q1 q2 hlen
   go_wp2_with fail
   go_end0
   exact ⟨HKA.out, .inl ⟨_, _, HS.out, rfl, HF.out, HNA.out⟩⟩
end Go.Proofs.YtocdmkilnbpkdaaGreatDoor
