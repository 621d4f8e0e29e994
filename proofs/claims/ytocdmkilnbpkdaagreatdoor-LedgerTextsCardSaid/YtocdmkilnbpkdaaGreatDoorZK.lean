/- enter, and (*book).lost. -/
import Derived.Test.YtocdmkilnbpkdaaGreatDoorZJ
import Derived.Laws.EntriesVeiled
import Derived.OwnWalkIn
import Derived.TacticsInMore
import Derived.Deep.DeepCutAuto
set_option linter.unusedVariables false
set_option linter.unusedSimpArgs false
namespace Go.Proofs.YtocdmkilnbpkdaaGreatDoor
open Go.RowKit
attribute [local go_sem] Oper.semAt_some

def enterK (b : Book) (step : Int) : Int := if (checkM b).2.2 ≠ 0 then (checkM b).2.2 else if offP 0 ((b.steps.length : Int) - 1) step then 4 else if someB b (fun _ => false) then 0 else 8
theorem enterK_eq (b : Book) (step : Int) : enterK b step = if (checkM b).2.2 ≠ 0 then (checkM b).2.2 else if offP 0 ((b.steps.length : Int) - 1) step then 4 else if someB b (fun _ => false) then 0 else 8 := rfl
theorem enterK_zero {b : Book} {s : Int} (h : enterK b s = 0) : Valid b ∧ (0 ≤ s ∧ s < b.steps.length) ∧ someB b (fun _ => false) = true := by
 unfold enterK at h
 split at h
 · contradiction
 · rename_i h1
   split at h
   · cases h
   · rename_i h2
     split at h
     · rename_i h3
       refine ⟨valid_of (Classical.byContradiction h1), ?_, h3⟩
       simp only [offP, Bool.or_eq_true, decide_eq_true_eq, not_or] at h2
       omega
     · cases h
theorem no_but (b : Book) : cB b (fun i => (0 : Nat).testBit i) = cB b (fun _ => false) := by simp
/-- What looking at a book without any 'but' says. -/
theorem look_hands {b : Book} (hg : Good b) {h : Nat → Span} {ok : Bool} {but : Nat → Bool} (hl : Looked (wayOf b) (cB b but) h ok) : ok = someB b but ∧ (ok = true → ∀ i, i < b.steps.length → h i = handsB b but i) := looked hg.way (cB_99 b but) hl
theorem LookB.own {w : World} {L g : Nat} {b : Book} {a : BA} {h : Nat → Span} (hl : LookB w L g b a h) : LookB w g g b a h := ⟨hl.v.more hl.hL, Nat.le_refl _, hl.k⟩
def HandsAre (b : Book) (h : Nat → Span) : Prop := ∀ i, i < b.steps.length → h i = handsB b (fun _ => false) i
/-- What enter leaves. -/
def Entered (w w' : World) (b : Book) (a : BA) (s : Int) (p : Value) : Prop := enterK b s = 0 → ∃ g h, p = .pointer (some ⟨g, 0, none⟩) ∧ w.heap.size ≤ g ∧ LookB w' g g b a h ∧ HandsAre b h
set_option maxHeartbeats 4000000 in
set_option maxRecDepth 100000 in
theorem enter_any {b : Book} {a : BA} {w : World} {s : Int} (h : BookV w w.heap.size b a) :
 Calls Tryz.prog 66 #[bookVal b a, .int .i64 s] w fun e w' => ∃ p, e = .returned (.tuple #[p, .int .i64 (enterK b s)]) ∧ Below w.heap.size w w' ∧ Entered w w' b a s p := by
 have HX := hide (BoxB.made h)
 have HB := hide (show Below w.heap.size w (w.alloc (.cells (bookCells b a) 25)) from (Below.refl _ _).alloc (Nat.le_refl _) _)
 have hm1 := h.m1
 unfold maxLen at hm1
 clear h
 have HE := hide (enterK_eq b s)
 have HV := hide (fun (hz : (checkM b).2.2 = 0) => valid_of hz)
 generalize hC : checkM b = C at *
 obtain ⟨k1, k2, ec⟩ := C
 dsimp only at HE HV
 have HC := hide hC
 clear hC
 go_enter Tryz.func66, Tryz.ntmps66
 go_upto_region 1 with (fail)
 generalize (w.alloc (.cells (bookCells b a) 25)) = v0 at *
 obtain ⟨z, x0, x1⟩ := HX.out.cells
 have HK := hide (check_any HX.out.v)
 rw [HC.out] at HK
 dsimp only at HK
 by_cases he : ec = 0
 · have hd : (ec != 0) = false := by simpa using he
   have HVV := hide (HV.out he)
   have HEE := hide (HE.out.trans (if_neg (by simpa using he)))
   subst he
   go_upto_region 4 with (go_at_call 17; refine HK.out.mono ?_; rintro e v1 ⟨rfl, hb⟩)
   have HB := hide (HB.out.trans (hb.mono HB.out.size))
   have HX := hide (HX.out.next hb)
   clear hb z x0 x1 HK
   obtain ⟨z, x0, x1⟩ := HX.out.cells
   go_wp2_with fail
   refine (beyond_1 rfl 0 ((b.steps.length : Int) - 1) s).mono ?_
   rintro e v2 ⟨rfl, hb⟩
   have HB := hide (HB.out.trans (hb.mono HB.out.size))
   have HX := hide (HX.out.next hb)
   clear hb z x0 x1
   obtain ⟨z, x0, x1⟩ := HX.out.cells
   cases hof : offP 0 ((b.steps.length : Int) - 1) s with
   | true =>
    have HF := hide hof
    clear hof
    go_wp2_with fail
    refine bodyPost_ret (v := .tuple #[.pointer none, .int .i64 4]) (by simp [results, Tryz.results66, go_sem]) rfl ?_
    have he4 : enterK b s = 4 := by rw [HEE.out, HF.out]; rfl
    exact ⟨_, by rw [he4], HB.out, fun h => by rw [he4] at h; cases h⟩
   | false =>
    have HF := hide hof
    clear hof
    go_wp2_with fail
    refine (look_any (but := 0) HX.out.v HVV.out.good (by decide)).mono ?_
    rintro e v3 ⟨g, h, ok, rfl, hl, hlk, hb⟩
    rw [no_but] at hlk
    obtain ⟨hok, hhs⟩ := look_hands HVV.out.good hlk
    have HOK := hide hok
    have HHS := hide hhs
    have HL := hide hl
    have hgz : v2.heap.size ≤ g := hl.hL
    have HB3 := hide (HB.out.trans (hb.mono HB.out.size))
    have hz2 := HB.out.size
    clear hlk hok hhs hl hb z x0 x1
    cases ok with
    | true =>
     go_wp2_with fail
     refine bodyPost_ret (v := .tuple #[.pointer (some ⟨g, 0, none⟩), .int .i64 0]) (by simp [results, Tryz.results66, go_sem]) rfl ?_
     have he0 : enterK b s = 0 := by rw [HEE.out, HF.out, ← HOK.out]; rfl
     exact ⟨_, by rw [he0], HB3.out, fun _ => ⟨g, h, rfl, by omega, HL.out.own, HHS.out (by trivial)⟩⟩
    | false =>
     go_wp2_with fail
     refine bodyPost_ret (v := .tuple #[.pointer none, .int .i64 8]) (by simp [results, Tryz.results66, go_sem]) rfl ?_
     have he8 : enterK b s = 8 := by rw [HEE.out, HF.out, ← HOK.out]; rfl
     exact ⟨_, by rw [he8], HB3.out, fun h => by rw [he8] at h; cases h⟩
 · have hd : (ec != 0) = true := by simpa using he
   have HEE := hide (HE.out.trans (if_pos he))
   have HN := hide he
   clear he
   go_wp2_with (go_at_call 17; refine HK.out.mono ?_; rintro e v1 ⟨rfl, hb⟩)
   refine bodyPost_ret (v := .tuple #[.pointer none, .int .i64 ec]) (by simp [results, Tryz.results66, go_sem]) rfl ?_
   exact ⟨_, by rw [HEE.out], HB.out.trans (hb.mono HB.out.size), fun h => by rw [HEE.out] at h; exact absurd h HN.out⟩
set_option maxHeartbeats 4000000 in
set_option maxRecDepth 100000 in
theorem lost_any {w : World} {L g i : Nat} {b : Book} {a : BA} {h : Nat → Span} (hl : LookB w L g b a h) (hL : L ≤ w.heap.size) (hg : Good b) (hi : i < b.steps.length) :
 Calls Tryz.prog 71 #[.pointer (some ⟨g, 0, none⟩), .int .i64 (i : Int)] w fun e w' => e = .returned (spanVal ((wayOf b).lostW h i)) ∧ Below w.heap.size w w' := by
 have HG := hide hg
 have hi0 : (0 : Int) ≤ (i : Int) := Int.natCast_nonneg _
 have hil : (i : Int) < (b.steps.length : Int) := by omega
 have hx6 : i < 6 := by have := hg.six; omega
 have hi6 : (i : Int) < 6 := by omega
 have HX := hide (show (wayOf b).lostW h i = if (wayOf b).kids i = [] then ⟨0, 0⟩ else both (lessW (h i) ((wayOf b).outW h i)) ⟨0, (nth b.steps i).loss⟩ from rfl)
 have HB0 := hide (show Below w.heap.size w (w.alloc (.cells #[.int .i64 0, .int .i64 0] 30)) from (Below.refl _ _).alloc (Nat.le_refl _) _)
 have HR := hide (show Blk (w.alloc (.cells #[.int .i64 0, .int .i64 0] 30)) w.heap.size 30 #[.int .i64 0, .int .i64 0] from Blk.made)
 have HL := hide (hl.next HB0.out)
 have HZL := hide hL
 have hgw := hl.k.lt
 have HBK := hide (behind_kids hg i)
 have HOW := hide (outF_way hg h i)
 have h6 := hg.six
 clear hl hL hg
 go_enter Tryz.func71, Tryz.ntmps71
 go_wp2_with fail
 generalize (w.alloc (.cells #[.int .i64 0, .int .i64 0] 30)) = w0 at *
 refine (out_any HL.out (by have := HB0.out.size; have := HZL.out; omega) h6).mono ?_
 rintro e w1 ⟨rfl, hb⟩
 rw [HOW.out, HBK.out]
 have HB1 := hide (HB0.out.trans (hb.mono HB0.out.size))
 have hba : Below w1.heap.size w1 (w1.alloc (.cells #[.int .i64 ((wayOf b).outW h i).lo, .int .i64 ((wayOf b).outW h i).hi] 30)) := (Below.refl _ _).alloc (Nat.le_refl _) _
 have hL2 := HL.out.next hb
 have hR2 := HR.out.next hb
 have hL3 := hL2.next hba
 have hR3 := hR2.next hba
 have hO3 : Blk (w1.alloc (.cells #[.int .i64 ((wayOf b).outW h i).lo, .int .i64 ((wayOf b).outW h i).hi] 30)) w1.heap.size 30 #[.int .i64 ((wayOf b).outW h i).lo, .int .i64 ((wayOf b).outW h i).hi] := Blk.made
 have HB3 := hide (HB1.out.trans (hba.mono HB1.out.size))
 have hzb := HB1.out.size
 have hz0 := HR.out.lt
 have hz1 := hb.size
 clear hb hba HL HR HB0 hL2 hR2 HB1
 generalize hso : (wayOf b).outW h i = so at *
 clear hso
 have hkk : (!((wayOf b).kids i).isEmpty) = !decide ((wayOf b).kids i = []) := by cases (wayOf b).kids i <;> simp
 rw [hkk]
 clear hkk
 by_cases hk : (wayOf b).kids i = []
 · rw [if_pos hk] at HX
   have hd : decide ((wayOf b).kids i = []) = true := decide_eq_true hk
   clear hk
   clear hL3 hO3
   rw [hd]
   clear hd
   have c0 := hR3.at_ 0
   have c1 := hR3.at_ 1
   have f0 := hR3.free 0
   have f1 := hR3.free 1
   simp only [List.getElem?_toArray, List.getElem?_cons_zero, List.getElem?_cons_succ] at c0 c1
   have HR3 := hide hR3
   clear hR3
   go_wp2_with fail
   have b2 : Blk (((w1.alloc (.cells #[.int .i64 so.lo, .int .i64 so.hi] 30)).setCell ⟨w.heap.size, 0, none⟩ (.int .i64 0)).setCell ⟨w.heap.size, 1, none⟩ (.int .i64 0)) w.heap.size 30 #[.int .i64 0, .int .i64 0] := (HR3.out.store 0 _).store 1 _
   have hs : Keep (fun q => q = w.heap.size) (w1.alloc (.cells #[.int .i64 so.lo, .int .i64 so.hi] 30)) (((w1.alloc (.cells #[.int .i64 so.lo, .int .i64 so.hi] 30)).setCell ⟨w.heap.size, 0, none⟩ (.int .i64 0)).setCell ⟨w.heap.size, 1, none⟩ (.int .i64 0)) := (Keep.setCell _ _ _ (fun q => q = w.heap.size) rfl).trans (Keep.setCell _ _ _ (fun q => q = w.heap.size) rfl)
   have hbw := HB3.out.trans (hs.below (B := w.heap.size) (fun k h => by omega) (by simp; omega))
   generalize ((w1.alloc (.cells #[.int .i64 so.lo, .int .i64 so.hi] 30)).setCell ⟨w.heap.size, 0, none⟩ (.int .i64 0)).setCell ⟨w.heap.size, 1, none⟩ (.int .i64 0) = W8 at *
   have r0 := b2.at_ 0
   have r1 := b2.at_ 1
   simp only [List.getElem?_toArray, List.getElem?_cons_zero, List.getElem?_cons_succ] at r0 r1
   refine bodyPost_ret (v := spanVal ⟨0, 0⟩) (by simp [results, Tryz.results71, go_sem, r0, r1]) rfl ⟨by rw [HX.out], hbw⟩
 · rw [if_neg hk] at HX
   have hd : decide ((wayOf b).kids i = []) = false := decide_eq_false hk
   clear hk
   rw [hd]
   clear hd
   obtain ⟨bs, os, hA, hbs, s0, s1, s2⟩ := hL3.v.steps.steps hi
   have g0 := hL3.k.at_ 0
   simp only [List.getElem?_toArray, List.getElem?_cons_zero] at g0
   rw [hA] at g0
   have o0 := hO3.at_ 0
   have o1 := hO3.at_ 1
   simp only [List.getElem?_toArray, List.getElem?_cons_zero, List.getElem?_cons_succ] at o0 o1
   have sl := hL3.at_lo hx6
   have sh := hL3.at_hi hx6
   have hzg := hL3.k.lt
   have hzo := hO3.lt
   have HR := hide hR3
   replace hbs : bs < (w1.alloc (.cells #[.int .i64 so.lo, .int .i64 so.hi] 30)).heap.size := by have := hL3.hL; omega
   clear hL3 hO3 hR3 s0 s1 hA
   go_wp2_with fail
   generalize w1.alloc (.cells #[.int .i64 so.lo, .int .i64 so.hi] 30) = W3 at *
   generalize (nth b.steps i).loss = ls at *
   generalize h i = si at *
   refine wp_region_rel4 (dst := fun oi => [16, 17, 18, 19, 20, 21, 22, 23, 24, 25, 26, 27, 28, 29, 30, 31, 32, 33, 34, 2].getD oi 0) (mono := fun oi => decide (oi < 19)) (pre := fun oi => decide (oi < 19)) (R := LKeep (fun _ => False) (fun _ => True))
    (Pv := fun oi v W => match oi with
     | 0 => v = .pointer (some ⟨g, 0, none⟩)
     | 1 => v = .int .i64 (i : Nat)
     | 2 => v = .pointer (some ⟨g, 0, none⟩)
     | 3 => v = .pointer (some ⟨g, 2, none⟩)
     | 4 => v = .pointer (some ⟨g, 2 + i * 2, none⟩)
     | 5 => v = spanVal si
     | 6 => v = spanVal so
     | 7 => v = spanVal (lessW si so)
     | 8 => v = .pointer (some ⟨g, 0, none⟩)
     | 9 => v = .pointer (some ⟨g, 0, none⟩)
     | 10 => v = .pointer (some ⟨g, 0, none⟩)
     | 11 => v = .pointer (some ⟨g, 0, none⟩)
     | 12 => v = .slice (some ⟨bs, os, none⟩) b.steps.length a.c1
     | 13 => v = .int .i64 (i : Nat)
     | 14 => v = .pointer (some ⟨bs, os + i * 3, none⟩)
     | 15 => v = .pointer (some ⟨bs, os + i * 3 + 2, none⟩)
     | 16 => v = .int .i64 ls
     | 17 => v = spanVal ⟨0, ls⟩
     | 18 => v = spanVal (both (lessW si so) ⟨0, ls⟩)
     | _ => True) (by kernel_rfl) (by kernel_rfl) (LKeep.refl _ _) (fun _ _ _ h h' => h.trans h') ?hst ?hstep ?hend
   case hst =>
    intro oi v W W' h hk
    match oi, h with
    | 0, h => exact h
    | 1, h => exact h
    | 2, h => exact h
    | 3, h => exact h
    | 4, h => exact h
    | 5, h => exact h
    | 6, h => exact h
    | 7, h => exact h
    | 8, h => exact h
    | 9, h => exact h
    | 10, h => exact h
    | 11, h => exact h
    | 12, h => exact h
    | 13, h => exact h
    | 14, h => exact h
    | 15, h => exact h
    | 16, h => exact h
    | 17, h => exact h
    | 18, h => exact h
    | oi + 19, h => exact trivial
   case hstep =>
    intro oi hoi hom listed vs ao W hU hk0 hpv haft Ko hK
    have hkk := (LKeep.drew (fun _ => False) (M := fun _ => True) W3 (fun h => h)).trans hk0
    have hk := hkk.1
    have hkm := hkk.2
    clear hkk
    match oi, hoi, hom with
    | 0, hoi, hom =>
     have z0 : ao.tmps[0]?.getD undef = .pointer (some ⟨g, 0, none⟩) := hU.same 0 (by decide)
     refine wpOp_value (v := .pointer (some ⟨g, 0, none⟩)) (W' := W) rfl rfl ?_ (hK _ _ (LKeep.refl _ _ _) rfl)
     go_simp
    | 1, hoi, hom =>
     have z1 : ao.tmps[1]?.getD undef = .int .i64 (i : Nat) := hU.same 1 (by decide)
     refine wpOp_value (v := .int .i64 (i : Nat)) (W' := W) rfl rfl ?_ (hK _ _ (LKeep.refl _ _ _) rfl)
     go_simp
    | 2, hoi, hom =>
     have l0 := haft _ rfl ⟨0, .data⟩ (by simp) rfl
     have s0 : ao.tmps[16]?.getD undef = .pointer (some ⟨g, 0, none⟩) := (hU.slot 0 (by decide) l0).trans (hpv 0 l0)
     refine wpOp_value (v := .pointer (some ⟨g, 0, none⟩)) (W' := W) rfl rfl ?_ (hK _ _ (LKeep.refl _ _ _) rfl)
     go_simp
    | 3, hoi, hom =>
     have l2 := haft _ rfl ⟨2, .data⟩ (by simp) rfl
     have s2 : ao.tmps[18]?.getD undef = .pointer (some ⟨g, 0, none⟩) := (hU.slot 2 (by decide) l2).trans (hpv 2 l2)
     refine wpOp_value (v := .pointer (some ⟨g, 2, none⟩)) (W' := W) rfl rfl ?_ (hK _ _ (LKeep.refl _ _ _) rfl)
     go_simp
    | 4, hoi, hom =>
     have l3 := haft _ rfl ⟨3, .data⟩ (by simp) rfl
     have s3 : ao.tmps[19]?.getD undef = .pointer (some ⟨g, 2, none⟩) := (hU.slot 3 (by decide) l3).trans (hpv 3 l3)
     have l1 := haft _ rfl ⟨1, .data⟩ (by simp) rfl
     have s1 : ao.tmps[17]?.getD undef = .int .i64 (i : Nat) := (hU.slot 1 (by decide) l1).trans (hpv 1 l1)
     refine wpOp_value (v := .pointer (some ⟨g, 2 + i * 2, none⟩)) (W' := W) rfl rfl ?_ (hK _ _ (LKeep.refl _ _ _) rfl)
     go_simp
    | 5, hoi, hom =>
     have l4 := haft _ rfl ⟨4, .data⟩ (by simp) rfl
     have s4 : ao.tmps[20]?.getD undef = .pointer (some ⟨g, 2 + i * 2, none⟩) := (hU.slot 4 (by decide) l4).trans (hpv 4 l4)
     have y0 := (hk.cell (b := g) (o := 2 + i * 2) (hzg) (fun h => h)).trans (sl)
     have y1 := (hk.cell (b := g) (o := 2 + i * 2 + 1) (hzg) (fun h => h)).trans (sh)
     refine wpOp_value (v := spanVal si) (W' := W) rfl rfl ?_ (hK _ _ (LKeep.refl _ _ _) rfl)
     go_simp
    | 6, hoi, hom =>
     have z5 : ao.tmps[5]?.getD undef = .pointer (some ⟨w1.heap.size, 0, none⟩) := hU.same 5 (by decide)
     have y0 := (hk.cell (b := w1.heap.size) (o := 0) (hzo) (fun h => h)).trans (o0)
     have y1 := (hk.cell (b := w1.heap.size) (o := 1) (hzo) (fun h => h)).trans (o1)
     refine wpOp_value (v := spanVal so) (W' := W) rfl rfl ?_ (hK _ _ (LKeep.refl _ _ _) rfl)
     go_simp
    | 7, hoi, hom =>
     have l5 := haft _ rfl ⟨5, .data⟩ (by simp) rfl
     have s5 : ao.tmps[21]?.getD undef = spanVal si := (hU.slot 5 (by decide) l5).trans (hpv 5 l5)
     have l6 := haft _ rfl ⟨6, .data⟩ (by simp) rfl
     have s6 : ao.tmps[22]?.getD undef = spanVal so := (hU.slot 6 (by decide) l6).trans (hpv 6 l6)
     refine wpOp_enter (f := 102) (args := #[spanVal si, spanVal so]) (W' := W) rfl rfl ?_ ((minus_any si so W).mono (fun e w'' h => ?_))
     · go_simp
     · obtain ⟨he, hbw⟩ := h
       exact ⟨_, he, hK _ _ (LKeep.below hbw (fun h => h)) rfl⟩
    | 8, hoi, hom =>
     have z0 : ao.tmps[0]?.getD undef = .pointer (some ⟨g, 0, none⟩) := hU.same 0 (by decide)
     refine wpOp_value (v := .pointer (some ⟨g, 0, none⟩)) (W' := W) rfl rfl ?_ (hK _ _ (LKeep.refl _ _ _) rfl)
     go_simp
    | 9, hoi, hom =>
     have l8 := haft _ rfl ⟨8, .data⟩ (by simp) rfl
     have s8 : ao.tmps[24]?.getD undef = .pointer (some ⟨g, 0, none⟩) := (hU.slot 8 (by decide) l8).trans (hpv 8 l8)
     refine wpOp_value (v := .pointer (some ⟨g, 0, none⟩)) (W' := W) rfl rfl ?_ (hK _ _ (LKeep.refl _ _ _) rfl)
     go_simp
    | 10, hoi, hom =>
     have l9 := haft _ rfl ⟨9, .data⟩ (by simp) rfl
     have s9 : ao.tmps[25]?.getD undef = .pointer (some ⟨g, 0, none⟩) := (hU.slot 9 (by decide) l9).trans (hpv 9 l9)
     refine wpOp_value (v := .pointer (some ⟨g, 0, none⟩)) (W' := W) rfl rfl ?_ (hK _ _ (LKeep.refl _ _ _) rfl)
     go_simp
    | 11, hoi, hom =>
     have l10 := haft _ rfl ⟨10, .data⟩ (by simp) rfl
     have s10 : ao.tmps[26]?.getD undef = .pointer (some ⟨g, 0, none⟩) := (hU.slot 10 (by decide) l10).trans (hpv 10 l10)
     refine wpOp_value (v := .pointer (some ⟨g, 0, none⟩)) (W' := W) rfl rfl ?_ (hK _ _ (LKeep.refl _ _ _) rfl)
     go_simp
    | 12, hoi, hom =>
     have l11 := haft _ rfl ⟨11, .data⟩ (by simp) rfl
     have s11 : ao.tmps[27]?.getD undef = .pointer (some ⟨g, 0, none⟩) := (hU.slot 11 (by decide) l11).trans (hpv 11 l11)
     have y0 := (hk.cell (b := g) (o := 0) (hzg) (fun h => h)).trans (g0)
     refine wpOp_value (v := .slice (some ⟨bs, os, none⟩) b.steps.length a.c1) (W' := W) rfl rfl ?_ (hK _ _ (LKeep.refl _ _ _) rfl)
     go_simp
    | 13, hoi, hom =>
     have z1 : ao.tmps[1]?.getD undef = .int .i64 (i : Nat) := hU.same 1 (by decide)
     refine wpOp_value (v := .int .i64 (i : Nat)) (W' := W) rfl rfl ?_ (hK _ _ (LKeep.refl _ _ _) rfl)
     go_simp
    | 14, hoi, hom =>
     have l12 := haft _ rfl ⟨12, .data⟩ (by simp) rfl
     have s12 : ao.tmps[28]?.getD undef = .slice (some ⟨bs, os, none⟩) b.steps.length a.c1 := (hU.slot 12 (by decide) l12).trans (hpv 12 l12)
     have l13 := haft _ rfl ⟨13, .data⟩ (by simp) rfl
     have s13 : ao.tmps[29]?.getD undef = .int .i64 (i : Nat) := (hU.slot 13 (by decide) l13).trans (hpv 13 l13)
     refine wpOp_value (v := .pointer (some ⟨bs, os + i * 3, none⟩)) (W' := W) rfl rfl ?_ (hK _ _ (LKeep.refl _ _ _) rfl)
     go_simp
    | 15, hoi, hom =>
     have l14 := haft _ rfl ⟨14, .data⟩ (by simp) rfl
     have s14 : ao.tmps[30]?.getD undef = .pointer (some ⟨bs, os + i * 3, none⟩) := (hU.slot 14 (by decide) l14).trans (hpv 14 l14)
     refine wpOp_value (v := .pointer (some ⟨bs, os + i * 3 + 2, none⟩)) (W' := W) rfl rfl ?_ (hK _ _ (LKeep.refl _ _ _) rfl)
     go_simp
    | 16, hoi, hom =>
     have l15 := haft _ rfl ⟨15, .data⟩ (by simp) rfl
     have s15 : ao.tmps[31]?.getD undef = .pointer (some ⟨bs, os + i * 3 + 2, none⟩) := (hU.slot 15 (by decide) l15).trans (hpv 15 l15)
     have y0 := (hk.cell (b := bs) (o := os + i * 3 + 2) (hbs) (fun h => h)).trans (s2)
     refine wpOp_value (v := .int .i64 ls) (W' := W) rfl rfl ?_ (hK _ _ (LKeep.refl _ _ _) rfl)
     go_simp
    | 17, hoi, hom =>
     have l16 := haft _ rfl ⟨16, .data⟩ (by simp) rfl
     have s16 : ao.tmps[32]?.getD undef = .int .i64 ls := (hU.slot 16 (by decide) l16).trans (hpv 16 l16)
     refine wpOp_enter (f := 103) (args := #[.int .i64 ls]) (W' := W) rfl rfl ?_ ((upTo_any ls W).mono (fun e w'' h => ?_))
     · go_simp
     · obtain ⟨he, hbw⟩ := h
       exact ⟨_, he, hK _ _ (LKeep.below hbw (fun h => h)) rfl⟩
    | 18, hoi, hom =>
     have l7 := haft _ rfl ⟨7, .data⟩ (by simp) rfl
     have s7 : ao.tmps[23]?.getD undef = spanVal (lessW si so) := (hU.slot 7 (by decide) l7).trans (hpv 7 l7)
     have l17 := haft _ rfl ⟨17, .data⟩ (by simp) rfl
     have s17 : ao.tmps[33]?.getD undef = spanVal ⟨0, ls⟩ := (hU.slot 17 (by decide) l17).trans (hpv 17 l17)
     refine wpOp_enter (f := 101) (args := #[spanVal (lessW si so), spanVal ⟨0, ls⟩]) (W' := W) rfl rfl ?_ ((both_any (lessW si so) ⟨0, ls⟩ W).mono (fun e w'' h => ?_))
     · go_simp
     · obtain ⟨he, hbw⟩ := h
       exact ⟨_, he, hK _ _ (LKeep.below hbw (fun h => h)) rfl⟩
    | oi + 19, hoi, hom => exact absurd (of_decide_eq_true hom) (by omega)
   case hend =>
    intro listed vs ao W hG hk0 hpv hpre
    have hkk := (LKeep.drew (fun _ => False) (M := fun _ => True) W3 (fun h => h)).trans hk0
    have hk := hkk.1
    have hkm := hkk.2
    clear hkk
    have hact := hG.act
    have hT := hG.lst hpre 0 #[true, true, true, true, true, true, true, true, true, true, true, true, true, true, true, true, true, true, true, false] rfl (by kernel_rfl) (hpre 0 (by decide) (by decide))
    rw [hG.ix hT (l := [0, 1, 2, 3, 4, 5, 6, 7, 8, 9, 10, 11, 12, 13, 14, 15, 16, 17, 18]) (by kernel_rfl)] at hact
    rw [hG.lo hT (k := 1) (by kernel_rfl)]
    have hv0 : vs 0 = .pointer (some ⟨g, 0, none⟩) := hpv 0 (hpre 0 (by decide) (by decide))
    have hv1 : vs 1 = .int .i64 (i : Nat) := hpv 1 (hpre 1 (by decide) (by decide))
    have hv2 : vs 2 = .pointer (some ⟨g, 0, none⟩) := hpv 2 (hpre 2 (by decide) (by decide))
    have hv3 : vs 3 = .pointer (some ⟨g, 2, none⟩) := hpv 3 (hpre 3 (by decide) (by decide))
    have hv4 : vs 4 = .pointer (some ⟨g, 2 + i * 2, none⟩) := hpv 4 (hpre 4 (by decide) (by decide))
    have hv5 : vs 5 = spanVal si := hpv 5 (hpre 5 (by decide) (by decide))
    have hv6 : vs 6 = spanVal so := hpv 6 (hpre 6 (by decide) (by decide))
    have hv7 : vs 7 = spanVal (lessW si so) := hpv 7 (hpre 7 (by decide) (by decide))
    have hv8 : vs 8 = .pointer (some ⟨g, 0, none⟩) := hpv 8 (hpre 8 (by decide) (by decide))
    have hv9 : vs 9 = .pointer (some ⟨g, 0, none⟩) := hpv 9 (hpre 9 (by decide) (by decide))
    have hv10 : vs 10 = .pointer (some ⟨g, 0, none⟩) := hpv 10 (hpre 10 (by decide) (by decide))
    have hv11 : vs 11 = .pointer (some ⟨g, 0, none⟩) := hpv 11 (hpre 11 (by decide) (by decide))
    have hv12 : vs 12 = .slice (some ⟨bs, os, none⟩) b.steps.length a.c1 := hpv 12 (hpre 12 (by decide) (by decide))
    have hv13 : vs 13 = .int .i64 (i : Nat) := hpv 13 (hpre 13 (by decide) (by decide))
    have hv14 : vs 14 = .pointer (some ⟨bs, os + i * 3, none⟩) := hpv 14 (hpre 14 (by decide) (by decide))
    have hv15 : vs 15 = .pointer (some ⟨bs, os + i * 3 + 2, none⟩) := hpv 15 (hpre 15 (by decide) (by decide))
    have hv16 : vs 16 = .int .i64 ls := hpv 16 (hpre 16 (by decide) (by decide))
    have hv17 : vs 17 = spanVal ⟨0, ls⟩ := hpv 17 (hpre 17 (by decide) (by decide))
    have hv18 : vs 18 = spanVal (both (lessW si so) ⟨0, ls⟩) := hpv 18 (hpre 18 (by decide) (by decide))
    clear hpv hpre hG hk0
    obtain rfl : ao = _ := hact
    subst hT
    simp only [setAll, List.setIfInBounds_toArray, List.set_cons_succ, List.set_cons_zero, List.getD_cons_succ, List.getD_cons_zero]
    simp only [hv0, hv1, hv2, hv3, hv4, hv5, hv6, hv7, hv8, hv9, hv10, hv11, hv12, hv13, hv14, hv15, hv16, hv17, hv18]
    clear hv0 hv1 hv2 hv3 hv4 hv5 hv6 hv7 hv8 hv9 hv10 hv11 hv12 hv13 hv14 hv15 hv16 hv17 hv18
    have n9 := HR.out.keep hk (fun h => h)
    have c0 := n9.at_ 0
    have c1 := n9.at_ 1
    have f0 := n9.free 0
    have f1 := n9.free 1
    simp only [List.getElem?_toArray, List.getElem?_cons_zero, List.getElem?_cons_succ] at c0 c1
    refine wpAny_all (rs := [19]) (by kernel_rfl) (by simp) ?_
    intro i2 hi2
    obtain rfl : i2 = 19 := by simpa using hi2
    refine wpOp_skip (W' := (W.setCell ⟨w.heap.size, 0, none⟩ (.int .i64 (both (lessW si so) ⟨0, ls⟩).lo)).setCell ⟨w.heap.size, 1, none⟩ (.int .i64 (both (lessW si so) ⟨0, ls⟩).hi)) rfl rfl ?_ ?_
    · go_simp
    refine wpAny_done (by kernel_rfl) ?_ _
    have b2 : Blk ((W.setCell ⟨w.heap.size, 0, none⟩ (.int .i64 (both (lessW si so) ⟨0, ls⟩).lo)).setCell ⟨w.heap.size, 1, none⟩ (.int .i64 (both (lessW si so) ⟨0, ls⟩).hi)) (w.heap.size) 30 #[.int .i64 (both (lessW si so) ⟨0, ls⟩).lo, .int .i64 (both (lessW si so) ⟨0, ls⟩).hi] := (n9.store 0 _).store 1 _
    have hs : Keep (fun q => q = w.heap.size) W ((W.setCell ⟨w.heap.size, 0, none⟩ (.int .i64 (both (lessW si so) ⟨0, ls⟩).lo)).setCell ⟨w.heap.size, 1, none⟩ (.int .i64 (both (lessW si so) ⟨0, ls⟩).hi)) := (Keep.setCell _ _ _ (fun q => q = w.heap.size) rfl).trans (Keep.setCell _ _ _ (fun q => q = w.heap.size) rfl)
    have hbw := HB3.out.trans (((hk.mono (S' := fun q => q = w.heap.size) (fun k _ h => h.elim)).trans hs).below (B := w.heap.size) (fun k h => by omega) (by omega))
    clear n9 c0 c1 f0 f1 hs hk hkm
    generalize (W.setCell ⟨w.heap.size, 0, none⟩ (.int .i64 (both (lessW si so) ⟨0, ls⟩).lo)).setCell ⟨w.heap.size, 1, none⟩ (.int .i64 (both (lessW si so) ⟨0, ls⟩).hi) = W8 at *
    have r0 := b2.at_ 0
    have r1 := b2.at_ 1
    simp only [List.getElem?_toArray, List.getElem?_cons_zero, List.getElem?_cons_succ] at r0 r1
    have HW := hide hbw
    clear hbw b2
    go_wp2_with fail
    refine bodyPost_ret (v := spanVal (both (lessW si so) ⟨0, ls⟩)) (by simp [results, Tryz.results71, go_sem, r0, r1]) rfl ⟨by rw [HX.out], HW.out⟩
end Go.Proofs.YtocdmkilnbpkdaaGreatDoor
