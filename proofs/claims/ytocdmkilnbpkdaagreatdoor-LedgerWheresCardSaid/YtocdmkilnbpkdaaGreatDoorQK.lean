/- known, asked, Hands, Losses and Lost of the reference. -/
import Derived.Test.YtocdmkilnbpkdaaGreatDoorQJ
import Derived.Test.YtocdmkilnbpkdaaGreatDoorQG
import Derived.OwnWalkIn
import Derived.Deep.MidRow
import Derived.OwnWalk
import Derived.Laws.AppendOwn
import Derived.Laws.StructEq
import Derived.TacticsInMore
import Derived.Deep.DeepCutAuto
set_option linter.unusedVariables false
set_option linter.unusedSimpArgs false
namespace Go.Proofs.YtocdmkilnbpkdaaGreatDoor
open Go.RowKit
attribute [local go_sem] Oper.semAt_some

def knownE (b : Book) (e : Int) : Int := if e = 0 then (if someB b (fun _ => false) then 0 else 8) else e
def askK (b : Book) (s : Int) : Int := if (checkM b).2.2 ≠ 0 then (checkM b).2.2 else if offP 0 ((b.steps.length : Int) - 1) s then 4 else 0
theorem known_ask (b : Book) (s : Int) : knownE b (askK b s) = enterK b s := by
 by_cases h : (checkM b).2.2 = 0
 · cases ho : offP 0 ((b.steps.length : Int) - 1) s <;> simp [knownE, askK, enterK, h, ho]
 · simp [knownE, askK, enterK, h]
theorem ask_valid {b : Book} {s : Int} (h : askK b s = 0) : (checkM b).2.2 = 0 := by
 unfold askK at h
 apply Classical.byContradiction
 intro hc
 rw [if_pos hc] at h
 exact hc h
set_option maxRecDepth 100000 in
theorem known12_any {b : Book} {a : BA} {w : World} (h : BookV w w.heap.size b a) {e : Int} (he : e = 0 → (checkM b).2.2 = 0) :
 Calls Tryz.prog 67 #[bookVal b a, .int .i64 e] w fun r w' => r = .returned (.int .i64 (knownE b e)) ∧ Below w.heap.size w w' := by
 have HX := hide (BoxB.made h)
 have HB := hide (show Below w.heap.size w (w.alloc (.cells (bookCells b a) 25)) from (Below.refl _ _).alloc (Nat.le_refl _) _)
 clear h
 go_enter Tryz.func67, Tryz.ntmps67
 go_upto_region 1 with (fail)
 generalize w.alloc (.cells (bookCells b a) 25) = v at *
 obtain ⟨z, x0, x1⟩ := HX.out.cells
 by_cases h0 : e = 0
 · have hg := valid12_good (he h0)
   subst h0
   have HG := hide hg
   clear he hg
   have HS := hide (show someB b (fun _ => false) = someB b (hasInt [] ·) from rfl)
   have HK := hide (show knownE b 0 = if someB b (hasInt [] ·) then 0 else 8 from rfl)
   cases hs : someB b (hasInt [] ·) with
   | true =>
    rw [hs] at HK
    have HS1 := hide hs
    clear hs
    go_wp2_with (go_at_call 52; refine (some12_any HX.out.v HG.out.1 HG.out.2 (IntsS.nil_ (w := v))).mono ?_; rintro e v1 ⟨rfl, hb⟩; rw [HS1.out])
    go_ret
    exact ⟨by rw [HK.out]; rfl, HB.out.trans (hb.mono HB.out.size)⟩
   | false =>
    rw [hs] at HK
    have HS1 := hide hs
    clear hs
    go_wp2_with (go_at_call 52; refine (some12_any HX.out.v HG.out.1 HG.out.2 (IntsS.nil_ (w := v))).mono ?_; rintro e v1 ⟨rfl, hb⟩; rw [HS1.out])
    go_ret
    exact ⟨by rw [HK.out]; rfl, HB.out.trans (hb.mono HB.out.size)⟩
 · have hd : (e == 0) = false := by simp [h0]
   have HK := hide (show knownE b e = e from if_neg h0)
   clear he h0
   go_wp2_with fail
   go_ret
   exact ⟨by rw [HK.out]; rfl, HB.out⟩
set_option maxRecDepth 100000 in
theorem asked12_any {b : Book} {a : BA} {w : World} (h : BookV w w.heap.size b a) (s : Int) :
 Calls Tryz.prog 68 #[bookVal b a, .int .i64 s] w fun r w' => r = .returned (.int .i64 (askK b s)) ∧ Below w.heap.size w w' := by
 have HX := hide (BoxB.made h)
 have HB := hide (show Below w.heap.size w (w.alloc (.cells (bookCells b a) 25)) from (Below.refl _ _).alloc (Nat.le_refl _) _)
 have hm1 := h.m1
 unfold maxLen at hm1
 clear h
 go_enter Tryz.func68, Tryz.ntmps68
 go_upto_region 1 with (fail)
 generalize w.alloc (.cells (bookCells b a) 25) = v at *
 obtain ⟨z, x0, x1⟩ := HX.out.cells
 have HC := hide (check12_any HX.out.v)
 have HAK := hide (show askK b s = if (checkM b).2.2 ≠ 0 then (checkM b).2.2 else if offP 0 ((b.steps.length : Int) - 1) s then 4 else 0 from rfl)
 go_upto_region 2 with (go_at_call 18; refine HC.out.mono ?_; rintro e v1 ⟨rfl, hb⟩)
 have HX1 := hide (HX.out.next hb)
 have HB1 := hide (HB.out.trans (hb.mono HB.out.size))
 clear z x0 x1 hb HX HC
 obtain ⟨z, x0, x1⟩ := HX1.out.cells
 generalize (checkM b).2.2 = ce at *
 generalize (checkM b).1 = c1 at *
 generalize (checkM b).2.1 = c2 at *
 have hw1 : IntKind.i64.wrap ((b.steps.length : Int) - 1) = (b.steps.length : Int) - 1 := IntWalk.i64_in _ (by omega)
 by_cases h0 : ce = 0
 · subst h0
   have HOF := hide (inB_off s 0 ((b.steps.length : Int) - 1))
   cases hin : inB s 0 ((b.steps.length : Int) - 1) with
   | true =>
    have HO := hide (show offP 0 ((b.steps.length : Int) - 1) s = false by have := HOF.out; rw [hin] at this; simpa using this.symm)
    have HIN := hide hin
    clear hin
    go_wp2_with (go_at_call 56; refine (in_any _ _ _ _).mono ?_; rintro e w9 ⟨rfl, rfl⟩; rw [HIN.out])
    go_ret
    exact ⟨by rw [HAK.out, HO.out]; rfl, HB1.out⟩
   | false =>
    have HO := hide (show offP 0 ((b.steps.length : Int) - 1) s = true by have := HOF.out; rw [hin] at this; simpa using this.symm)
    have HIN := hide hin
    clear hin
    go_wp2_with (go_at_call 56; refine (in_any _ _ _ _).mono ?_; rintro e w9 ⟨rfl, rfl⟩; rw [HIN.out])
    go_ret
    exact ⟨by rw [HAK.out, HO.out]; rfl, HB1.out⟩
 · have hd : (ce == 0) = false := by simp [h0]
   rw [if_pos h0] at HAK
   clear h0
   go_wp2_with fail
   go_ret
   exact ⟨by rw [HAK.out]; rfl, HB1.out⟩

theorem lost_sum {b : Book} (hg : Good b) (hs : someB b (hasInt [] ·) = true) {i : Nat} (m : Nat) :
 sumsS (setOf ⟨0, 0⟩) (fun k => setOf ((wayOf b).u (cB b (hasInt [] ·)) k)) (behindB b i) m = setOf ⟨sLo ((wayOf b).u (cB b (hasInt [] ·))) ((wayOf b).kids i), sHi ((wayOf b).u (cB b (hasInt [] ·))) ((wayOf b).kids i)⟩ m := by
 have hn := u_ne hg.way hs
 rw [behind_kids hg, sums_setOf m ⟨Int.le_refl _, Int.le_refl _⟩ fun k hk => ⟨(u_pos hg.way (cB_99 b _) k (kid_gt hg.way hk).2).1, hn k (kid_gt hg.way hk).2⟩]
 dsimp only
 rw [Int.zero_add, Int.zero_add]
theorem lost_dif {b : Book} (hg : Good b) (hs : someB b (hasInt [] ·) = true) {i : Nat} (hi : i < b.steps.length) (hk : behindB b i ≠ []) {n : Nat} (hn : (n : Int) = (nth b.steps i).loss + 1) (t : Nat) :
 difTo (fun _ => true) (sumsS (setOf ⟨0, 0⟩) (fun k => setOf ((wayOf b).u (cB b (hasInt [] ·)) k)) (behindB b i)) (setOf ((wayOf b).d (cB b (hasInt [] ·)) i)) n 0 t = setOf (lostB b i) t := by
 rw [behind_kids hg] at hk
 have h1 := setOf_lost hg.way (cB_99 b _) (u_ne hg.way hs) hi hk (fun m => lost_sum hg hs m) (t := t)
 have e : lostB b i = (wayOf b).lost (cB b (hasInt [] ·)) i := rfl
 have e2 : (wayOf b).loss i = (nth b.steps i).loss := rfl
 rw [e, h1, e2]
 by_cases ht : (t : Int) ≤ (nth b.steps i).loss
 · rw [difTo_all (by omega), decide_eq_true ht]
 · have h2 : ¬ t < n := by omega
   rw [decide_eq_false ht, Bool.false_and]
   simp [difTo, h2]
set_option maxHeartbeats 2000000 in
set_option maxRecDepth 100000 in
theorem losses12_any {b : Book} {a : BA} {w : World} (h : BookV w w.heap.size b a) (hg : Good b) (h12 : b.tallies.length ≤ 12) (hs : someB b (hasInt [] ·) = true) {i : Nat} (hi : i < b.steps.length) :
 Calls Tryz.prog 72 #[bookVal b a, .int .i64 (i : Int)] w fun r w' => r = .returned (setV (setOf (lostB b i))) ∧ Below w.heap.size w w' := by
 have hz := zero95
 have h6 := hg.six
 have hlo := hg.loss i hi
 have HG := hide hg
 have HSM := hide hs
 have HV0 := hide h
 clear h hg hs
 go_enter Tryz.func72, Tryz.ntmps72
 go_upto_region 1 with (fail)
 have hb0 : Below w.heap.size w (w.alloc (.cells (bookCells b a) 25)) := (Below.refl _ _).alloc (Nat.le_refl _) _
 have hb1 : Below (w.alloc (.cells (bookCells b a) 25)).heap.size (w.alloc (.cells (bookCells b a) 25)) ((w.alloc (.cells (bookCells b a) 25)).alloc (.cells (setL fun _ => false).toArray 95)) := (Below.refl _ _).alloc (Nat.le_refl _) _
 have HX := hide (BoxB.next (BoxB.made HV0.out) hb1)
 have HB := hide (hb0.trans (hb1.mono hb0.size))
 have HR := hide (show SetB ((w.alloc (.cells (bookCells b a) 25)).alloc (.cells (setL fun _ => false).toArray 95)) (w.heap.size + 1) (fun _ => false) from Blk.made' (by simp))
 generalize ((w.alloc (.cells (bookCells b a) 25)).alloc (.cells (setL fun _ => false).toArray 95)) = v at *
 clear hb0 hb1
 have hzr := HR.out.lt
 obtain ⟨gz, x0, x1⟩ := HX.out.cells
 go_upto_region 2 with (go_at_call 44; refine (behind12_any HX.out.v h6 i).mono ?_; rintro e v1 ⟨lA, lc, rfl, hl, hlf, hb⟩)
 have HX1 := hide (HX.out.next hb)
 have HB1 := hide (HB.out.trans (hb.mono HB.out.size))
 have HR1 := hide (HR.out.next hb)
 have HL := hide hl
 have HL0 := hide hl
 have HLF := hide hlf
 have hz1 := hb.size
 clear gz x0 x1 hl hlf hb HX HR
 have HME := hide (show ∀ k, k ∈ behindB b i → i < k ∧ k < b.steps.length from fun k hk => by
  rw [behind_kids HG.out i] at hk
  exact kid_gt HG.out.way hk)
 have HLZ := hide (show behindB b i = [] → lostB b i = ⟨0, 0⟩ from fun e => by
  rw [behind_kids HG.out] at e
  rw [lostB, Way.lost, if_pos e])
 have HLD := hide (fun (hk : behindB b i ≠ []) (n : Nat) (hn : (n : Int) = (nth b.steps i).loss + 1) (t : Nat) => lost_dif HG.out HSM.out hi hk hn t)
 have hbd := behTo_le b i b.steps.length
 change (behindB b i).length ≤ b.steps.length at hbd
 generalize behindB b i = l at *
 generalize hls : lostB b i = lsp at *
 have HLS := hide hls
 clear hls
 by_cases hl0 : l = []
 · have HE := hide (HLZ.out hl0)
   have hlen : l.length = 0 := by rw [hl0]; rfl
   have hlt0 : ((l.length : Nat) : Int) = 0 := by omega
   clear HLZ HLD hl0
   rw [hlen] at HL
   go_wp2_with (first | (go_at_call 104; refine (zero12_any _).mono ?_; rintro e v2 ⟨rfl, hb2⟩) | (refine wpList_store_mid rfl 95 (.tmp 4) (.tmp 19) rfl _ _ _ rfl rfl ?h1 ?h2 ?h3 ?_; (case h1 => exact (HR1.out.next hb2).there _); (case h2 => exact size95' _); (case h3 => exact setL_all _)))
   refine bodyPost_ret (v := setV (setOf ⟨0, 0⟩)) (results_cell_row rfl _ _ (w.heap.size + 1) 95 (setL (setOf ⟨0, 0⟩)).toArray (0, 0) _ rfl ((HR1.out.next hb2).whole (setOf ⟨0, 0⟩)) Tryz.underlying95 rfl (size95' _)) rfl ⟨by rw [HLS.out, HE.out], set_below (HB1.out.trans (hb2.mono HB1.out.size)) (by omega) (by have := hb2.size; omega)⟩
 · have hlp : 0 < l.length := List.length_pos_iff.2 hl0
   have hlz : ((l.length : Int) == 0) = false := beq_false_of_ne (by omega)
   have HLD := hide (HLD.out hl0)
   obtain ⟨gz, x0, x1⟩ := HX1.out.cells
   clear HLZ hl0
   go_upto_region 5 with (first | (go_at_call 91; refine (up12_any HX1.out.v HG.out h12 (IntsS.nil_ (w := v1))).mono ?_; rintro e v2 ⟨g, rfl, hgg, hsu, hb2⟩) | (go_at_call 104; refine (zero12_any _).mono ?_; rintro e y1 ⟨rfl, hb3⟩) | (refine wpList_store_mid rfl 95 (.tmp 7) (.tmp 22) rfl _ _ _ rfl rfl ?h1 ?h2 ?h3 ?_; (case h1 => exact SetB.there SetB.made _); (case h2 => exact size95' _); (case h3 => exact setL_all _)))
   have hbx : Below v1.heap.size v1 ((y1.alloc (.cells (setL fun _ => false).toArray 95)).setCells y1.heap.size 0 (setL (setOf ⟨0, 0⟩))) := set_below ((hb2.trans (hb3.mono hb2.size)).trans ((Below.refl _ _).alloc (Nat.le_trans hb2.size hb3.size) _)) (Nat.le_trans hb2.size hb3.size) (by simp; have := hb2.size; have := hb3.size; omega)
   have hby : Below v2.heap.size v2 ((y1.alloc (.cells (setL fun _ => false).toArray 95)).setCells y1.heap.size 0 (setL (setOf ⟨0, 0⟩))) := set_below (hb3.trans ((Below.refl _ _).alloc hb3.size _)) hb3.size (by simp; have := hb3.size; omega)
   have HN6 := hide (show SetB ((y1.alloc (.cells (setL fun _ => false).toArray 95)).setCells y1.heap.size 0 (setL (setOf ⟨0, 0⟩))) y1.heap.size (setOf ⟨0, 0⟩) from SetB.made.whole _)
   have HU6 := hide (hsu.next hby)
   have HX6 := hide (HX1.out.next hbx)
   have HB6 := hide (HB1.out.trans (hbx.mono HB1.out.size))
   have HR6 := hide (HR1.out.next hbx)
   have HL6 := hide (HL.out.next hbx)
   have hgx := Nat.le_trans hb2.size hb3.size
   have hgg3 := Nat.lt_of_lt_of_le hsu.lt hb3.size
   have hq1 := HX1.out.k.lt
   have hq2 := HR1.out.lt
   clear gz x0 x1 hbx hby hb2 hb3 hsu HX1 HR1 HL HB1
   generalize ((y1.alloc (.cells (setL fun _ => false).toArray 95)).setCells y1.heap.size 0 (setL (setOf ⟨0, 0⟩))) = v6 at *
   have hz6 := HN6.out.lt
   generalize y1.heap.size = gx at *
   have HBL := hide (show ∀ q, (∃ lof, lA = some ⟨q, lof, none⟩) → q < v1.heap.size ∨ True from fun _ _ => .inr trivial)
   clear HBL hlz
   go_wp2_with fail
   go_loopw [8, 23, 24, 25, 26, 27, 28, 29, 30, 31, 32, 33, 34, 35, 36, 37] (fun v8 _ _ _ _ _ _ _ _ _ _ _ _ _ _ _ wr => ∃ k : Nat, k ≤ l.length ∧ v8 = .int .i64 (k : Nat) ∧ Hid (SetB wr gx (sumsS (setOf ⟨0, 0⟩) (fun k => setOf ((wayOf b).u (cB b (hasInt [] ·)) k)) (l.take k))) ∧ Hid (Keep (fun k => k = gx) v6 wr)) (fun v8 _ _ _ _ _ _ _ _ _ _ _ _ _ _ _ _ => l.length - (intOf v8).toNat)
   case atStart => exact ⟨0, by omega, rfl, HN6, hide (Keep.refl _ _)⟩
   case round =>
    obtain ⟨k, hk, rfl, HN7, HK7⟩ := hrel
    obtain ⟨v7, rfl⟩ : ∃ v7 : World, v7 = wr := ⟨_, rfl⟩
    have hk0 : (0 : Int) ≤ (k : Int) := Int.natCast_nonneg _
    have HU7 := hide (HU6.out.keep HK7.out (by omega))
    have hz7 := HK7.out.size
    by_cases hltk : k < l.length
    · have hk1 : (k : Int) < ((l.length : Nat) : Int) := by omega
      have HTK := hide (take_snoc (l := l) hltk)
      obtain ⟨lb, lof, rfl, hlb, lx⟩ := HL0.out.at_ hltk
      have lx := (HL6.out.at_ hltk)
      obtain ⟨lb', lof', e9, hlb', lx⟩ := lx
      simp only [Option.some.injEq, Addr.mk.injEq, and_true] at e9
      obtain ⟨rfl, rfl⟩ := e9
      rw [natInts_nth hltk] at lx
      have hq := HME.out (nth l k) (nth_mem hltk)
      have lx := (HK7.out.cell (b := lb) (o := lof + k) hlb' (fun e => by omega)).trans lx
      generalize nth l k = q at *
      have hq0 : (0 : Int) ≤ (q : Int) := Int.natCast_nonneg _
      have hq1' : (q : Int) < (b.steps.length : Int) := by omega
      have hzl : lb < v7.heap.size := by omega
      have hzx := HN7.out.lt
      have HQ := hide hq
      have HXE := hide (show sumS (sumsS (setOf ⟨0, 0⟩) (fun k => setOf ((wayOf b).u (cB b (hasInt [] ·)) k)) (l.take k)) (setOf ((wayOf b).u (cB b (hasInt [] ·)) q)) = sumsS (setOf ⟨0, 0⟩) (fun k => setOf ((wayOf b).u (cB b (hasInt [] ·)) k)) (l.take (k + 1)) by rw [HTK.out, sums_snoc])
      generalize hX : (sumsS (setOf ⟨0, 0⟩) (fun k => setOf ((wayOf b).u (cB b (hasInt [] ·)) k)) (l.take k)) = X at *
      clear hX HTK
      go_upto_region 8 with fail
      refine wp_region_rel4 (dst := fun oi => [29, 30, 31, 32, 33, 34, 35, 36, 37, 3].getD oi 0) (mono := fun oi => decide (oi < 9)) (pre := fun oi => decide (oi < 9)) (R := LKeep (fun _ => False) (fun _ => True))
       (Pv := fun oi v W => match oi with
        | 0 => v = setV (X)
        | 1 => v = .slice (some ⟨g, 0, none⟩) b.steps.length b.steps.length
        | 2 => v = .slice (some ⟨lb, lof, none⟩) l.length lc
        | 3 => v = .int .i64 (k : Nat)
        | 4 => v = .pointer (some ⟨lb, lof + k, none⟩)
        | 5 => v = .int .i64 (q : Nat)
        | 6 => v = .pointer (some ⟨g, q * 100, none⟩)
        | 7 => v = setV (setOf ((wayOf b).u (cB b (hasInt [] ·)) q))
        | 8 => v = setV (sumS (X) (setOf ((wayOf b).u (cB b (hasInt [] ·)) q)))
        | _ => True) (by kernel_rfl) (by kernel_rfl) (LKeep.refl _ _) (fun _ _ _ h h' => h.trans h') ?hsts ?hsteps ?hends
      case hsts =>
       intro oi v W W' h hk
       match oi, h with
       | 0, h => exact h
       | 1, h => exact h
       | 2, h => exact h
       | 3, h => exact h
       | 4, h => exact h
       | 5, h => exact h
       | 6, h => exact h
       | 7, h => exact h
       | 8, h => exact h
       | oi + 9, h => exact trivial
      case hsteps =>
       intro oi hoi hom listed vs ao W hU hk0 hpv haft Ko hK
       have hkk := (LKeep.drew (fun _ => False) (M := fun _ => True) v7 (fun h => h)).trans hk0
       have hk := hkk.1
       have hkm := hkk.2
       clear hkk
       match oi, hoi, hom with
       | 0, hoi, hom =>
        have z7 : ao.tmps[7]?.getD undef = .pointer (some ⟨gx, 0, none⟩) := hU.same 7 (by decide)
        refine wpOp_value (v := setV (X)) (W' := W) rfl rfl (exec_load_set rfl (by simpa [go_sem] using z7) (SetB.range (HN7.out.keep hk (fun h => h)))) (hK _ _ (LKeep.refl _ _ _) rfl)
       | 1, hoi, hom =>
        have z6 : ao.tmps[6]?.getD undef = .slice (some ⟨g, 0, none⟩) b.steps.length b.steps.length := hU.same 6 (by decide)
        refine wpOp_value (v := .slice (some ⟨g, 0, none⟩) b.steps.length b.steps.length) (W' := W) rfl rfl ?_ (hK _ _ (LKeep.refl _ _ _) rfl)
        go_simp
       | 2, hoi, hom =>
        have z5 : ao.tmps[5]?.getD undef = .slice (some ⟨lb, lof, none⟩) l.length lc := hU.same 5 (by decide)
        refine wpOp_value (v := .slice (some ⟨lb, lof, none⟩) l.length lc) (W' := W) rfl rfl ?_ (hK _ _ (LKeep.refl _ _ _) rfl)
        go_simp
       | 3, hoi, hom =>
        have z8 : ao.tmps[8]?.getD undef = .int .i64 (k : Nat) := hU.same 8 (by decide)
        refine wpOp_value (v := .int .i64 (k : Nat)) (W' := W) rfl rfl ?_ (hK _ _ (LKeep.refl _ _ _) rfl)
        go_simp
       | 4, hoi, hom =>
        have l2 := haft _ rfl ⟨2, .data⟩ (by simp) rfl
        have s2 : ao.tmps[31]?.getD undef = .slice (some ⟨lb, lof, none⟩) l.length lc := (hU.slot 2 (by decide) l2).trans (hpv 2 l2)
        have l3 := haft _ rfl ⟨3, .data⟩ (by simp) rfl
        have s3 : ao.tmps[32]?.getD undef = .int .i64 (k : Nat) := (hU.slot 3 (by decide) l3).trans (hpv 3 l3)
        refine wpOp_value (v := .pointer (some ⟨lb, lof + k, none⟩)) (W' := W) rfl rfl ?_ (hK _ _ (LKeep.refl _ _ _) rfl)
        go_simp
       | 5, hoi, hom =>
        have l4 := haft _ rfl ⟨4, .data⟩ (by simp) rfl
        have s4 : ao.tmps[33]?.getD undef = .pointer (some ⟨lb, lof + k, none⟩) := (hU.slot 4 (by decide) l4).trans (hpv 4 l4)
        have y0 := (hk.cell (b := lb) (o := lof + k) (hzl) (fun h => h)).trans (lx)
        refine wpOp_value (v := .int .i64 (q : Nat)) (W' := W) rfl rfl ?_ (hK _ _ (LKeep.refl _ _ _) rfl)
        go_simp
       | 6, hoi, hom =>
        have l1 := haft _ rfl ⟨1, .data⟩ (by simp) rfl
        have s1 : ao.tmps[30]?.getD undef = .slice (some ⟨g, 0, none⟩) b.steps.length b.steps.length := (hU.slot 1 (by decide) l1).trans (hpv 1 l1)
        have l5 := haft _ rfl ⟨5, .data⟩ (by simp) rfl
        have s5 : ao.tmps[34]?.getD undef = .int .i64 (q : Nat) := (hU.slot 5 (by decide) l5).trans (hpv 5 l5)
        refine wpOp_value (v := .pointer (some ⟨g, q * 100, none⟩)) (W' := W) rfl rfl ?_ (hK _ _ (LKeep.refl _ _ _) rfl)
        go_simp
       | 7, hoi, hom =>
        have l6 := haft _ rfl ⟨6, .data⟩ (by simp) rfl
        have s6 : ao.tmps[35]?.getD undef = .pointer (some ⟨g, q * 100, none⟩) := (hU.slot 6 (by decide) l6).trans (hpv 6 l6)
        have y9 := (HU7.out.keep hk (fun h => h)).range HQ.out.2
        skip
        refine wpOp_value (v := setV (setOf ((wayOf b).u (cB b (hasInt [] ·)) q))) (W' := W) rfl rfl (exec_load_set rfl (by simpa [go_sem] using s6) y9) (hK _ _ (LKeep.refl _ _ _) rfl)
       | 8, hoi, hom =>
        have l0 := haft _ rfl ⟨0, .data⟩ (by simp) rfl
        have s0 : ao.tmps[29]?.getD undef = setV (X) := (hU.slot 0 (by decide) l0).trans (hpv 0 l0)
        have l7 := haft _ rfl ⟨7, .data⟩ (by simp) rfl
        have s7 : ao.tmps[36]?.getD undef = setV (setOf ((wayOf b).u (cB b (hasInt [] ·)) q)) := (hU.slot 7 (by decide) l7).trans (hpv 7 l7)
        refine wpOp_enter (f := 99) (args := #[setV (X), setV (setOf ((wayOf b).u (cB b (hasInt [] ·)) q))]) (W' := W) rfl rfl ?_ ((sum12_any (X) (setOf ((wayOf b).u (cB b (hasInt [] ·)) q)) W).mono (fun e w'' h => ?_))
        · go_simp
        · obtain ⟨he, hbw⟩ := h
          exact ⟨_, he, hK _ _ (LKeep.below hbw (fun h => h)) rfl⟩
       | oi + 9, hoi, hom => exact absurd (of_decide_eq_true hom) (by omega)
      case hends =>
       intro listed vs ao W hG hk0 hpv hpre
       have hkk := (LKeep.drew (fun _ => False) (M := fun _ => True) v7 (fun h => h)).trans hk0
       have hk := hkk.1
       have hkm := hkk.2
       clear hkk
       have hact := hG.act
       have hT := hG.lst hpre 0 #[true, true, true, true, true, true, true, true, true, false] rfl (by kernel_rfl) (hpre 0 (by decide) (by decide))
       rw [hG.ix hT (l := [0, 1, 2, 3, 4, 5, 6, 7, 8]) (by kernel_rfl)] at hact
       rw [hG.lo hT (k := 1) (by kernel_rfl)]
       have hv0 : vs 0 = setV (X) := hpv 0 (hpre 0 (by decide) (by decide))
       have hv1 : vs 1 = .slice (some ⟨g, 0, none⟩) b.steps.length b.steps.length := hpv 1 (hpre 1 (by decide) (by decide))
       have hv2 : vs 2 = .slice (some ⟨lb, lof, none⟩) l.length lc := hpv 2 (hpre 2 (by decide) (by decide))
       have hv3 : vs 3 = .int .i64 (k : Nat) := hpv 3 (hpre 3 (by decide) (by decide))
       have hv4 : vs 4 = .pointer (some ⟨lb, lof + k, none⟩) := hpv 4 (hpre 4 (by decide) (by decide))
       have hv5 : vs 5 = .int .i64 (q : Nat) := hpv 5 (hpre 5 (by decide) (by decide))
       have hv6 : vs 6 = .pointer (some ⟨g, q * 100, none⟩) := hpv 6 (hpre 6 (by decide) (by decide))
       have hv7 : vs 7 = setV (setOf ((wayOf b).u (cB b (hasInt [] ·)) q)) := hpv 7 (hpre 7 (by decide) (by decide))
       have hv8 : vs 8 = setV (sumS (X) (setOf ((wayOf b).u (cB b (hasInt [] ·)) q))) := hpv 8 (hpre 8 (by decide) (by decide))
       clear hpv hpre hG hk0
       obtain rfl : ao = _ := hact
       subst hT
       simp only [setAll, List.setIfInBounds_toArray, List.set_cons_succ, List.set_cons_zero, List.getD_cons_succ, List.getD_cons_zero]
       simp only [hv0, hv1, hv2, hv3, hv4, hv5, hv6, hv7, hv8]
       clear hv0 hv1 hv2 hv3 hv4 hv5 hv6 hv7 hv8
       have n9 := HN7.out.keep hk (fun h => h)
       refine wpAny_all (rs := [9]) (by kernel_rfl) (by simp) ?_
       intro i2 hi2
       obtain rfl : i2 = 9 := by simpa using hi2
       refine wpOp_skip (W' := W.setCells gx 0 (setL (sumS (X) (setOf ((wayOf b).u (cB b (hasInt [] ·)) q))))) rfl rfl (exec_store_set rfl (by simp [go_sem]) (by simp [go_sem]) (n9.there _)) ?_
       refine wpAny_done (by kernel_rfl) ?_ _
       have HN9 := hide (n9.whole (sumS (X) (setOf ((wayOf b).u (cB b (hasInt [] ·)) q))))
       have HKA := hide ((HK7.out.trans (hk.mono (S' := fun k => k = gx) (fun k _ h => h.elim))).trans (keepS_set gx (setL (sumS (X) (setOf ((wayOf b).u (cB b (hasInt [] ·)) q)))) 0 W))
       generalize W.setCells gx 0 (setL (sumS (X) (setOf ((wayOf b).u (cB b (hasInt [] ·)) q)))) = v9 at *
       rw [HXE.out] at HN9
       clear hk hkm n9
       go_wp2_with fail
       go_roundw
       case rel => exact ⟨k + 1, by omega, by go_num, HN9, HKA⟩
       case measure => simp [intOf]; omega
    · obtain rfl : k = l.length := by omega
      rw [List.take_length] at HN7
      have hbl : Below w.heap.size v6 v7 := HK7.out.below (fun k hk => by omega) (by omega)
      have HX7 : Hid (BoxB v7 w.heap.size b a) := hide ⟨((HV0.out.below HB6.out).below hbl).more (by omega), HX6.out.k.keep HK7.out (by omega)⟩
      have HB7 := hide (HB6.out.trans hbl)
      have HR7 := hide (HR6.out.keep HK7.out (by omega))
      clear hbl HME HL6 HL0 HLF HU6
      obtain ⟨gz, x0, x1⟩ := HX7.out.cells
      have hi0 : (0 : Int) ≤ (i : Int) := Int.natCast_nonneg _
      have hi1 : (i : Int) < (b.steps.length : Int) := by omega
      go_upto_region 10 with (first | (go_at_call 70; refine (down12_any HX7.out.v HG.out h12 (IntsS.nil_ (w := v7)) HSM.out).mono ?_; rintro e y2 ⟨g3, rfl, hg3, hsd, hb8⟩) | (refine wpList_load_mid rfl 95 (.tmp 41) rfl _ _ rfl (setL (setOf ((wayOf b).d (cB b (hasInt [] ·)) i))) _ ?h0 Tryz.underlying95 rfl (size95 _) ?_; (case h0 => exact hsd.range hi)) | (refine wpList_store_mid rfl 95 (.tmp 9) (.tmp 42) rfl _ _ _ rfl rfl ?h1 ?h2 ?h3 ?_; (case h1 => exact SetB.there SetB.made _); (case h2 => exact size95' _); (case h3 => exact setL_all _)))
      have hbx : Below v7.heap.size v7 ((y2.alloc (.cells (setL fun _ => false).toArray 95)).setCells y2.heap.size 0 (setL (setOf ((wayOf b).d (cB b (hasInt [] ·)) i)))) := set_below (hb8.trans ((Below.refl _ _).alloc hb8.size _)) hb8.size (by simp; have := hb8.size; omega)
      have HD8 := hide (show SetB ((y2.alloc (.cells (setL fun _ => false).toArray 95)).setCells y2.heap.size 0 (setL (setOf ((wayOf b).d (cB b (hasInt [] ·)) i)))) y2.heap.size (setOf ((wayOf b).d (cB b (hasInt [] ·)) i)) from SetB.made.whole _)
      have HX8 := hide (HX7.out.next hbx)
      have HB8 := hide (HB7.out.trans (hbx.mono HB7.out.size))
      have HR8 := hide (HR7.out.next hbx)
      have HN8 := hide (HN7.out.next hbx)
      have hgd := hb8.size
      have hq3 := HX7.out.k.lt
      have hq4 := HR7.out.lt
      have hq5 := HN7.out.lt
      clear gz x0 x1 hbx hsd hb8 HX7 HR7 HN7 HB7 HB6 HX6 HR6
      generalize ((y2.alloc (.cells (setL fun _ => false).toArray 95)).setCells y2.heap.size 0 (setL (setOf ((wayOf b).d (cB b (hasInt [] ·)) i)))) = v8 at *
      have hz8 := HD8.out.lt
      generalize y2.heap.size = gd at *
      go_upto_region 11 with (fail)
      have hb9 : Below v8.heap.size v8 (v8.alloc (.cells (setL fun _ => false).toArray 95)) := (Below.refl _ _).alloc (Nat.le_refl _) _
      have HO9 := hide (show SetB (v8.alloc (.cells (setL fun _ => false).toArray 95)) v8.heap.size (fun _ => false) from SetB.made)
      have HX9 := hide (HX8.out.next hb9)
      have HB9 := hide (HB8.out.trans (hb9.mono HB8.out.size))
      have HR9 := hide (HR8.out.next hb9)
      have HN9 := hide (HN8.out.next hb9)
      have HD9 := hide (HD8.out.next hb9)
      have hq6 := HX8.out.k.lt
      have hq7 := HR8.out.lt
      have hq8 := HN8.out.lt
      clear hb9 HX8 HB8 HR8 HN8 HD8
      generalize (v8.alloc (.cells (setL fun _ => false).toArray 95)) = v9 at *
      have hz9 := HO9.out.lt
      generalize v8.heap.size = go at *
      obtain ⟨lon, hlon⟩ : ∃ q : Nat, (nth b.steps i).loss = (q : Int) := ⟨(nth b.steps i).loss.toNat, by omega⟩
      have HFI := hide (fun t => HLD.out (lon + 1) (by rw [hlon]; omega) t)
      have hlon2 : lon ≤ 20 := by omega
      have HLO := hide hlon
      clear hlon hlo
      generalize hR : (sumsS (setOf ⟨0, 0⟩) (fun k => setOf ((wayOf b).u (cB b (hasInt [] ·)) k)) l) = SR at HN9 HFI
      generalize hD : setOf ((wayOf b).d (cB b (hasInt [] ·)) i) = SD at HD9 HFI
      clear hR hD
      go_wp2_with fail
      go_loopw [11, 12, 43, 44, 45, 46, 47, 48, 49, 50, 51, 52, 53, 54, 55, 56, 57, 58, 59, 60, 61, 62, 63, 64, 65, 66, 67, 68, 69, 70, 71, 72, 73] (fun v11 _ _ _ _ _ _ _ _ _ _ _ _ _ _ _ _ _ _ _ _ _ _ _ _ _ _ _ _ _ _ _ _ wr => ∃ m : Nat, m ≤ lon + 1 ∧ v11 = .int .i64 (m : Nat) ∧ Hid (SetB wr go (difTo (fun _ => true) SR SD m 0)) ∧ Hid (Keep (fun k => k = go) v9 wr)) (fun v11 _ _ _ _ _ _ _ _ _ _ _ _ _ _ _ _ _ _ _ _ _ _ _ _ _ _ _ _ _ _ _ _ _ => 100 - (intOf v11).toNat)
      case atStart => exact ⟨0, by omega, rfl, hide (HO9.out.ext fun k _ => (congrFun (difTo_zero (fun _ => true) SR SD) k).symm), hide (Keep.refl _ _)⟩
      case round =>
       obtain ⟨m, hm, rfl, HT, HK⟩ := hrel
       obtain ⟨v10, rfl⟩ : ∃ v10 : World, v10 = wr := ⟨_, rfl⟩
       have hm0 : (0 : Int) ≤ (m : Int) := Int.natCast_nonneg _
       have hbl : Below gd v9 v10 := HK.out.below (fun k hk => by omega) (by omega)
       have hbw : Below w.heap.size v9 v10 := HK.out.below (fun k hk => by omega) (by omega)
       have HXA : Hid (BoxB v10 w.heap.size b a) := hide ⟨((HV0.out.below HB9.out).below hbw).more (by have := hbw.size; omega), HX9.out.k.keep HK.out (by omega)⟩
       have hz10 := HK.out.size
       clear hbl hbw
       obtain ⟨gz, x0, x1⟩ := HXA.out.cells
       obtain ⟨g1, o1, hA1, hg1, s0, s1, s2⟩ := HXA.out.v.steps.steps hi
       rw [hA1] at x0
       rw [HLO.out] at s2
       clear hA1 s0 s1
       by_cases hm9 : m ≤ lon
       · have hm1 : (m : Int) ≤ (lon : Int) := by omega
         have hm2 : (m : Int) < 100 := by omega
         go_wp2_with fail
         clear gz x0 x1 s2
         go_loopw [12, 53, 54, 55, 56, 57, 58, 59, 60, 61, 62, 63, 64, 65, 66, 67, 68, 69, 70, 71, 72, 73] (fun v12 _ _ _ _ _ _ _ _ _ _ _ _ _ _ _ _ _ _ _ _ _ wr => ∃ j : Nat, m + j ≤ 100 ∧ v12 = .int .i64 (j : Nat) ∧ Hid (SetB wr go (difTo (fun _ => true) SR SD m j)) ∧ Hid (Keep (fun k => k = go) v10 wr)) (fun v12 _ _ _ _ _ _ _ _ _ _ _ _ _ _ _ _ _ _ _ _ _ _ => 100 - (intOf v12).toNat)
         case atStart => exact ⟨0, by omega, rfl, HT, hide (Keep.refl _ _)⟩
         case round =>
          obtain ⟨j, hj, rfl, HT2, HK2⟩ := hrel
          have hj0 : (0 : Int) ≤ (j : Int) := Int.natCast_nonneg _
          have HKK := hide (HK.out.trans HK2.out)
          have hzt := HT2.out.lt
          have hzk := HKK.out.size
          have hw1 : IntKind.i64.wrap ((m : Int) + (j : Int)) = (m : Int) + (j : Int) := IntWalk.i64_in _ (by omega)
          by_cases hij : m + j < 100
          · have hij1 : (m : Int) + (j : Int) ≤ 99 := by omega
            have hij2 : (m : Int) + (j : Int) < 100 := by omega
            have hij0 : (0 : Int) ≤ (m : Int) + (j : Int) := by omega
            have hijn : ((m : Int) + (j : Int)).toNat = m + j := by omega
            have hj9 : (j : Int) < 100 := by omega
            have xr := (HN9.out.keep HKK.out (by omega)).cell (j := j) (by omega)
            have xo := (HD9.out.keep HKK.out (by omega)).cell hij
            have xt := HT2.out.cell (j := m) (by omega)
            have xf := HT2.out.open_ m
            have hzx3 : gx < wr.heap.size := by omega
            have hzo3 : gd < wr.heap.size := by omega
            cases hr : SR j with
            | true =>
             rw [hr] at xr
             cases hd : SD (m + j) with
             | true =>
              rw [hd] at xo
              have e1 := hide (difTo_hit (a := fun _ => true) (r := SR) (o := SD) (i := m) (j := j) rfl (by rw [hr, hd]; rfl))
              clear hr hd
              go_wp2_with fail
              go_roundw
              case rel => exact ⟨j + 1, by omega, by go_num, hide (by rw [← e1.out]; exact HT2.out.store _ true), hide (HK2.out.trans (Keep.setCell _ _ _ _ rfl))⟩
              case measure => simp [intOf]; omega
             | false =>
              rw [hd] at xo
              have e1 := hide (difTo_miss (a := fun _ => true) (r := SR) (o := SD) (i := m) (j := j) (by rw [hr, hd]; rfl))
              clear hr hd
              go_wp2_with fail
              go_roundw
              case rel => exact ⟨j + 1, by omega, by go_num, hide (by rw [e1.out]; exact HT2.out), HK2⟩
              case measure => simp [intOf]; omega
            | false =>
             rw [hr] at xr
             have e1 := hide (difTo_miss (a := fun _ => true) (r := SR) (o := SD) (i := m) (j := j) (by rw [hr]; rfl))
             clear hr
             go_wp2_with fail
             go_roundw
             case rel => exact ⟨j + 1, by omega, by go_num, hide (by rw [e1.out]; exact HT2.out), HK2⟩
             case measure => simp [intOf]; omega
          · have hij1 : ¬ (m : Int) + (j : Int) ≤ 99 := by omega
            have e1 := hide (difTo_next (a := fun _ => true) (r := SR) (o := SD) (i := m) (j := j) (.inr (by omega)))
            go_wp2_with fail
            go_roundw
            case rel => exact ⟨m + 1, by omega, by go_num, hide (by rw [← e1.out]; exact HT2.out), HKK⟩
            case measure => simp [intOf]; omega
       · obtain rfl : m = lon + 1 := by omega
         have hmx : SetB v10 go (setOf lsp) := HT.out.ext fun t _ => HFI.out t
         have HMX := hide hmx
         have HRX := hide (HR9.out.keep HK.out (by omega))
         have hzm := hmx.lt
         have hzr2 := HRX.out.lt
         clear hmx
         have hnle : ¬ (((lon + 1 : Nat) : Int) ≤ (lon : Int)) := by omega
         have hnle2 : ¬ ((lon : Int) + 1 ≤ (lon : Int)) := by omega
         go_wp2_with (first | (refine wpList_load_mid rfl 95 (.tmp 10) rfl _ _ rfl (setL (setOf lsp)) _ ?h0 Tryz.underlying95 rfl (size95 _) ?_; (case h0 => exact SetB.range HMX.out)) | (refine wpList_store_mid rfl 95 (.tmp 4) (.tmp 74) rfl _ _ _ rfl rfl ?h1 ?h2 ?h3 ?_; (case h1 => exact HRX.out.there _); (case h2 => exact size95' _); (case h3 => exact setL_all _)))
         exact bodyPost_ret (v := setV (setOf lsp)) (results_cell_row rfl _ _ (w.heap.size + 1) 95 (setL (setOf lsp)).toArray (0, 0) _ rfl (HRX.out.whole (setOf lsp)) Tryz.underlying95 rfl (size95' _)) rfl ⟨by rw [HLS.out], set_below (HB9.out.trans (HK.out.below (fun k hk => by omega) (by omega))) (by omega) (by omega)⟩
end Go.Proofs.YtocdmkilnbpkdaaGreatDoor
