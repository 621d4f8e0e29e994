/- LedgerLess. -/
import Derived.Test.YtocdmkilnbpkdaaGreatDoorIB
import Derived.OwnWalkIn
import Derived.OwnWalk
import Derived.Laws.AppendOwn
import Derived.Laws.StructEq
import Derived.TacticsInMore
import Derived.Deep.DeepCutAuto
set_option linter.unusedVariables false
set_option linter.unusedSimpArgs false
namespace Go.Proofs.YtocdmkilnbpkdaaGreatDoor
open Go.RowKit
attribute [local go_sem] Oper.semAt_some

theorem range_set3 {n i : Nat} (hi : i < n) (xs : List Step) (hx : xs.length = n) (s : Step) :
 (((((List.range (n * 3)).map (stepsF xs)).set (i * 3) (.string s.name)).set (i * 3 + 1) (.int .i64 s.from_)).set (i * 3 + 2) (.int .i64 s.loss)) = (List.range (n * 3)).map (stepsF (xs.set i s)) := by
 apply List.ext_getElem (by simp)
 intro j h1 h2
 have hj : j < n * 3 := by simpa using h2
 have e0 : nth (xs.set i s) i = s := by simp [nth, hx, hi]
 have e1 : ∀ k, k ≠ i → nth (xs.set i s) k = nth xs k := fun k hk => by simp [nth, List.getElem?_set, Ne.symm hk]
 simp only [List.getElem_set, List.getElem_map, List.getElem_range]
 by_cases a : i * 3 + 2 = j
 · subst a; rw [if_pos rfl, stepsF, show (i * 3 + 2) % 3 = 2 by omega, show (i * 3 + 2) / 3 = i by omega, e0] <;> rfl
 · rw [if_neg a]
   by_cases b : i * 3 + 1 = j
   · subst b; rw [if_pos rfl, stepsF, show (i * 3 + 1) % 3 = 1 by omega, show (i * 3 + 1) / 3 = i by omega, e0] <;> rfl
   · rw [if_neg b]
     by_cases c : i * 3 = j
     · subst c; rw [if_pos rfl, stepsF, show (i * 3) % 3 = 0 by omega, show (i * 3) / 3 = i by omega, e0] <;> rfl
     · rw [if_neg c, stepsF, stepsF, e1 (j / 3) (by omega)]
theorem range_setT {n i : Nat} (hi : i < n) (xs : List Tally) (hx : xs.length = n) (s : Tally) :
 (((((List.range (n * 3)).map (talliesF xs)).set (i * 3) (.int .i64 s.step)).set (i * 3 + 1) (.int .i64 s.hands)).set (i * 3 + 2) (.int .i64 s.off)) = (List.range (n * 3)).map (talliesF (xs.set i s)) := by
 apply List.ext_getElem (by simp)
 intro j h1 h2
 have hj : j < n * 3 := by simpa using h2
 have e0 : nth (xs.set i s) i = s := by simp [nth, hx, hi]
 have e1 : ∀ k, k ≠ i → nth (xs.set i s) k = nth xs k := fun k hk => by simp [nth, List.getElem?_set, Ne.symm hk]
 simp only [List.getElem_set, List.getElem_map, List.getElem_range]
 by_cases a : i * 3 + 2 = j
 · subst a; rw [if_pos rfl, talliesF, show (i * 3 + 2) % 3 = 2 by omega, show (i * 3 + 2) / 3 = i by omega, e0] <;> rfl
 · rw [if_neg a]
   by_cases b : i * 3 + 1 = j
   · subst b; rw [if_pos rfl, talliesF, show (i * 3 + 1) % 3 = 1 by omega, show (i * 3 + 1) / 3 = i by omega, e0] <;> rfl
   · rw [if_neg b]
     by_cases c : i * 3 = j
     · subst c; rw [if_pos rfl, talliesF, show (i * 3) % 3 = 0 by omega, show (i * 3) / 3 = i by omega, e0] <;> rfl
     · rw [if_neg c, talliesF, talliesF, e1 (j / 3) (by omega)]
theorem okS_of {b : Book} (h : someV b = true) {i : Nat} (hi : i < b.steps.length) (f : Nat → Span) : okS b (i : Int) (f (i : Int).toNat) = f i := by
 rw [okS, if_pos (enter_at h hi)]; rfl
theorem step_one (xs : List Step) (j n : Nat) (_ : j < n) : (stepsF xs j).oneCell' = true := by
 rw [stepsF]; split <;> rfl
theorem set_name (l : List Step) (i : Nat) (fr lo : Int) (j : Nat) (hi : i < l.length) : (nth (l.set i ⟨(nth l i).name, fr, lo⟩) j).name = (nth l j).name := by
 rw [nth_setG hi]
 by_cases e : j = i
 · rw [if_pos e, e]
 · rw [if_neg e]
set_option maxHeartbeats 8000000 in
set_option maxRecDepth 100000 in
theorem ledgerLess_any {m : Int} {b : Book} {a : BA} {w : World} (hm : w.cell? ⟨0, 0, none⟩ = some (.int .i64 m)) (hw0 : 0 < w.heap.size) (h : BookV w w.heap.size b a) {xa xb xc xd : Int} (ha : 0 ≤ xa ∧ xa ≤ 255) (hxb : 0 ≤ xb ∧ xb ≤ 255) (hxc : 0 ≤ xc ∧ xc ≤ 255) (hxd : 0 ≤ xd ∧ xd ≤ 255) :
 Calls Tryz.prog 15 #[bookVal b a, .agg #[.int .u8 xa, .int .u8 xb, .int .u8 xc, .int .u8 xd]] w fun e w' => e = .returned (.bool true) ∧ Below w.heap.size w w' := by
 obtain ⟨i3, hI3, hy30, hy31, hy32⟩ := info_parts Tryz.infoStep
 obtain ⟨i4, hI4, hz40, hz41, hz42⟩ := info_parts Tryz.infoTally
 have hA1 : Below w.heap.size w (w.alloc (.cells (bookCells b a) 25)) := (Below.refl _ _).alloc (Nat.le_refl _) _
 have hA2 : Below (w.alloc (.cells (bookCells b a) 25)).heap.size (w.alloc (.cells (bookCells b a) 25)) ((w.alloc (.cells (bookCells b a) 25)).alloc (.cells #[.int .u8 xa, .int .u8 xb, .int .u8 xc, .int .u8 xd] 69)) := (Below.refl _ _).alloc (Nat.le_refl _) _
 have hAB := hA1.trans (hA2.mono hA1.size)
 have HX := hide ((BoxB.made h).next hA2)
 have HG := hide ((hAB.cell (p := ⟨0, 0, none⟩) hw0).trans hm)
 have hz0 := Nat.lt_of_lt_of_le hw0 hAB.size
 have HB := hide hAB
 have bx : Blk ((w.alloc (.cells (bookCells b a) 25)).alloc (.cells #[.int .u8 xa, .int .u8 xb, .int .u8 xc, .int .u8 xd] 69)) (w.heap.size + 1) 69 #[.int .u8 xa, .int .u8 xb, .int .u8 xc, .int .u8 xd] := Blk.made' (by simp)
 have HY := hide bx
 clear hA1 hA2 hAB bx h hm hw0
 go_enter Tryz.func15, Tryz.ntmps15
 go_upto_region 1 with (fail)
 generalize ((w.alloc (.cells (bookCells b a) 25)).alloc (.cells #[.int .u8 xa, .int .u8 xb, .int .u8 xc, .int .u8 xd] 69)) = y0 at *
 by_cases hc : (checkM b).2.2 = 0
 · skip
   have HD := hide (show decide ((checkM b).2.2 = 0) = true from decide_eq_true hc)
   have hvd := valid_of hc
   have HVD := hide hvd
   have hpos := hvd.pos
   have h6 := hvd.steps
   have ht6 := hvd.tallies
   have HC := hide hc
   clear hc hvd
   obtain ⟨gx, x0, x1⟩ := HX.out.cells
   go_upto_region 4 with (go_at_call 41; refine (valid12_any HX.out.v).mono ?_; rintro e y1 ⟨rfl, hb⟩; rw [HD.out])
   clear gx x0 x1
   replace HG := hide ((hb.cell (p := ⟨0, 0, none⟩) hz0).trans HG.out)
   replace HB := hide (HB.out.trans (hb.mono HB.out.size))
   replace HX := hide (HX.out.next hb)
   replace HY := hide (HY.out.next hb)
   replace hz0 := Nat.lt_of_lt_of_le hz0 hb.size
   clear hb
   obtain ⟨gx, x0, x1⟩ := HX.out.cells
   go_upto_region 5 with fail
   clear gx x0 x1
   have hga : Blk (y1.alloc (.cells (bookCells b a) 25)) y1.heap.size 25 (bookCells b a) := Blk.made
   have hb5 : Below y1.heap.size y1 (y1.alloc (.cells (bookCells b a) 25)) := (Below.refl _ _).alloc (Nat.le_refl _) _
   have HGA := hide hga
   have HB5 := hide hb5
   clear hga hb5
   have hgw := HX.out.k.lt
   have hgy := HY.out.lt
   generalize (y1.alloc (.cells (bookCells b a) 25)) = v5 at *
   have hg5 : y1.heap.size < v5.heap.size := HGA.out.lt
   obtain ⟨gx, x0, x1⟩ := (HX.out.next HB5.out).cells
   have za := HGA.out.lt
   have a0 : _ = some _ := HGA.out.at_ 0
   have f0 := HGA.out.free 0
   try simp only [List.getElem?_toArray, List.getElem?_cons_zero, List.getElem?_cons_succ] at a0
   have HRL := hide (show Row v5 v5.heap.size a.A1 (b.steps.length * 3) (stepsF b.steps) from (HX.out.next HB5.out).v.steps)
   go_upto_region 6 with
    (at_builtin
     refine wpList_app_row _ rfl _ _ 22 rfl v5.heap.size 68 i3 (.agg #[.string ⟨#[]⟩, .int .i64 0, .int .i64 0]) 3 32 Tryz.underlying22 hI3 hy30 hy31 hy32 rfl (by decide) (.slice (some ⟨v5.heap.size, 0, none⟩) 0 0) 0 [] rfl (World.ownsRow_lit _ #[] 0 (Nat.le_refl _) (by simp [maxLen]) rfl) a.A1 b.steps.length a.c1 v5.heap.size (stepsF b.steps) rfl (HRL.out.below ((Below.refl _ _).alloc (Nat.le_refl _) _)) (fun j h => step_one _ j _ h) (by simp only [maxLen]; omega) (by omega) (by simp) ?_
     intro v' w1 hown hg hblk
     have hbA : Below v5.heap.size v5 w1 := ((Below.refl _ v5).alloc (Nat.le_refl _) (.cells #[] 68)).grown hg (by simp) (fun k hk => by simp [Value.ownBlock] at hk; omega)
     rw [Nat.zero_add, List.nil_append] at hown
     obtain ⟨AS, cS, rfl, hown⟩ := own_ex hown
     have a0' := (hbA.cell (p := ⟨y1.heap.size, 0, none⟩) za).trans a0
     have f0' := (hbA.frozen (p := ⟨y1.heap.size, 0, none⟩) za).trans f0
     have HBA := hide hbA
     have HOS := hide hown
     clear hg hblk hbA hown)
   have hk1 : Keep (fun q => q = y1.heap.size) w1 (w1.setCell ⟨y1.heap.size, 0, none⟩ (.slice AS b.steps.length cS)) := Keep.setCell _ _ _ _ rfl
   have b1 := (HGA.out.next HBA.out).store 0 (.slice AS b.steps.length cS)
   have hz5 := HB5.out.size
   have b3 := own_kept HOS.out hk1 (fun b hb hS => by omega)
   have b4 := (HB5.out.trans (HBA.out.mono HB5.out.size)).setCell (p := ⟨y1.heap.size, 0, none⟩) (Nat.le_refl _) (.slice AS b.steps.length cS)
   clear hk1 HBA HRL a0 f0 a0' f0' za gx x0 x1 HGA HB5 HOS 
   generalize (w1.setCell ⟨y1.heap.size, 0, none⟩ (.slice AS b.steps.length cS)) = v6 at *
   have HGA := hide b1
   have HOS := hide b3
   have HB5 := hide b4
   clear b1 b3 b4
   obtain ⟨gs, hAS, hzs, hls⟩ := own_addr HOS.out (by omega)
   subst hAS
   have hgt6 := hide hls
   obtain ⟨gx, x0, x1⟩ := (HX.out.next HB5.out).cells
   have za := HGA.out.lt
   have a0 : _ = some _ := HGA.out.at_ 1
   have f0 := HGA.out.free 1
   try simp only [List.getElem?_toArray, List.getElem?_cons_zero, List.getElem?_cons_succ] at a0
   have HRL := hide (show Row v6 v6.heap.size a.A2 (b.tallies.length * 3) (talliesF b.tallies) from (HX.out.next HB5.out).v.tallies)
   go_upto_region 7 with
    (at_builtin
     refine wpList_app_row _ rfl _ _ 23 rfl v6.heap.size 50 i4 (.agg #[.int .i64 0, .int .i64 0, .int .i64 0]) 3 24 Tryz.underlying23 hI4 hz40 hz41 hz42 rfl (by decide) (.slice (some ⟨v6.heap.size, 0, none⟩) 0 0) 0 [] rfl (World.ownsRow_lit _ #[] 0 (Nat.le_refl _) (by simp [maxLen]) rfl) a.A2 b.tallies.length a.c2 v6.heap.size (talliesF b.tallies) rfl (HRL.out.below ((Below.refl _ _).alloc (Nat.le_refl _) _)) (fun _ _ => rfl) (by simp only [maxLen]; omega) (by omega) (by simp) ?_
     intro v' w1 hown hg hblk
     have hbA : Below v6.heap.size v6 w1 := ((Below.refl _ v6).alloc (Nat.le_refl _) (.cells #[] 50)).grown hg (by simp) (fun k hk => by simp [Value.ownBlock] at hk; omega)
     rw [Nat.zero_add, List.nil_append] at hown
     obtain ⟨AT, cT, rfl, hown⟩ := own_ex hown
     have a0' := (hbA.cell (p := ⟨y1.heap.size, 1, none⟩) za).trans a0
     have f0' := (hbA.frozen (p := ⟨y1.heap.size, 1, none⟩) za).trans f0
     have HBA := hide hbA
     have HOT := hide hown
     clear hg hblk hbA hown)
   have hk1 : Keep (fun q => q = y1.heap.size) w1 (w1.setCell ⟨y1.heap.size, 1, none⟩ (.slice AT b.tallies.length cT)) := Keep.setCell _ _ _ _ rfl
   have b1 := (HGA.out.next HBA.out).store 1 (.slice AT b.tallies.length cT)
   have hz5 := HB5.out.size
   have b3 := own_kept HOT.out hk1 (fun b hb hS => by omega)
   have b4 := (HB5.out.trans (HBA.out.mono HB5.out.size)).setCell (p := ⟨y1.heap.size, 1, none⟩) (Nat.le_refl _) (.slice AT b.tallies.length cT)
   have b5 := own_kept (own_stab HOS.out (fun b hb _ => HBA.out.block b hb)) hk1 (fun b hb hS => by omega)
   clear hk1 HBA HRL a0 f0 a0' f0' za gx x0 x1 HGA HB5 HOT HOS
   generalize (w1.setCell ⟨y1.heap.size, 1, none⟩ (.slice AT b.tallies.length cT)) = v7 at *
   have HGA := hide b1
   have HOT := hide b3
   have HB5 := hide b4
   have HOS := hide b5
   clear b1 b3 b4 b5
   have hp0 := Int.emod_nonneg xa (show (b.steps.length : Int) ≠ 0 by omega)
   have hp1 := Int.emod_lt_of_pos xa (show (0 : Int) < (b.steps.length : Int) by omega)
   have hmo : xa.tmod (b.steps.length : Int) = xa % (b.steps.length : Int) := Int.tmod_eq_emod_of_nonneg ha.1
   have hz2 : (b.steps.length : Int) ≠ 0 := by omega
   have hz3 : ((b.steps.length : Int) == 0) = false := by simpa using hz2
   have hw2 : IntKind.i64.wrap xa = xa := IntWalk.i64_in _ (by omega)
   obtain ⟨k, hdk⟩ : ∃ k : Nat, xa % (b.steps.length : Int) = (k : Int) := ⟨(xa % (b.steps.length : Int)).toNat, by omega⟩
   rw [hdk] at hp0 hp1 hmo
   clear hdk
   have hw1 : IntKind.i64.wrap (k : Int) = (k : Int) := IntWalk.i64_in _ (by omega)
   have hkl : k < b.steps.length := by omega
   obtain ⟨gx, x0, x1⟩ := (HX.out.next HB5.out).cells
   have yc : _ = some _ := (HY.out.next HB5.out).at_ 0
   have gy := (HY.out.next HB5.out).lt
   try simp only [List.getElem?_toArray, List.getElem?_cons_zero, List.getElem?_cons_succ] at yc
   go_upto_region 8 with (fail)
   clear gx x0 x1 yc gy hmo hz2 hz3 hw1 hw2
   have HOT0 := HOT
   have za := HGA.out.lt
   have a0 : _ = some _ := HGA.out.at_ 0
   try simp only [List.getElem?_toArray, List.getElem?_cons_zero, List.getElem?_cons_succ] at a0
   have s0 : v7.cell? ⟨gs, k * 3, none⟩ = some (.string (nth b.steps k).name) := by rw [World.ownsRow.cellAt HOS.out (k * 3) (by omega)]; simp [show k * 3 < b.steps.length * 3 by omega, stepsF, show (k * 3) % 3 = 0 by omega, show (k * 3) / 3 = k by omega]
   have s1 : v7.cell? ⟨gs, k * 3 + 1, none⟩ = some (.int .i64 (nth b.steps k).from_) := by rw [World.ownsRow.cellAt HOS.out (k * 3 + 1) (by omega)]; simp [show k * 3 + 1 < b.steps.length * 3 by omega, stepsF, show (k * 3 + 1) % 3 = 1 by omega, show (k * 3 + 1) / 3 = k by omega]
   have s2 : v7.cell? ⟨gs, k * 3 + 2, none⟩ = some (.int .i64 (nth b.steps k).loss) := by rw [World.ownsRow.cellAt HOS.out (k * 3 + 2) (by omega)]; simp [show k * 3 + 2 < b.steps.length * 3 by omega, stepsF, show (k * 3 + 2) % 3 = 2 by omega, show (k * 3 + 2) / 3 = k by omega]
   skip
   skip
   go_upto_region 9 with (fail)
   have hbn : Below v7.heap.size v7 (v7.alloc (.cells #[.string (nth b.steps k).name, .int .i64 (nth b.steps k).from_, .int .i64 (nth b.steps k).loss] 68)) := (Below.refl _ _).alloc (Nat.le_refl _) _
   have bn : Blk (v7.alloc (.cells #[.string (nth b.steps k).name, .int .i64 (nth b.steps k).from_, .int .i64 (nth b.steps k).loss] 68)) v7.heap.size 68 #[.string (nth b.steps k).name, .int .i64 (nth b.steps k).from_, .int .i64 (nth b.steps k).loss] := Blk.made
   have b1 := HGA.out.next hbn
   have b2 := own_stab HOS.out (fun b hb _ => hbn.block b hb)
   have b3 := own_stab HOT.out (fun b hb _ => hbn.block b hb)
   have b4 := HB5.out.trans (hbn.mono HB5.out.size)
   have hal : y1.heap.size ≠ v7.heap.size := by omega
   have hll : y1.heap.size ≤ v7.heap.size := by omega
   have hls2 : gs ≠ v7.heap.size := by have := (HOS.out.lt gs rfl).2; omega
   have hgk : gs ≠ v7.heap.size := by have := (HOS.out.lt gs rfl).2; omega
   clear a0 za s0 s1 s2 HGA HOS HOT HB5 hbn
   generalize (v7.alloc (.cells #[.string (nth b.steps k).name, .int .i64 (nth b.steps k).from_, .int .i64 (nth b.steps k).loss] 68)) = v8 at *
   have HGA := hide b1
   have HOS := hide b2
   have HOT := hide b3
   have HB5 := hide b4
   have HBN := hide bn
   clear b1 b2 b3 b4 bn
   have hk0 : 0 ≤ xb % 5 := Int.emod_nonneg xb (by omega)
   have hk1 : xb % 5 < 5 := Int.emod_lt_of_pos xb (by omega)
   have hmo : xb.tmod 5 = xb % 5 := Int.tmod_eq_emod_of_nonneg hxb.1
   have hw2 : IntKind.i64.wrap xb = xb := IntWalk.i64_in _ (by omega)
   generalize xb % 5 = kk at *
   have hw1 : IntKind.i64.wrap kk = kk := IntWalk.i64_in _ (by omega)
   have hlo := HVD.out.loss k hkl
   generalize hO : (nth b.steps k).loss = lo at *
   have HO := hide hO
   clear hO
   have hw3 : IntKind.i64.wrap (lo + kk) = lo + kk := IntWalk.i64_in _ (by omega)
   have hE1 : (if lo + kk < 20 then lo + kk else 20) = min 20 (lo + kk) := by split <;> omega
   have hml : lo ≤ min 20 (lo + kk) ∧ min 20 (lo + kk) ≤ 20 := by omega
   generalize hM : min 20 (lo + kk) = ml at *
   have l2 : v8.cell? ⟨v7.heap.size, 2, none⟩ = some (.int .i64 lo) := HBN.out.at_ 2
   have f2 := HBN.out.free 2
   have zl := HBN.out.lt
   have yc : _ = some _ := (HY.out.next HB5.out).at_ 1
   have gy := (HY.out.next HB5.out).lt
   try simp only [List.getElem?_toArray, List.getElem?_cons_zero, List.getElem?_cons_succ] at yc
   go_upto_region 10 with (fail)
   have bn : Blk (v8.setCell ⟨v7.heap.size, 2, none⟩ (.int .i64 ml)) v7.heap.size 68 #[.string (nth b.steps k).name, .int .i64 (nth b.steps k).from_, .int .i64 ml] := HBN.out.store 2 _
   have b1 := HGA.out.else_ (p := ⟨v7.heap.size, 2, none⟩) hal (.int .i64 ml)
   have b2 := own_stab (w' := (v8.setCell ⟨v7.heap.size, 2, none⟩ (.int .i64 ml))) HOS.out (fun b hb2 e => by
    have hg : gs = b := own_new e
    exact Below.heap_setCell _ _ _ b (by subst hg; exact hls2))
   have b4 := HB5.out.setCell (p := ⟨v7.heap.size, 2, none⟩) hll (.int .i64 ml)
   have b3 := own_stab (w' := (v8.setCell ⟨v7.heap.size, 2, none⟩ (.int .i64 ml))) HOT.out (fun b hb2 e => Below.heap_setCell _ _ _ b (show b ≠ v7.heap.size by have := (HOT0.out.lt b e).2; omega))
   clear l2 f2 zl yc gy hmo hw1 hw2 hw3 hE1 hM HGA HOS HOT HB5 HBN
   generalize (v8.setCell ⟨v7.heap.size, 2, none⟩ (.int .i64 ml)) = v9 at *
   have HGA := hide b1
   have HOS := hide b2
   have HOT := hide b3
   have HB5 := hide b4
   have HBN := hide bn
   clear b1 b2 b3 b4 bn
   have za := HGA.out.lt
   have a0 : _ = some _ := HGA.out.at_ 0
   try simp only [List.getElem?_toArray, List.getElem?_cons_zero, List.getElem?_cons_succ] at a0
   have l0 : v9.cell? ⟨v7.heap.size, 0, none⟩ = some (.string (nth b.steps k).name) := HBN.out.at_ 0
   have l1 : v9.cell? ⟨v7.heap.size, 1, none⟩ = some (.int .i64 (nth b.steps k).from_) := HBN.out.at_ 1
   have l2 : v9.cell? ⟨v7.heap.size, 2, none⟩ = some (.int .i64 ml) := HBN.out.at_ 2
   have zl := HBN.out.lt
   have s0 : v9.cell? ⟨gs, k * 3, none⟩ = some (.string (nth b.steps k).name) := by rw [World.ownsRow.cellAt HOS.out (k * 3) (by omega)]; simp [show k * 3 < b.steps.length * 3 by omega, stepsF, show (k * 3) % 3 = 0 by omega, show (k * 3) / 3 = k by omega]
   have s1 : v9.cell? ⟨gs, k * 3 + 1, none⟩ = some (.int .i64 (nth b.steps k).from_) := by rw [World.ownsRow.cellAt HOS.out (k * 3 + 1) (by omega)]; simp [show k * 3 + 1 < b.steps.length * 3 by omega, stepsF, show (k * 3 + 1) % 3 = 1 by omega, show (k * 3 + 1) / 3 = k by omega]
   have s2 : v9.cell? ⟨gs, k * 3 + 2, none⟩ = some (.int .i64 (nth b.steps k).loss) := by rw [World.ownsRow.cellAt HOS.out (k * 3 + 2) (by omega)]; simp [show k * 3 + 2 < b.steps.length * 3 by omega, stepsF, show (k * 3 + 2) % 3 = 2 by omega, show (k * 3 + 2) / 3 = k by omega]
   have u0' := World.ownsRow.frozenAt HOS.out (k * 3)
   have u1' := World.ownsRow.frozenAt HOS.out (k * 3 + 1)
   have u2' := World.ownsRow.frozenAt HOS.out (k * 3 + 2)
   have hlg := (HOS.out.lt gs rfl).2
   go_upto_region 11 with (fail)
   have hag : y1.heap.size ≠ gs := by omega
   have b1 := (((HGA.out.else_ (p := ⟨gs, k * 3, none⟩) hag (.string (nth b.steps k).name)).else_ (p := ⟨gs, k * 3 + 1, none⟩) hag (.int .i64 (nth b.steps k).from_)).else_ (p := ⟨gs, k * 3 + 2, none⟩) hag (.int .i64 ml))
   have b2 : ((((v9.setCell ⟨gs, k * 3, none⟩ (.string (nth b.steps k).name)).setCell ⟨gs, k * 3 + 1, none⟩ (.int .i64 (nth b.steps k).from_)).setCell ⟨gs, k * 3 + 2, none⟩ (.int .i64 ml))).ownsRow v5.heap.size 68 3 (.slice (some ⟨gs, 0, none⟩) b.steps.length cS) b.steps.length ((List.range (b.steps.length * 3)).map (stepsF (b.steps.set k ⟨(nth b.steps k).name, (nth b.steps k).from_, ml⟩))) := by
    have h := own_set (own_set (own_set HOS.out (k * 3) (.string (nth b.steps k).name)) (k * 3 + 1) (.int .i64 (nth b.steps k).from_)) (k * 3 + 2) (.int .i64 ml)
    rw [← range_set3 hkl b.steps rfl ⟨(nth b.steps k).name, (nth b.steps k).from_, ml⟩]; exact h
   have hsb : y1.heap.size ≤ gs := by omega
   have b4 := (((HB5.out.setCell (p := ⟨gs, k * 3, none⟩) hsb (.string (nth b.steps k).name)).setCell (p := ⟨gs, k * 3 + 1, none⟩) hsb (.int .i64 (nth b.steps k).from_)).setCell (p := ⟨gs, k * 3 + 2, none⟩) hsb (.int .i64 ml))
   have b3 := own_kept HOT.out (((Keep.setCell v9 ⟨gs, k * 3, none⟩ (.string (nth b.steps k).name) (fun q => q = gs) rfl).trans (Keep.setCell _ ⟨gs, k * 3 + 1, none⟩ (.int .i64 (nth b.steps k).from_) (fun q => q = gs) rfl)).trans (Keep.setCell _ ⟨gs, k * 3 + 2, none⟩ (.int .i64 ml) (fun q => q = gs) rfl)) (fun b hb hS => by have := hgt6.out; omega)
   clear a0 za l0 l1 l2 zl s0 s1 s2 u0' u1' u2' hlg HGA HOS HOT HB5 HBN hal hll hls2 hgk HOT0
   generalize (((v9.setCell ⟨gs, k * 3, none⟩ (.string (nth b.steps k).name)).setCell ⟨gs, k * 3 + 1, none⟩ (.int .i64 (nth b.steps k).from_)).setCell ⟨gs, k * 3 + 2, none⟩ (.int .i64 ml)) = v10 at *
   have HGA := hide b1
   have HOS := hide b2
   have HOT := hide b3
   have HB5 := hide b4
   clear b1 b2 b3 b4
   have HML := hide hml
   have HLO1 := hide HO.out
   clear hml HO hlo hk0 hk1 hp0 hp1
   obtain ⟨gx, x0, x1⟩ := (HX.out.next HB5.out).cells
   go_upto_if 78 with fail
   clear gx x0 x1
   go_cut [] (fun wr => ∃ ts : List Tally, ts.length = b.tallies.length ∧ (∀ q, q < b.tallies.length → (nth ts q).step = (nth b.tallies q).step ∧ (nth ts q).hands = (nth b.tallies q).hands ∧ (nth b.tallies q).off ≤ (nth ts q).off ∧ (nth ts q).off ≤ 9) ∧ Hid (Below y1.heap.size y1 wr) ∧ Hid (Blk wr y1.heap.size 25 #[.slice (some ⟨gs, 0, none⟩) b.steps.length cS, .slice AT b.tallies.length cT]) ∧ Hid (wr.ownsRow v5.heap.size 68 3 (.slice (some ⟨gs, 0, none⟩) b.steps.length cS) b.steps.length ((List.range (b.steps.length * 3)).map (stepsF (b.steps.set k ⟨(nth b.steps k).name, (nth b.steps k).from_, ml⟩)))) ∧ Hid (wr.ownsRow v6.heap.size 50 3 (.slice AT b.tallies.length cT) b.tallies.length ((List.range (b.tallies.length * 3)).map (talliesF ts))))
   case first =>
    by_cases hh : b.tallies.length = 0
    · have hb1 : decide ((b.tallies.length : Int) > 0) = false := by rw [decide_eq_false_iff_not]; omega
      have hb2 : decide (0 < (b.tallies.length : Int)) = false := hb1
      go_wp2_with fail
      go_meet
      exact ⟨b.tallies, rfl, fun q hq => absurd hq (by omega), HB5, HGA, HOS, HOT⟩
    · have hb1 : decide ((b.tallies.length : Int) > 0) = true := by rw [decide_eq_true_eq]; omega
      have hb2 : decide (0 < (b.tallies.length : Int)) = true := hb1
      obtain ⟨gt, hAT, hzt, hlt⟩ := own_addr HOT.out (by omega)
      subst hAT
      have hgt6v := hgt6.out
      have hp0 := Int.emod_nonneg xc (show (b.tallies.length : Int) ≠ 0 by omega)
      have hp1 := Int.emod_lt_of_pos xc (show (0 : Int) < (b.tallies.length : Int) by omega)
      have hmo : xc.tmod (b.tallies.length : Int) = xc % (b.tallies.length : Int) := Int.tmod_eq_emod_of_nonneg hxc.1
      have hz2 : (b.tallies.length : Int) ≠ 0 := by omega
      have hz3 : ((b.tallies.length : Int) == 0) = false := by simpa using hz2
      have hw2 : IntKind.i64.wrap xc = xc := IntWalk.i64_in _ (by omega)
      obtain ⟨j, hdk⟩ : ∃ j : Nat, xc % (b.tallies.length : Int) = (j : Int) := ⟨(xc % (b.tallies.length : Int)).toNat, by omega⟩
      rw [hdk] at hp0 hp1 hmo
      clear hdk
      have hw1 : IntKind.i64.wrap (j : Int) = (j : Int) := IntWalk.i64_in _ (by omega)
      have hjl : j < b.tallies.length := by omega
      obtain ⟨gx, x0, x1⟩ := (HX.out.next HB5.out).cells
      have yc : _ = some _ := (HY.out.next HB5.out).at_ 2
      have gy := (HY.out.next HB5.out).lt
      try simp only [List.getElem?_toArray, List.getElem?_cons_zero, List.getElem?_cons_succ] at yc
      go_upto_region 13 with (fail)
      clear gx x0 x1 yc gy hmo hz2 hz3 hw1 hw2
      clear hb1 hb2
      have za := HGA.out.lt
      have a0 : _ = some _ := HGA.out.at_ 1
      try simp only [List.getElem?_toArray, List.getElem?_cons_zero, List.getElem?_cons_succ] at a0
      have s0 : v10.cell? ⟨gt, j * 3, none⟩ = some (.int .i64 (nth b.tallies j).step) := by rw [World.ownsRow.cellAt HOT.out (j * 3) (by omega)]; simp [show j * 3 < b.tallies.length * 3 by omega, talliesF, show (j * 3) % 3 = 0 by omega, show (j * 3) / 3 = j by omega]
      have s1 : v10.cell? ⟨gt, j * 3 + 1, none⟩ = some (.int .i64 (nth b.tallies j).hands) := by rw [World.ownsRow.cellAt HOT.out (j * 3 + 1) (by omega)]; simp [show j * 3 + 1 < b.tallies.length * 3 by omega, talliesF, show (j * 3 + 1) % 3 = 1 by omega, show (j * 3 + 1) / 3 = j by omega]
      have s2 : v10.cell? ⟨gt, j * 3 + 2, none⟩ = some (.int .i64 (nth b.tallies j).off) := by rw [World.ownsRow.cellAt HOT.out (j * 3 + 2) (by omega)]; simp [show j * 3 + 2 < b.tallies.length * 3 by omega, talliesF, show (j * 3 + 2) % 3 = 2 by omega, show (j * 3 + 2) / 3 = j by omega]
      skip
      skip
      go_upto_region 14 with (fail)
      have hbn : Below v10.heap.size v10 (v10.alloc (.cells #[.int .i64 (nth b.tallies j).step, .int .i64 (nth b.tallies j).hands, .int .i64 (nth b.tallies j).off] 50)) := (Below.refl _ _).alloc (Nat.le_refl _) _
      have bn : Blk (v10.alloc (.cells #[.int .i64 (nth b.tallies j).step, .int .i64 (nth b.tallies j).hands, .int .i64 (nth b.tallies j).off] 50)) v10.heap.size 50 #[.int .i64 (nth b.tallies j).step, .int .i64 (nth b.tallies j).hands, .int .i64 (nth b.tallies j).off] := Blk.made
      have b1 := HGA.out.next hbn
      have b2 := own_stab HOS.out (fun b hb _ => hbn.block b hb)
      have b3 := own_stab HOT.out (fun b hb _ => hbn.block b hb)
      have b4 := HB5.out.trans (hbn.mono HB5.out.size)
      have hal : y1.heap.size ≠ v10.heap.size := by omega
      have hll : y1.heap.size ≤ v10.heap.size := by omega
      have hls2 : gs ≠ v10.heap.size := by have := (HOS.out.lt gs rfl).2; omega
      have hgk : gt ≠ v10.heap.size := by have := (HOT.out.lt gt rfl).2; omega
      clear a0 za s0 s1 s2 HGA HOS HOT HB5 hbn
      generalize (v10.alloc (.cells #[.int .i64 (nth b.tallies j).step, .int .i64 (nth b.tallies j).hands, .int .i64 (nth b.tallies j).off] 50)) = v11 at *
      have HGA := hide b1
      have HOS := hide b2
      have HOT := hide b3
      have HB5 := hide b4
      have HBN := hide bn
      clear b1 b2 b3 b4 bn
      have hk0 : 0 ≤ xd % 4 := Int.emod_nonneg xd (by omega)
      have hk1 : xd % 4 < 4 := Int.emod_lt_of_pos xd (by omega)
      have hmo : xd.tmod 4 = xd % 4 := Int.tmod_eq_emod_of_nonneg hxd.1
      have hw2 : IntKind.i64.wrap xd = xd := IntWalk.i64_in _ (by omega)
      generalize xd % 4 = kk at *
      have hw1 : IntKind.i64.wrap kk = kk := IntWalk.i64_in _ (by omega)
      have hlo := (HVD.out.tally j hjl).2.2
      generalize hO : (nth b.tallies j).off = lo at *
      have HO := hide hO
      clear hO
      have hw3 : IntKind.i64.wrap (lo + kk) = lo + kk := IntWalk.i64_in _ (by omega)
      have hE1 : (if lo + kk < 9 then lo + kk else 9) = min 9 (lo + kk) := by split <;> omega
      have hml : lo ≤ min 9 (lo + kk) ∧ min 9 (lo + kk) ≤ 9 := by omega
      generalize hM : min 9 (lo + kk) = mo at *
      have l2 : v11.cell? ⟨v10.heap.size, 2, none⟩ = some (.int .i64 lo) := HBN.out.at_ 2
      have f2 := HBN.out.free 2
      have zl := HBN.out.lt
      have yc : _ = some _ := (HY.out.next HB5.out).at_ 3
      have gy := (HY.out.next HB5.out).lt
      try simp only [List.getElem?_toArray, List.getElem?_cons_zero, List.getElem?_cons_succ] at yc
      go_upto_region 15 with (fail)
      have bn : Blk (v11.setCell ⟨v10.heap.size, 2, none⟩ (.int .i64 mo)) v10.heap.size 50 #[.int .i64 (nth b.tallies j).step, .int .i64 (nth b.tallies j).hands, .int .i64 mo] := HBN.out.store 2 _
      have b1 := HGA.out.else_ (p := ⟨v10.heap.size, 2, none⟩) hal (.int .i64 mo)
      have b2 := own_stab (w' := (v11.setCell ⟨v10.heap.size, 2, none⟩ (.int .i64 mo))) HOS.out (fun b hb2 e => by
       have hg : gs = b := own_new e
       exact Below.heap_setCell _ _ _ b (by subst hg; exact hls2))
      have b3 := own_stab (w' := (v11.setCell ⟨v10.heap.size, 2, none⟩ (.int .i64 mo))) HOT.out (fun b hb2 e => by
       have hg : gt = b := own_new e
       exact Below.heap_setCell _ _ _ b (by subst hg; exact hgk))
      have b4 := HB5.out.setCell (p := ⟨v10.heap.size, 2, none⟩) hll (.int .i64 mo)
      clear l2 f2 zl yc gy hmo hw1 hw2 hw3 hE1 hM HGA HOS HOT HB5 HBN
      generalize (v11.setCell ⟨v10.heap.size, 2, none⟩ (.int .i64 mo)) = v12 at *
      have HGA := hide b1
      have HOS := hide b2
      have HOT := hide b3
      have HB5 := hide b4
      have HBN := hide bn
      clear b1 b2 b3 b4 bn
      have za := HGA.out.lt
      have a0 : _ = some _ := HGA.out.at_ 1
      try simp only [List.getElem?_toArray, List.getElem?_cons_zero, List.getElem?_cons_succ] at a0
      have l0 : v12.cell? ⟨v10.heap.size, 0, none⟩ = some (.int .i64 (nth b.tallies j).step) := HBN.out.at_ 0
      have l1 : v12.cell? ⟨v10.heap.size, 1, none⟩ = some (.int .i64 (nth b.tallies j).hands) := HBN.out.at_ 1
      have l2 : v12.cell? ⟨v10.heap.size, 2, none⟩ = some (.int .i64 mo) := HBN.out.at_ 2
      have zl := HBN.out.lt
      have s0 : v12.cell? ⟨gt, j * 3, none⟩ = some (.int .i64 (nth b.tallies j).step) := by rw [World.ownsRow.cellAt HOT.out (j * 3) (by omega)]; simp [show j * 3 < b.tallies.length * 3 by omega, talliesF, show (j * 3) % 3 = 0 by omega, show (j * 3) / 3 = j by omega]
      have s1 : v12.cell? ⟨gt, j * 3 + 1, none⟩ = some (.int .i64 (nth b.tallies j).hands) := by rw [World.ownsRow.cellAt HOT.out (j * 3 + 1) (by omega)]; simp [show j * 3 + 1 < b.tallies.length * 3 by omega, talliesF, show (j * 3 + 1) % 3 = 1 by omega, show (j * 3 + 1) / 3 = j by omega]
      have s2 : v12.cell? ⟨gt, j * 3 + 2, none⟩ = some (.int .i64 (nth b.tallies j).off) := by rw [World.ownsRow.cellAt HOT.out (j * 3 + 2) (by omega)]; simp [show j * 3 + 2 < b.tallies.length * 3 by omega, talliesF, show (j * 3 + 2) % 3 = 2 by omega, show (j * 3 + 2) / 3 = j by omega]
      have u0' := World.ownsRow.frozenAt HOT.out (j * 3)
      have u1' := World.ownsRow.frozenAt HOT.out (j * 3 + 1)
      have u2' := World.ownsRow.frozenAt HOT.out (j * 3 + 2)
      have hlg := (HOT.out.lt gt rfl).2
      go_wp2_with fail
      go_meet
      have hag : y1.heap.size ≠ gt := by omega
      have hsg : gs ≠ gt := by omega
      refine ⟨b.tallies.set j ⟨(nth b.tallies j).step, (nth b.tallies j).hands, mo⟩, by simp, fun q hq => ?_, ?_, ?_, ?_, ?_⟩
      · rw [nth_setG hjl]
        by_cases e : q = j
        · rw [if_pos e, e]; have := HO.out; exact ⟨rfl, rfl, by simp only; omega, by simp only; omega⟩
        · rw [if_neg e]; exact ⟨rfl, rfl, Int.le_refl _, (HVD.out.tally q hq).2.2.2⟩
      · exact hide (((HB5.out.setCell (p := ⟨gt, j * 3, none⟩) (by show y1.heap.size ≤ gt; omega) (.int .i64 (nth b.tallies j).step)).setCell (p := ⟨gt, j * 3 + 1, none⟩) (by show y1.heap.size ≤ gt; omega) (.int .i64 (nth b.tallies j).hands)).setCell (p := ⟨gt, j * 3 + 2, none⟩) (by show y1.heap.size ≤ gt; omega) (.int .i64 mo))
      · exact hide (((HGA.out.else_ (p := ⟨gt, j * 3, none⟩) hag (.int .i64 (nth b.tallies j).step)).else_ (p := ⟨gt, j * 3 + 1, none⟩) hag (.int .i64 (nth b.tallies j).hands)).else_ (p := ⟨gt, j * 3 + 2, none⟩) hag (.int .i64 mo))
      · exact hide (own_stab HOS.out (fun b hb2 e => by
         have hg : gs = b := own_new e
         rw [Below.heap_setCell _ _ _ b (by subst hg; exact hsg), Below.heap_setCell _ _ _ b (by subst hg; exact hsg), Below.heap_setCell _ _ _ b (by subst hg; exact hsg)]))
      · have h := own_set (own_set (own_set HOT.out (j * 3) (.int .i64 (nth b.tallies j).step)) (j * 3 + 1) (.int .i64 (nth b.tallies j).hands)) (j * 3 + 2) (.int .i64 mo)
        rw [← range_setT hjl b.tallies rfl ⟨(nth b.tallies j).step, (nth b.tallies j).hands, mo⟩]; exact hide h
   case rest =>
    clear HB5 HGA HOS HOT
    obtain ⟨ts, htl, hts, HB5, HGA, HOS, HOT⟩ := hcut
    have hwd : Wide b ⟨b.steps.set k ⟨(nth b.steps k).name, (nth b.steps k).from_, ml⟩, ts⟩ := wide_set (s := ⟨(nth b.steps k).name, (nth b.steps k).from_, ml⟩) hkl ⟨rfl, rfl, by have := HLO1.out; have := HML.out; simp only; omega, HML.out.2⟩ HVD.out htl hts
    have hlf := less_facts HC.out hwd
    have hsl : (b.steps.set k ⟨(nth b.steps k).name, (nth b.steps k).from_, ml⟩).length = b.steps.length := by simp
    obtain ⟨n1, n2, nr⟩ := row_fun HOS.out
    obtain ⟨t1, t2, tr⟩ := row_fun HOT.out
    have hcv : BookV wc wc.heap.size b a := (HX.out.next HB5.out).v
    have hbz : BoxB wc y1.heap.size ⟨b.steps.set k ⟨(nth b.steps k).name, (nth b.steps k).from_, ml⟩, ts⟩ ⟨some ⟨gs, 0, none⟩, AT, cS, cT⟩ := ⟨⟨by show Row _ _ _ ((b.steps.set k _).length * 3) _; rw [hsl]; exact nr, by show Row _ _ _ (ts.length * 3) _; rw [htl]; exact tr, fun j hj => by
     have hj : j < (b.steps.set k ⟨(nth b.steps k).name, (nth b.steps k).from_, ml⟩).length := hj
     rw [hsl] at hj
     show (nth (b.steps.set k _) j).name.size ≤ _
     rw [set_name _ _ _ _ _ hkl]; exact hcv.small j hj, by show (b.steps.set k _).length ≤ _ ∧ _; rw [hsl]; exact ⟨n1, n2⟩, by show ts.length ≤ _ ∧ _; rw [htl]; exact ⟨t1, t2⟩⟩, by
     show Blk _ _ _ #[.slice _ (b.steps.set k _).length _, .slice _ ts.length _]
     rw [hsl, htl]; exact HGA.out⟩
    have HZ := hide hbz
    replace HX := hide (HX.out.next HB5.out)
    replace HG := hide ((HB5.out.cell (p := ⟨0, 0, none⟩) hz0).trans HG.out)
    replace hz0 := Nat.lt_of_lt_of_le hz0 HB5.out.size
    replace HB := hide (HB.out.trans (HB5.out.mono HB.out.size))
    have hzl : (⟨b.steps.set k ⟨(nth b.steps k).name, (nth b.steps k).from_, ml⟩, ts⟩ : Book).steps.length = b.steps.length := hsl
    have HZL := hide hzl
    clear hzl
    clear HB5 HGA HOS HOT hwd hsl n1 n2 nr t1 t2 tr hcv hbz HY HVD HML HLO1 htl hts
    generalize (⟨b.steps.set k ⟨(nth b.steps k).name, (nth b.steps k).from_, ml⟩, ts⟩ : Book) = z at *
    generalize (⟨some ⟨gs, 0, none⟩, AT, cS, cT⟩ : BA) = za at *
    generalize y1.heap.size = gz at *
    obtain ⟨hlk, hlw, hls1, hlh, hll⟩ := hlf
    have HLS := hide hls1
    have HLH := hide hlh
    have HLL := hide hll
    obtain ⟨L1, e1, hL1⟩ : ∃ L e, wrongV b = (L, e) := ⟨_, _, rfl⟩
    obtain ⟨L2, e2, hL2⟩ : ∃ L e, wrongV z = (L, e) := ⟨_, _, rfl⟩
    rw [hL1, hL2] at hlw
    simp only at hlw
    obtain ⟨hle, rfl, rfl⟩ := hlw
    have HL1 := hide hL1
    have HL2 := hide hL2
    clear hL1 hL2 hls1 hlh hll hlk
    have hgtb : decide ((L2.length : Int) > (L1.length : Int)) = false := by rw [decide_eq_false_iff_not]; omega
    have hgtc : decide ((L1.length : Int) < (L2.length : Int)) = false := hgtb
    obtain ⟨gx, x0, x1⟩ := HX.out.cells
    obtain ⟨gq, q0, q1⟩ := HZ.out.cells
    go_upto_region 17 with (go_at_call 31; refine (wrong_any HX.out.v).mono ?_; rintro e y21 ⟨A5, c5, rfl, hi, hb⟩; rw [HL1.out]; clear hi; simp only)
    clear gx x0 x1 gq q0 q1
    replace HG := hide ((hb.cell (p := ⟨0, 0, none⟩) hz0).trans HG.out)
    replace HB := hide (HB.out.trans (hb.mono HB.out.size))
    replace HX := hide (HX.out.next hb)
    replace HZ := hide (HZ.out.next hb)
    replace hz0 := Nat.lt_of_lt_of_le hz0 hb.size
    clear hb
    obtain ⟨gx, x0, x1⟩ := HX.out.cells
    obtain ⟨gq, q0, q1⟩ := HZ.out.cells
    go_upto_region 18 with (go_at_call 31; refine (wrong_any HZ.out.v).mono ?_; rintro e y22 ⟨A6, c6, rfl, hi, hb⟩; rw [HL2.out]; clear hi; simp only)
    clear gx x0 x1 gq q0 q1
    replace HG := hide ((hb.cell (p := ⟨0, 0, none⟩) hz0).trans HG.out)
    replace HB := hide (HB.out.trans (hb.mono HB.out.size))
    replace HX := hide (HX.out.next hb)
    replace HZ := hide (HZ.out.next hb)
    replace hz0 := Nat.lt_of_lt_of_le hz0 hb.size
    clear hb
    obtain ⟨gx, x0, x1⟩ := HX.out.cells
    obtain ⟨gq, q0, q1⟩ := HZ.out.cells
    go_wp2_with fail
    clear gx x0 x1 gq q0 q1
    go_loopw [16, 17, 18, 19, 20, 21, 22, 23, 24, 128, 129, 130, 131, 132, 133, 134, 135, 136, 137, 138, 139, 140, 141, 142, 143, 144, 145, 146, 147, 148, 149, 150, 151, 152, 153, 154, 155, 156, 157, 158, 159, 160, 161, 162, 163, 164, 165, 166, 167, 168, 169, 170, 171, 172, 173, 174, 175, 176, 177, 178, 179, 180, 181, 182, 183, 184, 185, 186, 187, 188] (fun v16 _ _ _ _ _ _ _ _ _ _ _ _ _ _ _ _ _ _ _ _ _ _ _ _ _ _ _ _ _ _ _ _ _ _ _ _ _ _ _ _ _ _ _ _ _ _ _ _ _ _ _ _ _ _ _ _ _ _ _ _ _ _ _ _ _ _ _ _ _ wr => ∃ k : Nat, k ≤ b.steps.length ∧ v16 = .int .i64 (k : Nat) ∧ Hid (Below y22.heap.size y22 wr)) (fun v16 _ _ _ _ _ _ _ _ _ _ _ _ _ _ _ _ _ _ _ _ _ _ _ _ _ _ _ _ _ _ _ _ _ _ _ _ _ _ _ _ _ _ _ _ _ _ _ _ _ _ _ _ _ _ _ _ _ _ _ _ _ _ _ _ _ _ _ _ _ _ => b.steps.length - (intOf v16).toNat)
    case atStart => exact ⟨0, Nat.zero_le _, rfl, hide (Below.refl _ _)⟩
    case round =>
     obtain ⟨j, hj, rfl, HBW⟩ := hrel
     obtain ⟨u0, rfl⟩ : ∃ u0 : World, u0 = wr := ⟨_, rfl⟩
     have hj0 : (0 : Int) ≤ (j : Int) := Int.natCast_nonneg _
     have hb := HBW.out
     replace HG := hide ((hb.cell (p := ⟨0, 0, none⟩) hz0).trans HG.out)
     replace HB := hide (HB.out.trans (hb.mono HB.out.size))
     replace HX := hide (HX.out.next hb)
     replace HZ := hide (HZ.out.next hb)
     replace hz0 := Nat.lt_of_lt_of_le hz0 hb.size
     clear hb
     by_cases hlt : j < b.steps.length
     · have hj1 : (j : Int) < (b.steps.length : Int) := by omega
       cases hs : someV b with
       | false =>
        have HS := hide hs
        clear hs
        obtain ⟨gx, x0, x1⟩ := HX.out.cells
        obtain ⟨gq, q0, q1⟩ := HZ.out.cells
        go_wp2_with (first | (go_at_call 47; refine (some12L_any HX.out.v).mono ?_; rintro e y1 ⟨rfl, hb⟩; rw [HS.out]; replace HG := hide ((hb.cell (p := ⟨0, 0, none⟩) hz0).trans HG.out); replace HB := hide (HB.out.trans (hb.mono HB.out.size)); replace HX := hide (HX.out.next hb); replace HZ := hide (HZ.out.next hb); replace HBW := hide (HBW.out.trans (hb.mono HBW.out.size)); replace hz0 := Nat.lt_of_lt_of_le hz0 hb.size; clear hb gx x0 x1 gq q0 q1) | (go_at_call 23; refine (awake12_any HG.out hz0).mono ?_; rintro e y9 ⟨rfl, hb⟩))
        go_ret
        exact ⟨rfl, HB.out.trans (hb.mono HB.out.size)⟩
       | true =>
        have HS := hide hs
        have hn' : j < z.steps.length := by rw [HZL.out]; exact hlt
        have hsz := HLS.out hs
        have A1 := hide (okS_of hs hlt (handsB b fun _ => false))
        have A2 := hide (okS_of hs hlt (lostB b))
        have A3 := hide (enter_at hs hlt)
        have C1 := hide (okS_of hsz hn' (handsB z fun _ => false))
        have C2 := hide (okS_of hsz hn' (lostB z))
        have C3 := hide (enter_at hsz hn')
        have D1 := hide (HLH.out hs j hlt)
        have D2 := hide (HLL.out hs j hlt)
        clear hs hsz hn'
        generalize handsB b (fun _ => false) j = f1 at A1 D1
        generalize lostB b j = f2 at A2 D2
        generalize handsB z (fun _ => false) j = f3 at C1 D1
        generalize lostB z j = f4 at C2 D2
        obtain ⟨s1, s2⟩ := f1
        obtain ⟨p1, p2⟩ := f2
        obtain ⟨t1, t2⟩ := f3
        obtain ⟨r1, r2⟩ := f4
        obtain ⟨gx, x0, x1⟩ := HX.out.cells
        obtain ⟨gq, q0, q1⟩ := HZ.out.cells
        go_upto_region 23 with (go_at_call 47; refine (some12L_any HX.out.v).mono ?_; rintro e y23 ⟨rfl, hb⟩; rw [HS.out])
        clear gx x0 x1 gq q0 q1
        replace HG := hide ((hb.cell (p := ⟨0, 0, none⟩) hz0).trans HG.out)
        replace HB := hide (HB.out.trans (hb.mono HB.out.size))
        replace HX := hide (HX.out.next hb)
        replace HZ := hide (HZ.out.next hb)
        replace HBW := hide (HBW.out.trans (hb.mono HBW.out.size))
        replace hz0 := Nat.lt_of_lt_of_le hz0 hb.size
        clear hb
        obtain ⟨gx, x0, x1⟩ := HX.out.cells
        obtain ⟨gq, q0, q1⟩ := HZ.out.cells
        go_upto_region 24 with (go_at_call 19; refine (hands_any (s := (j : Int)) HX.out.v).mono ?_; rintro e y24 ⟨rfl, hb⟩; rw [A1.out, A3.out])
        clear gx x0 x1 gq q0 q1
        replace HG := hide ((hb.cell (p := ⟨0, 0, none⟩) hz0).trans HG.out)
        replace HB := hide (HB.out.trans (hb.mono HB.out.size))
        replace HX := hide (HX.out.next hb)
        replace HZ := hide (HZ.out.next hb)
        replace HBW := hide (HBW.out.trans (hb.mono HBW.out.size))
        replace hz0 := Nat.lt_of_lt_of_le hz0 hb.size
        clear hb
        have hb : Below y24.heap.size y24 (y24.alloc (.cells #[.int .i64 s1, .int .i64 s2] 30)) := (Below.refl _ _).alloc (Nat.le_refl _) _
        have SS := hide (show Blk (y24.alloc (.cells #[.int .i64 s1, .int .i64 s2] 30)) y24.heap.size 30 #[.int .i64 s1, .int .i64 s2] from Blk.made)
        replace HG := hide ((hb.cell (p := ⟨0, 0, none⟩) hz0).trans HG.out)
        replace HB := hide (HB.out.trans (hb.mono HB.out.size))
        replace HX := hide (HX.out.next hb)
        replace HZ := hide (HZ.out.next hb)
        replace HBW := hide (HBW.out.trans (hb.mono HBW.out.size))
        replace hz0 := Nat.lt_of_lt_of_le hz0 hb.size
        clear hb
        generalize y24.alloc (.cells #[.int .i64 s1, .int .i64 s2] 30) = y25 at *
        generalize y24.heap.size = ggcs at *
        obtain ⟨gx, x0, x1⟩ := HX.out.cells
        obtain ⟨gq, q0, q1⟩ := HZ.out.cells
        go_upto_region 25 with (go_at_call 19; refine (hands_any (s := (j : Int)) HZ.out.v).mono ?_; rintro e y26 ⟨rfl, hb⟩; rw [C1.out, C3.out])
        clear gx x0 x1 gq q0 q1
        replace HG := hide ((hb.cell (p := ⟨0, 0, none⟩) hz0).trans HG.out)
        replace HB := hide (HB.out.trans (hb.mono HB.out.size))
        replace HX := hide (HX.out.next hb)
        replace HZ := hide (HZ.out.next hb)
        replace HBW := hide (HBW.out.trans (hb.mono HBW.out.size))
        replace SS := hide (SS.out.next hb)
        replace hz0 := Nat.lt_of_lt_of_le hz0 hb.size
        clear hb
        have hb : Below y26.heap.size y26 (y26.alloc (.cells #[.int .i64 t1, .int .i64 t2] 30)) := (Below.refl _ _).alloc (Nat.le_refl _) _
        have ST := hide (show Blk (y26.alloc (.cells #[.int .i64 t1, .int .i64 t2] 30)) y26.heap.size 30 #[.int .i64 t1, .int .i64 t2] from Blk.made)
        replace HG := hide ((hb.cell (p := ⟨0, 0, none⟩) hz0).trans HG.out)
        replace HB := hide (HB.out.trans (hb.mono HB.out.size))
        replace HX := hide (HX.out.next hb)
        replace HZ := hide (HZ.out.next hb)
        replace HBW := hide (HBW.out.trans (hb.mono HBW.out.size))
        replace SS := hide (SS.out.next hb)
        replace hz0 := Nat.lt_of_lt_of_le hz0 hb.size
        clear hb
        generalize y26.alloc (.cells #[.int .i64 t1, .int .i64 t2] 30) = y27 at *
        generalize y26.heap.size = ggct at *
        obtain ⟨gx, x0, x1⟩ := HX.out.cells
        obtain ⟨gq, q0, q1⟩ := HZ.out.cells
        go_upto_region 26 with (go_at_call 21; refine (losts_any (s := (j : Int)) HX.out.v).mono ?_; rintro e y28 ⟨rfl, hb⟩; rw [A2.out, A3.out])
        clear gx x0 x1 gq q0 q1
        replace HG := hide ((hb.cell (p := ⟨0, 0, none⟩) hz0).trans HG.out)
        replace HB := hide (HB.out.trans (hb.mono HB.out.size))
        replace HX := hide (HX.out.next hb)
        replace HZ := hide (HZ.out.next hb)
        replace HBW := hide (HBW.out.trans (hb.mono HBW.out.size))
        replace SS := hide (SS.out.next hb)
        replace ST := hide (ST.out.next hb)
        replace hz0 := Nat.lt_of_lt_of_le hz0 hb.size
        clear hb
        have hb : Below y28.heap.size y28 (y28.alloc (.cells #[.int .i64 p1, .int .i64 p2] 30)) := (Below.refl _ _).alloc (Nat.le_refl _) _
        have SP := hide (show Blk (y28.alloc (.cells #[.int .i64 p1, .int .i64 p2] 30)) y28.heap.size 30 #[.int .i64 p1, .int .i64 p2] from Blk.made)
        replace HG := hide ((hb.cell (p := ⟨0, 0, none⟩) hz0).trans HG.out)
        replace HB := hide (HB.out.trans (hb.mono HB.out.size))
        replace HX := hide (HX.out.next hb)
        replace HZ := hide (HZ.out.next hb)
        replace HBW := hide (HBW.out.trans (hb.mono HBW.out.size))
        replace SS := hide (SS.out.next hb)
        replace ST := hide (ST.out.next hb)
        replace hz0 := Nat.lt_of_lt_of_le hz0 hb.size
        clear hb
        generalize y28.alloc (.cells #[.int .i64 p1, .int .i64 p2] 30) = y29 at *
        generalize y28.heap.size = ggcp at *
        obtain ⟨gx, x0, x1⟩ := HX.out.cells
        obtain ⟨gq, q0, q1⟩ := HZ.out.cells
        go_upto_region 27 with (go_at_call 21; refine (losts_any (s := (j : Int)) HZ.out.v).mono ?_; rintro e y30 ⟨rfl, hb⟩; rw [C2.out, C3.out])
        clear gx x0 x1 gq q0 q1
        replace HG := hide ((hb.cell (p := ⟨0, 0, none⟩) hz0).trans HG.out)
        replace HB := hide (HB.out.trans (hb.mono HB.out.size))
        replace HX := hide (HX.out.next hb)
        replace HZ := hide (HZ.out.next hb)
        replace HBW := hide (HBW.out.trans (hb.mono HBW.out.size))
        replace SS := hide (SS.out.next hb)
        replace ST := hide (ST.out.next hb)
        replace SP := hide (SP.out.next hb)
        replace hz0 := Nat.lt_of_lt_of_le hz0 hb.size
        clear hb
        have hb : Below y30.heap.size y30 (y30.alloc (.cells #[.int .i64 r1, .int .i64 r2] 30)) := (Below.refl _ _).alloc (Nat.le_refl _) _
        have SR := hide (show Blk (y30.alloc (.cells #[.int .i64 r1, .int .i64 r2] 30)) y30.heap.size 30 #[.int .i64 r1, .int .i64 r2] from Blk.made)
        replace HG := hide ((hb.cell (p := ⟨0, 0, none⟩) hz0).trans HG.out)
        replace HB := hide (HB.out.trans (hb.mono HB.out.size))
        replace HX := hide (HX.out.next hb)
        replace HZ := hide (HZ.out.next hb)
        replace HBW := hide (HBW.out.trans (hb.mono HBW.out.size))
        replace SS := hide (SS.out.next hb)
        replace ST := hide (ST.out.next hb)
        replace SP := hide (SP.out.next hb)
        replace hz0 := Nat.lt_of_lt_of_le hz0 hb.size
        clear hb
        generalize y30.alloc (.cells #[.int .i64 r1, .int .i64 r2] 30) = y31 at *
        generalize y30.heap.size = ggcr at *
        obtain ⟨gx, x0, x1⟩ := HX.out.cells
        obtain ⟨gq, q0, q1⟩ := HZ.out.cells
        have gcs := SS.out.lt
        have cs0 := SS.out.at_ 0
        have cs1 := SS.out.at_ 1
        simp only [List.getElem?_toArray, List.getElem?_cons_zero, List.getElem?_cons_succ] at cs0 cs1
        have gct := ST.out.lt
        have ct0 := ST.out.at_ 0
        have ct1 := ST.out.at_ 1
        simp only [List.getElem?_toArray, List.getElem?_cons_zero, List.getElem?_cons_succ] at ct0 ct1
        have gcp := SP.out.lt
        have cp0 := SP.out.at_ 0
        have cp1 := SP.out.at_ 1
        simp only [List.getElem?_toArray, List.getElem?_cons_zero, List.getElem?_cons_succ] at cp0 cp1
        have gcr := SR.out.lt
        have cr0 := SR.out.at_ 0
        have cr1 := SR.out.at_ 1
        simp only [List.getElem?_toArray, List.getElem?_cons_zero, List.getElem?_cons_succ] at cr0 cr1
        go_wp2_with (first | (go_at_call 55; have q9 := D1.out; refine (within12_any ⟨s1, s2⟩ ⟨t1, t2⟩ _).mono ?_; rintro e z1 ⟨rfl, hb⟩; rw [D1.out]; clear gx x0 x1 gq q0 q1 gcs cs0 cs1 gct ct0 ct1 gcp cp0 cp1 gcr cr0 cr1 D1 q9; replace HBW := hide (HBW.out.trans (hb.mono HBW.out.size)); replace SS := hide (SS.out.next hb); replace ST := hide (ST.out.next hb); replace SP := hide (SP.out.next hb); replace SR := hide (SR.out.next hb); clear hb; have gcs := SS.out.lt; have cs0 := SS.out.at_ 0; have cs1 := SS.out.at_ 1; simp only [List.getElem?_toArray, List.getElem?_cons_zero, List.getElem?_cons_succ] at cs0 cs1; have gct := ST.out.lt; have ct0 := ST.out.at_ 0; have ct1 := ST.out.at_ 1; simp only [List.getElem?_toArray, List.getElem?_cons_zero, List.getElem?_cons_succ] at ct0 ct1; have gcp := SP.out.lt; have cp0 := SP.out.at_ 0; have cp1 := SP.out.at_ 1; simp only [List.getElem?_toArray, List.getElem?_cons_zero, List.getElem?_cons_succ] at cp0 cp1; have gcr := SR.out.lt; have cr0 := SR.out.at_ 0; have cr1 := SR.out.at_ 1; simp only [List.getElem?_toArray, List.getElem?_cons_zero, List.getElem?_cons_succ] at cr0 cr1) | (go_at_call 55; refine (within12_any ⟨p1, p2⟩ ⟨r1, r2⟩ _).mono ?_; rintro e z2 ⟨rfl, hb⟩; rw [D2.out]; replace HBW := hide (HBW.out.trans (hb.mono HBW.out.size))))
        go_roundw
        case rel => exact ⟨j + 1, by omega, by go_num, HBW⟩
        case measure => simp [intOf]; omega
     · obtain rfl : j = b.steps.length := by omega
       obtain ⟨gx, x0, x1⟩ := HX.out.cells
       obtain ⟨gq, q0, q1⟩ := HZ.out.cells
       go_wp2_with (first | (go_at_call 23; refine (awake12_any HG.out hz0).mono ?_; rintro e y32 ⟨rfl, hb⟩))
       go_ret
       exact ⟨rfl, HB.out.trans (hb.mono HB.out.size)⟩
 · have HD := hide (show decide ((checkM b).2.2 = 0) = false from decide_eq_false hc)
   have HW := hide (show wrongV b = ([], (checkM b).2.2) by rw [wrongV, if_pos hc])
   have HCN := hide hc
   clear hc
   obtain ⟨gx, x0, x1⟩ := HX.out.cells
   go_upto_region 2 with (go_at_call 41; refine (valid12_any HX.out.v).mono ?_; rintro e y1 ⟨rfl, hb⟩; rw [HD.out])
   clear gx x0 x1
   replace HG := hide ((hb.cell (p := ⟨0, 0, none⟩) hz0).trans HG.out)
   replace HB := hide (HB.out.trans (hb.mono HB.out.size))
   replace HX := hide (HX.out.next hb)
   replace HY := hide (HY.out.next hb)
   replace hz0 := Nat.lt_of_lt_of_le hz0 hb.size
   clear hb
   have hc := HCN.out
   generalize (checkM b).2.2 = E at *
   have hd : (E != 0) = true := by simp [hc]
   clear hc HCN HD
   obtain ⟨gx, x0, x1⟩ := HX.out.cells
   go_upto_region 3 with (go_at_call 31; refine (wrong_any HX.out.v).mono ?_; rintro e y2 ⟨A5, c5, rfl, hi, hb⟩; rw [HW.out]; clear hi; simp only)
   clear gx x0 x1
   replace HG := hide ((hb.cell (p := ⟨0, 0, none⟩) hz0).trans HG.out)
   replace HB := hide (HB.out.trans (hb.mono HB.out.size))
   replace HX := hide (HX.out.next hb)
   replace HY := hide (HY.out.next hb)
   replace hz0 := Nat.lt_of_lt_of_le hz0 hb.size
   clear hb
   obtain ⟨gx, x0, x1⟩ := HX.out.cells
   go_wp2_with (first | (go_at_call 23; refine (awake12_any HG.out hz0).mono ?_; rintro e y3 ⟨rfl, hb⟩))
   go_ret
   exact ⟨rfl, HB.out.trans (hb.mono HB.out.size)⟩
end Go.Proofs.YtocdmkilnbpkdaaGreatDoor
