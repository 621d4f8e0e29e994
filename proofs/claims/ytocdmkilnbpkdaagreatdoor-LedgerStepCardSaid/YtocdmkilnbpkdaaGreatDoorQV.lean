/- LedgerStep. -/
import Derived.Test.YtocdmkilnbpkdaaGreatDoorQP
import Derived.Test.YtocdmkilnbpkdaaGreatDoorVQ
import Derived.OwnWalkIn
import Derived.SizedLaws
import Derived.OwnWalk
import Derived.Laws.AppendOwn
import Derived.Laws.StructEq
import Derived.TacticsInMore
import Derived.Deep.DeepCutAuto
set_option linter.unusedVariables false
set_option linter.unusedSimpArgs false
namespace Go.Proofs.YtocdmkilnbpkdaaGreatDoor
open Go.RowKit
attribute [local go_sem] Oper.semAt_some

theorem one3 (a b d : Int) (j : Nat) (hj : j < 1 * 3) : (([Value.int .i64 a, .int .i64 b, .int .i64 d] : List Value).getD j undef).oneCell' = true := by
 match j, hj with
 | 0, _ => rfl
 | 1, _ => rfl
 | 2, _ => rfl
theorem tallies_snoc (xs : List Tally) (x : Tally) : (List.range (xs.length * 3)).map (talliesF xs) ++ (List.range (1 * 3)).map (fun j => ([Value.int .i64 x.step, .int .i64 x.hands, .int .i64 x.off] : List Value).getD j undef) = (List.range ((xs.length + 1) * 3)).map (talliesF (xs ++ [x])) := by
 have e : nth (xs ++ [x]) xs.length = x := by simp [nth]
 rw [range3 xs.length, List.map_append]
 congr 1
 · exact List.map_congr_left fun j hj => by
    have hj := List.mem_range.1 hj
    have e : nth (xs ++ [x]) (j / 3) = nth xs (j / 3) := by simp [nth, List.getElem?_append_left (show j / 3 < xs.length by omega)]
    rw [talliesF, talliesF, e]
 · show _ = [_, _, _]
   rw [talliesF, talliesF, talliesF, show xs.length * 3 % 3 = 0 by omega, show (xs.length * 3 + 1) % 3 = 1 by omega, show (xs.length * 3 + 2) % 3 = 2 by omega, show xs.length * 3 / 3 = xs.length by omega, show (xs.length * 3 + 1) / 3 = xs.length by omega, show (xs.length * 3 + 2) / 3 = xs.length by omega, e]
   rfl
theorem steps_snoc (xs : List Step) (x : Step) : (List.range (xs.length * 3)).map (stepsF xs) ++ [.string x.name, .int .i64 x.from_, .int .i64 x.loss] = (List.range ((xs.length + 1) * 3)).map (stepsF (xs ++ [x])) := by
 have e : nth (xs ++ [x]) xs.length = x := by simp [nth]
 rw [range3 xs.length, List.map_append]
 congr 1
 · exact List.map_congr_left fun j hj => by
    have hj := List.mem_range.1 hj
    have e : nth (xs ++ [x]) (j / 3) = nth xs (j / 3) := by simp [nth, List.getElem?_append_left (show j / 3 < xs.length by omega)]
    rw [stepsF, stepsF, e]
 · show _ = [_, _, _]
   rw [stepsF, stepsF, stepsF, show xs.length * 3 % 3 = 0 by omega, show (xs.length * 3 + 1) % 3 = 1 by omega, show (xs.length * 3 + 2) % 3 = 2 by omega, show xs.length * 3 / 3 = xs.length by omega, show (xs.length * 3 + 1) / 3 = xs.length by omega, show (xs.length * 3 + 2) / 3 = xs.length by omega, e]
   rfl
theorem step_one (xs : List Step) (j n : Nat) (_ : j < n) : (stepsF xs j).oneCell' = true := by
 rw [stepsF]; split <;> rfl
def zName : ByteArray := ⟨#[122, 46, 110, 101, 119]⟩
structure StepW (b z : Book) : Prop where
 some : someV z = someV b
 at_ : ∀ i, i < b.steps.length → okS z (i : Int) (handsB z (fun _ => false) (i : Int).toNat) = okS b (i : Int) (handsB b (fun _ => false) (i : Int).toNat) ∧ okS z (i : Int) (lostB z (i : Int).toNat) = okS b (i : Int) (lostB b (i : Int).toNat) ∧ enterK z i = enterK b i
 new : okS z (b.steps.length : Int) (handsB z (fun _ => false) (b.steps.length : Int).toNat) = ⟨0, 0⟩ ∧ (enterK z b.steps.length == 0) = someV b
theorem step_walk {b : Book} {p : Nat} {s : ByteArray} (hc : (checkM b).2.2 = 0) (hc' : (checkM (newStep b p s)).2.2 = 0) (hp : p < b.steps.length) (hk : behindB b p ≠ []) : StepW b (newStep b p s) := by
 have h := step_facts hc hc' hp hk
 have hl : (newStep b p s).steps.length = b.steps.length + 1 := newStep_len
 have hen : ∀ i, i < b.steps.length → enterK (newStep b p s) i = enterK b i := fun i hi => by
  rw [enter_of hc hi, enter_of hc' (by omega), h.some]
 refine ⟨h.some, fun i hi => ⟨?_, ?_, hen i hi⟩, ?_⟩
 · rw [okS, okS, hen i hi, Int.toNat_natCast, h.hands i hi]
 · rw [okS, okS, hen i hi, Int.toNat_natCast, h.lost i hi]
 · have e := enter_of hc' (i := b.steps.length) (by omega)
   rw [okS, e, h.some, Int.toNat_natCast]
   cases hs : someV b with
   | true => exact ⟨by rw [if_pos (by simp)]; exact h.new hs, by simp⟩
   | false => exact ⟨by rw [if_neg (by simp)], by simp⟩
attribute [local go_sem] span_equal10
set_option maxHeartbeats 4000000 in
set_option maxRecDepth 100000 in
theorem ledgerStep_any {m : Int} {b : Book} {a : BA} {w : World} (hm : w.cell? ⟨0, 0, none⟩ = some (.int .i64 m)) (hw0 : 0 < w.heap.size) (h : BookV w w.heap.size b a) {x : Int} (hx : 0 ≤ x ∧ x ≤ 255) :
 Calls Tryz.prog 16 #[bookVal b a, .int .u8 x] w fun e w' => e = .returned (.bool true) ∧ Below w.heap.size w w' := by
 have hb0 : Below w.heap.size w (w.alloc (.cells (bookCells b a) 25)) := (Below.refl _ _).alloc (Nat.le_refl _) _
 have HX := hide (BoxB.made h)
 have HG := hide ((hb0.cell (p := ⟨0, 0, none⟩) hw0).trans hm)
 have HB := hide hb0
 have hz0 := Nat.lt_of_lt_of_le hw0 hb0.size
 clear h hm hb0 hw0
 go_enter Tryz.func16, Tryz.ntmps16
 go_upto_region 1 with (fail)
 generalize w.alloc (.cells (bookCells b a) 25) = w0 at *
 obtain ⟨i3, hI3, hy30, hy31, hy32⟩ := info_parts Tryz.infoStep
 obtain ⟨i4, hI4, hz40, hz41, hz42⟩ := info_parts Tryz.infoTally
 by_cases hc : (checkM b).2.2 = 0
 · have HC := hide hc
   have HD := hide (show decide ((checkM b).2.2 = 0) = true from decide_eq_true hc)
   have hvd := valid_of hc
   have HVD := hide hvd
   have hpos := hvd.pos
   have h6 := hvd.steps
   have ht6 := hvd.tallies
   clear hc hvd
   by_cases hf0 : b.steps.length = 6
   · have hq : ((b.steps.length : Int) == 6) = true := by rw [beq_iff_eq]; omega
     clear hf0
     obtain ⟨gx, x0, x1⟩ := HX.out.cells
     go_upto_region 2 with (go_at_call 41; refine (valid12_any HX.out.v).mono ?_; rintro e y1 ⟨rfl, hb⟩; rw [HD.out]; have q9 := (HX.out.next hb).cells.2.1; have q8 := (HX.out.next hb).cells.2.2; have q7 := (HX.out.next hb).cells.1)
     clear gx x0 x1
     replace HG := hide ((hb.cell (p := ⟨0, 0, none⟩) hz0).trans HG.out)
     replace HB := hide (HB.out.trans (hb.mono HB.out.size))
     replace HX := hide (HX.out.next hb)
     replace hz0 := Nat.lt_of_lt_of_le hz0 hb.size
     clear hb
     clear q7 q8 q9
     obtain ⟨gx, x0, x1⟩ := HX.out.cells
     go_wp2_with (first | (go_at_call 23; refine (awake12_any HG.out hz0).mono ?_; rintro e y2 ⟨rfl, hb⟩))
     go_ret
     exact ⟨rfl, HB.out.trans (hb.mono HB.out.size)⟩
   · have hr0 : ((b.steps.length : Int) == 6) = false := by rw [beq_eq_false_iff_ne]; omega
     by_cases hf1 : b.tallies.length = 6
     · have hq : ((b.tallies.length : Int) == 6) = true := by rw [beq_iff_eq]; omega
       clear hf1
       obtain ⟨gx, x0, x1⟩ := HX.out.cells
       go_upto_region 2 with (go_at_call 41; refine (valid12_any HX.out.v).mono ?_; rintro e y1 ⟨rfl, hb⟩; rw [HD.out]; have q9 := (HX.out.next hb).cells.2.1; have q8 := (HX.out.next hb).cells.2.2; have q7 := (HX.out.next hb).cells.1)
       clear gx x0 x1
       replace HG := hide ((hb.cell (p := ⟨0, 0, none⟩) hz0).trans HG.out)
       replace HB := hide (HB.out.trans (hb.mono HB.out.size))
       replace HX := hide (HX.out.next hb)
       replace hz0 := Nat.lt_of_lt_of_le hz0 hb.size
       clear hb
       clear q7 q8 q9
       obtain ⟨gx, x0, x1⟩ := HX.out.cells
       go_wp2_with (first | (go_at_call 23; refine (awake12_any HG.out hz0).mono ?_; rintro e y2 ⟨rfl, hb⟩))
       go_ret
       exact ⟨rfl, HB.out.trans (hb.mono HB.out.size)⟩
     · have hr1 : ((b.tallies.length : Int) == 6) = false := by rw [beq_eq_false_iff_ne]; omega
       have hs5 : b.steps.length ≤ 5 := by omega
       have ht5 : b.tallies.length ≤ 5 := by omega
       clear hf0 hf1
       obtain ⟨gx, x0, x1⟩ := HX.out.cells
       go_upto_region 3 with (go_at_call 41; refine (valid12_any HX.out.v).mono ?_; rintro e y1 ⟨rfl, hb⟩; rw [HD.out]; have q9 := (HX.out.next hb).cells.2.1; have q8 := (HX.out.next hb).cells.2.2; have q7 := (HX.out.next hb).cells.1)
       clear gx x0 x1
       replace HG := hide ((hb.cell (p := ⟨0, 0, none⟩) hz0).trans HG.out)
       replace HB := hide (HB.out.trans (hb.mono HB.out.size))
       replace HX := hide (HX.out.next hb)
       replace hz0 := Nat.lt_of_lt_of_le hz0 hb.size
       clear hb
       clear q7 q8 q9 hr0 hr1
       have hp0 := Int.emod_nonneg x (show (b.steps.length : Int) ≠ 0 by omega)
       have hp1 := Int.emod_lt_of_pos x (show (0 : Int) < (b.steps.length : Int) by omega)
       have hmo : x.tmod (b.steps.length : Int) = x % (b.steps.length : Int) := Int.tmod_eq_emod_of_nonneg hx.1
       have hz2 : (b.steps.length : Int) ≠ 0 := by omega
       have hz3 : ((b.steps.length : Int) == 0) = false := by simpa using hz2
       have hw2 : IntKind.i64.wrap x = x := IntWalk.i64_in _ (by omega)
       obtain ⟨k, hdk⟩ : ∃ k : Nat, x % (b.steps.length : Int) = (k : Int) := ⟨(x % (b.steps.length : Int)).toNat, by omega⟩
       rw [hdk] at hp0 hp1 hmo
       clear hdk
       have hw1 : IntKind.i64.wrap (k : Int) = (k : Int) := IntWalk.i64_in _ (by omega)
       have hkl : k < b.steps.length := by omega
       obtain ⟨gx, x0, x1⟩ := HX.out.cells
       go_upto_region 4 with fail
       clear hmo hz2 hz3 hw1 hw2
       clear gx x0 x1
       obtain ⟨gx, x0, x1⟩ := HX.out.cells
       by_cases hbk : behindB b k = []
       · have hl0 : (behindB b k).length = 0 := by rw [hbk]; rfl
         have HL0 := hide hl0
         clear hbk hl0
         go_upto_region 5 with (go_at_call 44; refine (behind12_any HX.out.v h6 k).mono ?_; rintro e y2 ⟨lA, lc, rfl, hl, _, hb⟩; rw [HL0.out]; clear hl)
         clear gx x0 x1
         replace HG := hide ((hb.cell (p := ⟨0, 0, none⟩) hz0).trans HG.out)
         replace HB := hide (HB.out.trans (hb.mono HB.out.size))
         replace HX := hide (HX.out.next hb)
         replace hz0 := Nat.lt_of_lt_of_le hz0 hb.size
         clear hb
         obtain ⟨gx, x0, x1⟩ := HX.out.cells
         go_wp2_with (first | (go_at_call 23; refine (awake12_any HG.out hz0).mono ?_; rintro e y3 ⟨rfl, hb⟩))
         go_ret
         exact ⟨rfl, HB.out.trans (hb.mono HB.out.size)⟩
       · have hl0 : (((behindB b k).length : Int) == 0) = false := by rw [beq_eq_false_iff_ne]; intro e; exact hbk (List.length_eq_zero_iff.1 (by omega))
         have HBK := hide hbk
         clear hbk
         go_upto_region 6 with (go_at_call 44; refine (behind12_any HX.out.v h6 k).mono ?_; rintro e y2 ⟨lA, lc, rfl, hl, _, hb⟩; clear hl)
         clear gx x0 x1
         replace HG := hide ((hb.cell (p := ⟨0, 0, none⟩) hz0).trans HG.out)
         replace HB := hide (HB.out.trans (hb.mono HB.out.size))
         replace HX := hide (HX.out.next hb)
         replace hz0 := Nat.lt_of_lt_of_le hz0 hb.size
         clear hb
         clear hl0
         obtain ⟨gx, x0, x1⟩ := HX.out.cells
         go_upto_region 7 with fail
         clear gx x0 x1
         have hga : Blk (y2.alloc (.cells (bookCells b a) 25)) y2.heap.size 25 (bookCells b a) := Blk.made
         have hb5 : Below y2.heap.size y2 (y2.alloc (.cells (bookCells b a) 25)) := (Below.refl _ _).alloc (Nat.le_refl _) _
         have HGA := hide hga
         have HB5 := hide hb5
         clear hga hb5
         have hgw := HX.out.k.lt
         generalize (y2.alloc (.cells (bookCells b a) 25)) = v5 at *
         have hg5 : y2.heap.size < v5.heap.size := HGA.out.lt
         obtain ⟨gx, x0, x1⟩ := (HX.out.next HB5.out).cells
         have za := HGA.out.lt
         have a0 : _ = some _ := HGA.out.at_ 0
         have f0 := HGA.out.free 0
         try simp only [List.getElem?_toArray, List.getElem?_cons_zero, List.getElem?_cons_succ] at a0
         have HRL := hide (show Row v5 v5.heap.size a.A1 (b.steps.length * 3) (stepsF b.steps) from (HX.out.next HB5.out).v.steps)
         go_upto_region 8 with (first
          | (at_builtin; refine wpList_app_row _ rfl _ _ 22 rfl v5.heap.size 68 i3 (.agg #[.string ⟨#[]⟩, .int .i64 0, .int .i64 0]) 3 32 Tryz.underlying22 hI3 hy30 hy31 hy32 rfl (by decide) (.slice (some ⟨v5.heap.size, 0, none⟩) 0 0) 0 [] rfl (World.ownsRow_lit _ #[] 0 (Nat.le_refl _) (by simp [maxLen]) rfl) a.A1 b.steps.length a.c1 v5.heap.size (stepsF b.steps) rfl (HRL.out.below ((Below.refl _ _).alloc (Nat.le_refl _) _)) (fun j h => step_one _ j _ h) (by simp only [maxLen]; omega) (by omega) (by simp) ?_; intro v' w1 hown hg hblk; have hbA : Below v5.heap.size v5 w1 := ((Below.refl _ v5).alloc (Nat.le_refl _) (.cells #[] 68)).grown hg (by simp) (fun k hk => by simp [Value.ownBlock] at hk; omega); rw [Nat.zero_add, List.nil_append] at hown; obtain ⟨AS, cS, rfl, hown⟩ := own_ex hown; have a0' := (hbA.cell (p := ⟨y2.heap.size, 0, none⟩) za).trans a0; have f0' := (hbA.frozen (p := ⟨y2.heap.size, 0, none⟩) za).trans f0; have za' := Nat.lt_of_lt_of_le za hbA.size; have HBA := hide hbA; have HOS := hide hown; clear hg hblk hbA hown)
          | (at_builtin; go_loud (refine wpList_append_own_at _ rfl _ _ 22 rfl v5.heap.size 68 i3 (.agg #[.string ⟨#[]⟩, .int .i64 0, .int .i64 0]) 3 32 Tryz.underlying22 hI3 hy30 hy31 hy32 rfl (by decide) _ _ _ rfl (HOS.out.alloc _) ⟨w1.heap.size, 0, none⟩ 1 1 [.string zName, .int .i64 (k : Int), .int .i64 0] rfl rfl (cells3_new _ _ _ _ _) (by simp [Value.oneCell']) (by simp only [maxLen]; omega) (by omega) (by have := HBA.out.size; simp; omega) ?_; intro v2 w2 hown2 hg2 _ hblk2); have hbC : Below v5.heap.size v5 w2 := (HBA.out.alloc HBA.out.size _).grown hg2 (by have := HBA.out.size; simp; omega) (fun k hk => (HOS.out.lt k hk).1); rw [steps_snoc b.steps ⟨zName, k, 0⟩] at hown2; obtain ⟨AZ, cZ, rfl, hown2⟩ := own_ex hown2; have HBC := hide hbC; have HOZ := hide hown2; have a0' := (hbC.cell (p := ⟨y2.heap.size, 0, none⟩) za).trans a0; have f0' := (hbC.frozen (p := ⟨y2.heap.size, 0, none⟩) za).trans f0; have za' := Nat.lt_of_lt_of_le za hbC.size; clear hg2 hblk2 hbC hown2))
         have hk1 : Keep (fun q => q = y2.heap.size) w2 (w2.setCell ⟨y2.heap.size, 0, none⟩ (.slice AZ (b.steps.length + 1) cZ)) := Keep.setCell _ _ _ _ rfl
         have b1 := (HGA.out.next HBC.out).store 0 (.slice AZ (b.steps.length + 1) cZ)
         have b3 := own_kept HOZ.out hk1 (fun b hb hS => by omega)
         have b4 := (HB5.out.trans (HBC.out.mono HB5.out.size)).setCell (p := ⟨y2.heap.size, 0, none⟩) (Nat.le_refl _) (.slice AZ (b.steps.length + 1) cZ)
         clear hk1 HBA HBC HRL a0 f0 a0' f0' za za' gx x0 x1 HGA HB5 HOS HOZ
         generalize (w2.setCell ⟨y2.heap.size, 0, none⟩ (.slice AZ (b.steps.length + 1) cZ)) = v1 at *
         have HGA := hide b1
         have HOZ := hide b3
         have HB5 := hide b4
         clear b1 b3 b4
         have pb4 : v1.cell? ⟨w.heap.size, 1, none⟩ = some (.slice a.A2 b.tallies.length a.c2) := (HX.out.next HB5.out).cells.2.2
         have pb3 : v1.cell? ⟨w.heap.size, 0, none⟩ = some (.slice a.A1 b.steps.length a.c1) := (HX.out.next HB5.out).cells.2.1
         have hse := (HX.out.next HB5.out).v.tallies
         have HSE := hide hse
         have z0 : w.heap.size < v1.heap.size := by have := HB5.out.size; omega
         have zg : y2.heap.size < v1.heap.size := HGA.out.lt
         have pg4 : v1.cell? ⟨y2.heap.size, 1, none⟩ = some (.slice a.A2 b.tallies.length a.c2) := HGA.out.at_ 1
         have fg4 := HGA.out.free 1
         clear hse
         refine wp_post0 (fun act0 aq W => ∃ vs : Nat → Value, aq = { tmps := setAll (fun oi => [56, 57, 58, 59, 60, 61, 62, 63, 64, 65, 66, 0].getD oi 0) vs [0, 1, 2, 3, 4, 5, 6, 7, 8, 9, 10] act0.tmps, defers := act0.defers } ∧ ∃ (W1 : World) (A : Option Addr) (cp : Nat), W = W1.setCell ⟨y2.heap.size, 1, none⟩ (.slice A (b.tallies.length + 1) cp) ∧ Below v1.heap.size v1 W1 ∧ W1.ownsRow v1.heap.size 50 3 (.slice A (b.tallies.length + 1) cp) (b.tallies.length + 1) ((List.range (b.tallies.length * 3)).map (talliesF b.tallies) ++ (List.range (1 * 3)).map (fun j => [Value.int .i64 (b.steps.length : Nat), .int .i64 0, .int .i64 0].getD j undef))) ?reg ?imp
         case reg =>
          have hST : Stab v1.heap.size (fun oi v W => match oi with | 0 => ∃ A cp, v = .slice A 0 cp ∧ W.ownsRow v1.heap.size 50 3 (.slice A 0 cp) 0 ([]) | 1 => v = .pointer (some ⟨w.heap.size, 1, none⟩) | 2 => v = .slice a.A2 b.tallies.length a.c2 | 3 => ∃ A cp, v = .slice A b.tallies.length cp ∧ W.ownsRow v1.heap.size 50 3 (.slice A b.tallies.length cp) b.tallies.length ((List.range (b.tallies.length * 3)).map (talliesF b.tallies)) | 4 => v = .pointer (some ⟨w.heap.size, 0, none⟩) | 5 => v = .slice a.A1 b.steps.length a.c1 | 6 => v = .int .i64 (b.steps.length : Nat) | 7 => v = .agg #[.int .i64 (b.steps.length : Nat), .int .i64 0, .int .i64 0] | 8 => ∃ A cp, v = .slice A 1 cp ∧ W.ownsRow v1.heap.size 50 3 (.slice A 1 cp) 1 ([.int .i64 (b.steps.length : Nat), .int .i64 0, .int .i64 0]) | 9 => ∃ A cp, v = .slice A (b.tallies.length + 1) cp ∧ W.ownsRow v1.heap.size 50 3 (.slice A (b.tallies.length + 1) cp) (b.tallies.length + 1) ((List.range (b.tallies.length * 3)).map (talliesF b.tallies) ++ (List.range (1 * 3)).map (fun j => [Value.int .i64 (b.steps.length : Nat), .int .i64 0, .int .i64 0].getD j undef)) | _ => True) (fun oi v b => match oi with | 0 => v.ownBlock = some b | 3 => v.ownBlock = some b | 8 => v.ownBlock = some b | 9 => v.ownBlock = some b | _ => False) := by
           intro oi v W W' h hbs hz hk
           match oi, h, hk with
           | 0, h, hk => obtain ⟨A, cp, rfl, h2⟩ := h; exact ⟨A, cp, rfl, own_stab h2 (fun b hb e => hk b hb (.inr e))⟩
           | 1, h, hk => exact h
           | 2, h, hk => exact h
           | 3, h, hk => obtain ⟨A, cp, rfl, h2⟩ := h; exact ⟨A, cp, rfl, own_stab h2 (fun b hb e => hk b hb (.inr e))⟩
           | 4, h, hk => exact h
           | 5, h, hk => exact h
           | 6, h, hk => exact h
           | 7, h, hk => exact h
           | 8, h, hk => obtain ⟨A, cp, rfl, h2⟩ := h; exact ⟨A, cp, rfl, own_stab h2 (fun b hb e => hk b hb (.inr e))⟩
           | 9, h, hk => obtain ⟨A, cp, rfl, h2⟩ := h; exact ⟨A, cp, rfl, own_stab h2 (fun b hb e => hk b hb (.inr e))⟩
           | oi + 10, h, hk => exact trivial
          refine wp_region_inv (dst := fun oi => [56, 57, 58, 59, 60, 61, 62, 63, 64, 65, 66, 0].getD oi 0) (mono := fun oi => decide (oi < 10)) (pre := fun oi => decide (oi < 10)) (G := Loose 12 v1.heap.size (fun oi => match oi with | 0 => 3 | 3 => 9 | _ => 12) (fun oi v W => match oi with | 0 => ∃ A cp, v = .slice A 0 cp ∧ W.ownsRow v1.heap.size 50 3 (.slice A 0 cp) 0 ([]) | 1 => v = .pointer (some ⟨w.heap.size, 1, none⟩) | 2 => v = .slice a.A2 b.tallies.length a.c2 | 3 => ∃ A cp, v = .slice A b.tallies.length cp ∧ W.ownsRow v1.heap.size 50 3 (.slice A b.tallies.length cp) b.tallies.length ((List.range (b.tallies.length * 3)).map (talliesF b.tallies)) | 4 => v = .pointer (some ⟨w.heap.size, 0, none⟩) | 5 => v = .slice a.A1 b.steps.length a.c1 | 6 => v = .int .i64 (b.steps.length : Nat) | 7 => v = .agg #[.int .i64 (b.steps.length : Nat), .int .i64 0, .int .i64 0] | 8 => ∃ A cp, v = .slice A 1 cp ∧ W.ownsRow v1.heap.size 50 3 (.slice A 1 cp) 1 ([.int .i64 (b.steps.length : Nat), .int .i64 0, .int .i64 0]) | 9 => ∃ A cp, v = .slice A (b.tallies.length + 1) cp ∧ W.ownsRow v1.heap.size 50 3 (.slice A (b.tallies.length + 1) cp) (b.tallies.length + 1) ((List.range (b.tallies.length * 3)).map (talliesF b.tallies) ++ (List.range (1 * 3)).map (fun j => [Value.int .i64 (b.steps.length : Nat), .int .i64 0, .int .i64 0].getD j undef)) | _ => True) (fun oi v b => match oi with | 0 => v.ownBlock = some b | 3 => v.ownBlock = some b | 8 => v.ownBlock = some b | 9 => v.ownBlock = some b | _ => False)) (by kernel_rfl) (by kernel_rfl) (Loose.start (Nat.le_refl _)) ?hstep ?hend
          case hstep =>
           intro oi hoi hom listed vs aq W hU hsz hG hcl hl haft K hK
           have hb := ((Below.refl v1.heap.size v1).drew).trans hU.below
           have hF := Loose.stepF hU hG hST hoi hK
           match oi, hoi, hom with
           | 0, hoi, hom =>
            refine wpOp_value (v := .slice (some ⟨W.heap.size, 0, none⟩) 0 0) (W' := (W.alloc (.cells #[] 50))) rfl rfl ?_ (hF _ _ ((Below.refl _ _).alloc (Nat.le_refl _) _) (own_lit hG.base #[] 0 rfl (by simp [maxLen])) (fun b h => by rw [← own_new h]; exact ⟨by simp, .inl (Nat.le_refl _)⟩))
            go_simp
           | 1, hoi, hom =>
            have z2 : aq.tmps[2]?.getD undef = .pointer (some ⟨w.heap.size, 0, none⟩) := hU.same 2 (by decide)
            refine wpOp_value (v := .pointer (some ⟨w.heap.size, 1, none⟩)) (W' := W) rfl rfl ?_ (hF _ _ (Below.refl _ _) rfl (fun _ h => False.elim h))
            go_simp
           | 2, hoi, hom =>
            have l1 := haft _ rfl { on := 1, ground := .data } (by simp) rfl
            have p1 := hG.pv 1 (by decide) (live_end hsz rfl l1)
            have s1 : aq.tmps[57]?.getD undef = vs 1 := hU.slot 1 (by decide) l1
            have hv1 : vs 1 = .pointer (some ⟨w.heap.size, 1, none⟩) := p1
            rw [hv1] at s1
            have y0 := (hb.cell (p := ⟨w.heap.size, 1, none⟩) (z0)).trans (pb4)
            refine wpOp_value (v := .slice a.A2 b.tallies.length a.c2) (W' := W) rfl rfl ?_ (hF _ _ (Below.refl _ _) rfl (fun _ h => False.elim h))
            go_simp
           | 3, hoi, hom =>
            have l0 := haft _ rfl { on := 0, ground := .data } (by simp) rfl
            have p0 := hG.pv 0 (by decide) (⟨l0, hl⟩)
            have s0 : aq.tmps[56]?.getD undef = vs 0 := hU.slot 0 (by decide) l0
            obtain ⟨PA0, kp0, hv0, hi0⟩ := p0
            rw [hv0] at s0
            have l2 := haft _ rfl { on := 2, ground := .data } (by simp) rfl
            have p2 := hG.pv 2 (by decide) (live_end hsz rfl l2)
            have s2 : aq.tmps[58]?.getD undef = vs 2 := hU.slot 2 (by decide) l2
            have hv2 : vs 2 = .slice a.A2 b.tallies.length a.c2 := p2
            rw [hv2] at s2
            have hA := Loose.stepA (p := 0) hU hG rfl hST hoi hK (by decide) (by decide) rfl ⟨l0, hl⟩ (fun b h => h) (by rw [hv0]; exact hi0)
            obtain ⟨v', W', hrun, hown', hg, hblk⟩ := run_app_row (P := Tryz.prog) W v1.heap.size 23 23 50 i4 (.agg #[.int .i64 0, .int .i64 0, .int .i64 0]) 3 24 Tryz.underlying23 hI4 hz40 hz41 hz42 rfl (by decide) hi0 (HSE.out.below hb) (fun j _ => rfl) (by simp only [maxLen]; omega) (by omega) hG.base
            rw [Nat.zero_add, List.nil_append] at hown'
            exact wpOp_append (s := 56) (x := 58) (v' := v') (W' := W') rfl rfl rfl s0 s2 hrun (hA _ _ _ _ (by rw [hv0]; exact hg) hown' (by rw [hv0]; exact hblk) (own_ex hown') (fun b h => h))
           | 4, hoi, hom =>
            have z2 : aq.tmps[2]?.getD undef = .pointer (some ⟨w.heap.size, 0, none⟩) := hU.same 2 (by decide)
            refine wpOp_value (v := .pointer (some ⟨w.heap.size, 0, none⟩)) (W' := W) rfl rfl ?_ (hF _ _ (Below.refl _ _) rfl (fun _ h => False.elim h))
            go_simp
           | 5, hoi, hom =>
            have l4 := haft _ rfl { on := 4, ground := .data } (by simp) rfl
            have p4 := hG.pv 4 (by decide) (live_end hsz rfl l4)
            have s4 : aq.tmps[60]?.getD undef = vs 4 := hU.slot 4 (by decide) l4
            have hv4 : vs 4 = .pointer (some ⟨w.heap.size, 0, none⟩) := p4
            rw [hv4] at s4
            have y0 := (hb.cell (p := ⟨w.heap.size, 0, none⟩) (z0)).trans (pb3)
            refine wpOp_value (v := .slice a.A1 b.steps.length a.c1) (W' := W) rfl rfl ?_ (hF _ _ (Below.refl _ _) rfl (fun _ h => False.elim h))
            go_simp
           | 6, hoi, hom =>
            have l5 := haft _ rfl { on := 5, ground := .data } (by simp) rfl
            have p5 := hG.pv 5 (by decide) (live_end hsz rfl l5)
            have s5 : aq.tmps[61]?.getD undef = vs 5 := hU.slot 5 (by decide) l5
            have hv5 : vs 5 = .slice a.A1 b.steps.length a.c1 := p5
            rw [hv5] at s5
            refine wpOp_value (v := .int .i64 (b.steps.length : Nat)) (W' := W) rfl rfl ?_ (hF _ _ (Below.refl _ _) rfl (fun _ h => False.elim h))
            go_simp
           | 7, hoi, hom =>
            have l6 := haft _ rfl { on := 6, ground := .data } (by simp) rfl
            have p6 := hG.pv 6 (by decide) (live_end hsz rfl l6)
            have s6 : aq.tmps[62]?.getD undef = vs 6 := hU.slot 6 (by decide) l6
            have hv6 : vs 6 = .int .i64 (b.steps.length : Nat) := p6
            rw [hv6] at s6
            refine wpOp_value (v := .agg #[.int .i64 (b.steps.length : Nat), .int .i64 0, .int .i64 0]) (W' := W) rfl rfl ?_ (hF _ _ (Below.refl _ _) rfl (fun _ h => False.elim h))
            go_simp
           | 8, hoi, hom =>
            have l7 := haft _ rfl { on := 7, ground := .data } (by simp) rfl
            have p7 := hG.pv 7 (by decide) (live_end hsz rfl l7)
            have s7 : aq.tmps[63]?.getD undef = vs 7 := hU.slot 7 (by decide) l7
            have hv7 : vs 7 = .agg #[.int .i64 (b.steps.length : Nat), .int .i64 0, .int .i64 0] := p7
            rw [hv7] at s7
            refine wpOp_value (v := .slice (some ⟨W.heap.size, 0, none⟩) 1 1) (W' := (W.alloc (.cells #[.int .i64 (b.steps.length : Nat), .int .i64 0, .int .i64 0] 50))) rfl rfl ?_ (hF _ _ ((Below.refl _ _).alloc (Nat.le_refl _) _) (own_lit hG.base #[.int .i64 (b.steps.length : Nat), .int .i64 0, .int .i64 0] 1 rfl (by simp [maxLen])) (fun b h => by rw [← own_new h]; exact ⟨by simp, .inl (Nat.le_refl _)⟩))
            go_simp
           | 9, hoi, hom =>
            have l3 := haft _ rfl { on := 3, ground := .data } (by simp) rfl
            have p3 := hG.pv 3 (by decide) (⟨l3, hl⟩)
            have s3 : aq.tmps[59]?.getD undef = vs 3 := hU.slot 3 (by decide) l3
            obtain ⟨PA3, kp3, hv3, hi3⟩ := p3
            rw [hv3] at s3
            have l8 := haft _ rfl { on := 8, ground := .data } (by simp) rfl
            have p8 := hG.pv 8 (by decide) (live_end hsz rfl l8)
            have s8 : aq.tmps[64]?.getD undef = vs 8 := hU.slot 8 (by decide) l8
            obtain ⟨PA8, kp8, hv8, hi8⟩ := p8
            rw [hv8] at s8
            obtain ⟨_, _, e8, _, _, hr8⟩ := row_own hi8
            obtain ⟨rfl, rfl⟩ : _ = PA8 ∧ _ = kp8 := by simp only [Value.slice.injEq, true_and] at e8; exact ⟨e8.1.symm, e8.2.symm⟩
            have hA := Loose.stepA (p := 3) hU hG rfl hST hoi hK (by decide) (by decide) rfl ⟨l3, hl⟩ (fun b h => h) (by rw [hv3]; exact hi3)
            obtain ⟨v', W', hrun, hown', hg, hblk⟩ := run_app_row (P := Tryz.prog) W v1.heap.size 23 23 50 i4 (.agg #[.int .i64 0, .int .i64 0, .int .i64 0]) 3 24 Tryz.underlying23 hI4 hz40 hz41 hz42 rfl (by decide) hi3 hr8 (one3 _ _ _) (by simp only [maxLen]; omega) (by omega) hG.base
            exact wpOp_append (s := 59) (x := 64) (v' := v') (W' := W') rfl rfl rfl s3 s8 hrun (hA _ _ _ _ (by rw [hv3]; exact hg) hown' (by rw [hv3]; exact hblk) (own_ex hown') (fun b h => h))
           | oi + 10, hoi, hom => exact absurd (of_decide_eq_true hom) (by omega)
          case hend =>
           intro listed vs aq W hG0 hG hpre
           have hb := ((Below.refl v1.heap.size v1).drew).trans hG0.below
           have hact := hG0.act
           have hT := hG0.lst hpre 0 #[true, true, true, true, true, true, true, true, true, true, false, false] rfl (by kernel_rfl) (hpre 0 (by decide) (by decide))
           rw [hG0.ix hT (l := [0, 1, 2, 3, 4, 5, 6, 7, 8, 9]) (by kernel_rfl)] at hact
           rw [hG0.lo hT (k := 2) (by kernel_rfl)]
           have p9 := hG.pv 9 (by decide) (live_end hG.size rfl (hpre 9 (by decide) (by decide)))
           clear hpre hG hST
           obtain rfl : aq = _ := hact
           subst hT
           obtain ⟨A, cp, hv9, hi9⟩ := p9
           have y4 := (hb.cell (p := ⟨y2.heap.size, 1, none⟩) zg).trans pg4
           have f4 := (hb.frozen (p := ⟨y2.heap.size, 1, none⟩) zg).trans fg4
           simp only [setAll, List.setIfInBounds_toArray, List.set_cons_succ, List.set_cons_zero, List.getD_cons_succ, List.getD_cons_zero]
           refine wpAny_all (rs := [10]) (by kernel_rfl) (by simp) ?_
           intro i2 hi2
           obtain rfl : i2 = 10 := by simpa using hi2
           refine wpOp_value (v := .pointer (some ⟨y2.heap.size, 1, none⟩)) (W' := W) rfl rfl ?_ ?_
           · go_simp
           refine wpAny_all (rs := [11]) (by kernel_rfl) (by simp) ?_
           intro i2 hi2
           obtain rfl : i2 = 11 := by simpa using hi2
           refine wpOp_skip (W' := W.setCell ⟨y2.heap.size, 1, none⟩ (.slice A (b.tallies.length + 1) cp)) rfl rfl ?_ ?_
           · rw [hv9]; go_simp
           refine wpAny_done (by kernel_rfl) ?_ _
           exact ⟨rfl, fun q => if q = 10 then .pointer (some ⟨y2.heap.size, 1, none⟩) else vs q, rfl, W, A, cp, rfl, hb, hi9⟩
         case imp =>
         rintro a9 w2 ⟨vs, rfl, W1, A, cp, rfl, hb1, hown⟩
         simp only [setAll, List.setIfInBounds_toArray, List.set_cons_succ, List.set_cons_zero, List.getD_cons_succ, List.getD_cons_zero]
         rw [tallies_snoc b.tallies ⟨(b.steps.length : Nat), 0, 0⟩] at hown
         have b0 := (HGA.out.below hb1 zg).store 1 (.slice A (b.tallies.length + 1) cp)
         have hk1 : Keep (fun q => q = y2.heap.size) W1 (W1.setCell ⟨y2.heap.size, 1, none⟩ (.slice A (b.tallies.length + 1) cp)) := Keep.setCell _ _ _ _ rfl
         have ho := own_kept hown hk1 (fun b hb hS => by omega)
         have hs := own_kept (own_stab HOZ.out (fun b hb _ => hb1.block b hb)) hk1 (fun b hb hS => by omega)
         have b4 := (HB5.out.trans (hb1.mono (Nat.le_of_lt zg))).setCell (p := ⟨y2.heap.size, 1, none⟩) (Nat.le_refl _) (.slice A (b.tallies.length + 1) cp)
         obtain ⟨m1, m2, hr⟩ := row_fun ho
         obtain ⟨n1, n2, nr⟩ := row_fun hs
         clear ho hs hk1 hown hb1 HGA HOZ HB5 HSE pb3 pb4 pg4 fg4 hI4 hz40 hz41 hz42 hI3 hy30 hy31 hy32 z0 zg hg5
         generalize W1.setCell ⟨y2.heap.size, 1, none⟩ (.slice A (b.tallies.length + 1) cp) = v7 at *
         replace HG := hide ((b4.cell (p := ⟨0, 0, none⟩) hz0).trans HG.out)
         replace HB := hide (HB.out.trans (b4.mono HB.out.size))
         replace HX := hide (HX.out.next b4)
         replace hz0 := Nat.lt_of_lt_of_le hz0 b4.size
         have hcv : BookV v7 v7.heap.size b a := HX.out.v
         have e8 : (newStep b k zName).steps.length = b.steps.length + 1 := newStep_len
         have e9 : (newStep b k zName).tallies.length = b.tallies.length + 1 := by simp [newStep]
         have HZ : Hid (BoxB v7 y2.heap.size (newStep b k zName) ⟨AZ, A, cZ, cp⟩) := hide ⟨⟨by rw [e8]; exact nr, by rw [e9]; exact hr, fun j hj => by
          rw [e8] at hj
          by_cases hjl : j < b.steps.length
          · rw [show nth (newStep b k zName).steps j = nth b.steps j from nth_old hjl]; exact hcv.small j hjl
          · obtain rfl : j = b.steps.length := by omega
            rw [show nth (newStep b k zName).steps b.steps.length = ⟨zName, k, 0⟩ from nth_end]; exact (show zName.size ≤ maxLen by decide), by rw [e8]; exact ⟨n1, n2⟩, by rw [e9]; exact ⟨m1, m2⟩⟩, by
          show Blk _ _ _ #[.slice AZ (newStep b k zName).steps.length cZ, .slice A (newStep b k zName).tallies.length cp]
          rw [e8, e9]; exact b0⟩
         have HSW := hide (fun (h : (checkM (newStep b k zName)).2.2 = 0) => step_walk HC.out h hkl HBK.out)
         clear b0 b4 m1 m2 hr n1 n2 nr hcv e8 e9 HC HBK HD HVD hp0 hp1
         generalize newStep b k zName = z at *
         generalize (⟨AZ, A, cZ, cp⟩ : BA) = za at *
         generalize y2.heap.size = gz at *
         by_cases hcz : (checkM z).2.2 = 0
         · have HDZ := hide (show decide ((checkM z).2.2 = 0) = true from decide_eq_true hcz)
           obtain ⟨hsv, hat, hnw⟩ := HSW.out hcz
           have HAT := hide hat
           have HNW := hide hnw
           clear hcz hat hnw hsv HSW
           obtain ⟨gx, x0, x1⟩ := HX.out.cells
           obtain ⟨gq, q0, q1⟩ := HZ.out.cells
           go_upto_region 11 with (go_at_call 41; refine (valid12_any HZ.out.v).mono ?_; rintro e y31 ⟨rfl, hb⟩; rw [HDZ.out])
           clear gx x0 x1 gq q0 q1
           replace HG := hide ((hb.cell (p := ⟨0, 0, none⟩) hz0).trans HG.out)
           replace HB := hide (HB.out.trans (hb.mono HB.out.size))
           replace HX := hide (HX.out.next hb)
           replace HZ := hide (HZ.out.next hb)
           replace hz0 := Nat.lt_of_lt_of_le hz0 hb.size
           clear hb
           have hgt : Tryz.prog.eqGuardType Tryz.prog.depth 30 = false := by kernel_rfl
           obtain ⟨gx, x0, x1⟩ := HX.out.cells
           obtain ⟨gq, q0, q1⟩ := HZ.out.cells
           go_wp2_with fail
           clear gx x0 x1 gq q0 q1
           go_loopw [7, 8, 9, 10, 11, 12, 13, 14, 15, 71, 72, 73, 74, 75, 76, 77, 78, 79, 80, 81, 82, 83, 84, 85, 86, 87, 88, 89, 90, 91, 92, 93, 94, 95, 96, 97, 98, 99, 100, 101, 102, 103, 104, 105, 106, 107, 108, 109, 110, 111, 112, 113, 114, 115, 116, 117, 118, 119] (fun v7s _ _ _ _ _ _ _ _ _ _ _ _ _ _ _ _ _ _ _ _ _ _ _ _ _ _ _ _ _ _ _ _ _ _ _ _ _ _ _ _ _ _ _ _ _ _ _ _ _ _ _ _ _ _ _ _ _ wr => ∃ k : Nat, k ≤ b.steps.length ∧ v7s = .int .i64 (k : Nat) ∧ Hid (Below y31.heap.size y31 wr)) (fun v7s _ _ _ _ _ _ _ _ _ _ _ _ _ _ _ _ _ _ _ _ _ _ _ _ _ _ _ _ _ _ _ _ _ _ _ _ _ _ _ _ _ _ _ _ _ _ _ _ _ _ _ _ _ _ _ _ _ _ => b.steps.length - (intOf v7s).toNat)
           case atStart => exact ⟨0, Nat.zero_le _, rfl, hide (Below.refl _ _)⟩
           case round =>
            obtain ⟨j, hj, rfl, HBW⟩ := hrel
            obtain ⟨u0, rfl⟩ : ∃ u0 : World, u0 = wr := ⟨_, rfl⟩
            have hj0 : (0 : Int) ≤ (j : Int) := Int.natCast_nonneg _
            have hb := HBW.out
            replace HG := hide ((hb.cell (p := ⟨0, 0, none⟩) hz0).trans HG.out)
            replace HB := hide (HB.out.trans (hb.mono HB.out.size))
            replace HX := hide (HX.out.next hb)
            replace HZ := hide (HZ.out.next hb)
            replace hz0 := Nat.lt_of_lt_of_le hz0 hb.size
            clear hb
            by_cases hlt : j < b.steps.length
            · have hj1 : (j : Int) < (b.steps.length : Int) := by omega
              obtain ⟨c1, c2, c3⟩ := HAT.out j hlt
              generalize hs1 : okS b (j : Int) (handsB b (fun _ => false) (j : Int).toNat) = f1 at *
              generalize hs2 : okS b (j : Int) (lostB b (j : Int).toNat) = f2 at *
              generalize hs3 : enterK b (j : Int) = K at *
              obtain ⟨s1, s2⟩ := f1
              obtain ⟨p1, p2⟩ := f2
              have C1 := hide c1
              have C2 := hide c2
              have C3 := hide c3
              have HS1 := hide hs1
              have HS2 := hide hs2
              have HS3 := hide hs3
              clear c1 c2 c3 hs1 hs2 hs3
              obtain ⟨gx, x0, x1⟩ := HX.out.cells
              obtain ⟨gq, q0, q1⟩ := HZ.out.cells
              go_upto_region 15 with (go_at_call 19; refine (hands_any (s := (j : Int)) HX.out.v).mono ?_; rintro e y32 ⟨rfl, hb⟩; rw [HS1.out, HS3.out])
              clear gx x0 x1 gq q0 q1
              replace HG := hide ((hb.cell (p := ⟨0, 0, none⟩) hz0).trans HG.out)
              replace HB := hide (HB.out.trans (hb.mono HB.out.size))
              replace HX := hide (HX.out.next hb)
              replace HZ := hide (HZ.out.next hb)
              replace HBW := hide (HBW.out.trans (hb.mono HBW.out.size))
              replace hz0 := Nat.lt_of_lt_of_le hz0 hb.size
              clear hb
              have hb : Below y32.heap.size y32 (y32.alloc (.cells #[.int .i64 s1, .int .i64 s2] 30)) := (Below.refl _ _).alloc (Nat.le_refl _) _
              have SS := hide (show Blk (y32.alloc (.cells #[.int .i64 s1, .int .i64 s2] 30)) y32.heap.size 30 #[.int .i64 s1, .int .i64 s2] from Blk.made)
              replace HG := hide ((hb.cell (p := ⟨0, 0, none⟩) hz0).trans HG.out)
              replace HB := hide (HB.out.trans (hb.mono HB.out.size))
              replace HX := hide (HX.out.next hb)
              replace HZ := hide (HZ.out.next hb)
              replace HBW := hide (HBW.out.trans (hb.mono HBW.out.size))
              replace hz0 := Nat.lt_of_lt_of_le hz0 hb.size
              clear hb
              generalize y32.alloc (.cells #[.int .i64 s1, .int .i64 s2] 30) = y33 at *
              generalize y32.heap.size = ggcs at *
              obtain ⟨gx, x0, x1⟩ := HX.out.cells
              obtain ⟨gq, q0, q1⟩ := HZ.out.cells
              go_upto_region 16 with (go_at_call 19; refine (hands_any (s := (j : Int)) HZ.out.v).mono ?_; rintro e y34 ⟨rfl, hb⟩; rw [C1.out, C3.out])
              clear gx x0 x1 gq q0 q1
              replace HG := hide ((hb.cell (p := ⟨0, 0, none⟩) hz0).trans HG.out)
              replace HB := hide (HB.out.trans (hb.mono HB.out.size))
              replace HX := hide (HX.out.next hb)
              replace HZ := hide (HZ.out.next hb)
              replace HBW := hide (HBW.out.trans (hb.mono HBW.out.size))
              replace SS := hide (SS.out.next hb)
              replace hz0 := Nat.lt_of_lt_of_le hz0 hb.size
              clear hb
              have hb : Below y34.heap.size y34 (y34.alloc (.cells #[.int .i64 s1, .int .i64 s2] 30)) := (Below.refl _ _).alloc (Nat.le_refl _) _
              have ST := hide (show Blk (y34.alloc (.cells #[.int .i64 s1, .int .i64 s2] 30)) y34.heap.size 30 #[.int .i64 s1, .int .i64 s2] from Blk.made)
              replace HG := hide ((hb.cell (p := ⟨0, 0, none⟩) hz0).trans HG.out)
              replace HB := hide (HB.out.trans (hb.mono HB.out.size))
              replace HX := hide (HX.out.next hb)
              replace HZ := hide (HZ.out.next hb)
              replace HBW := hide (HBW.out.trans (hb.mono HBW.out.size))
              replace SS := hide (SS.out.next hb)
              replace hz0 := Nat.lt_of_lt_of_le hz0 hb.size
              clear hb
              generalize y34.alloc (.cells #[.int .i64 s1, .int .i64 s2] 30) = y35 at *
              generalize y34.heap.size = ggct at *
              obtain ⟨gx, x0, x1⟩ := HX.out.cells
              obtain ⟨gq, q0, q1⟩ := HZ.out.cells
              go_upto_region 17 with (go_at_call 21; refine (losts_any (s := (j : Int)) HX.out.v).mono ?_; rintro e y36 ⟨rfl, hb⟩; rw [HS2.out, HS3.out])
              clear gx x0 x1 gq q0 q1
              replace HG := hide ((hb.cell (p := ⟨0, 0, none⟩) hz0).trans HG.out)
              replace HB := hide (HB.out.trans (hb.mono HB.out.size))
              replace HX := hide (HX.out.next hb)
              replace HZ := hide (HZ.out.next hb)
              replace HBW := hide (HBW.out.trans (hb.mono HBW.out.size))
              replace SS := hide (SS.out.next hb)
              replace ST := hide (ST.out.next hb)
              replace hz0 := Nat.lt_of_lt_of_le hz0 hb.size
              clear hb
              have hb : Below y36.heap.size y36 (y36.alloc (.cells #[.int .i64 p1, .int .i64 p2] 30)) := (Below.refl _ _).alloc (Nat.le_refl _) _
              have SP := hide (show Blk (y36.alloc (.cells #[.int .i64 p1, .int .i64 p2] 30)) y36.heap.size 30 #[.int .i64 p1, .int .i64 p2] from Blk.made)
              replace HG := hide ((hb.cell (p := ⟨0, 0, none⟩) hz0).trans HG.out)
              replace HB := hide (HB.out.trans (hb.mono HB.out.size))
              replace HX := hide (HX.out.next hb)
              replace HZ := hide (HZ.out.next hb)
              replace HBW := hide (HBW.out.trans (hb.mono HBW.out.size))
              replace SS := hide (SS.out.next hb)
              replace ST := hide (ST.out.next hb)
              replace hz0 := Nat.lt_of_lt_of_le hz0 hb.size
              clear hb
              generalize y36.alloc (.cells #[.int .i64 p1, .int .i64 p2] 30) = y37 at *
              generalize y36.heap.size = ggcp at *
              obtain ⟨gx, x0, x1⟩ := HX.out.cells
              obtain ⟨gq, q0, q1⟩ := HZ.out.cells
              go_upto_region 18 with (go_at_call 21; refine (losts_any (s := (j : Int)) HZ.out.v).mono ?_; rintro e y38 ⟨rfl, hb⟩; rw [C2.out, C3.out])
              clear gx x0 x1 gq q0 q1
              replace HG := hide ((hb.cell (p := ⟨0, 0, none⟩) hz0).trans HG.out)
              replace HB := hide (HB.out.trans (hb.mono HB.out.size))
              replace HX := hide (HX.out.next hb)
              replace HZ := hide (HZ.out.next hb)
              replace HBW := hide (HBW.out.trans (hb.mono HBW.out.size))
              replace SS := hide (SS.out.next hb)
              replace ST := hide (ST.out.next hb)
              replace SP := hide (SP.out.next hb)
              replace hz0 := Nat.lt_of_lt_of_le hz0 hb.size
              clear hb
              have hb : Below y38.heap.size y38 (y38.alloc (.cells #[.int .i64 p1, .int .i64 p2] 30)) := (Below.refl _ _).alloc (Nat.le_refl _) _
              have SR := hide (show Blk (y38.alloc (.cells #[.int .i64 p1, .int .i64 p2] 30)) y38.heap.size 30 #[.int .i64 p1, .int .i64 p2] from Blk.made)
              replace HG := hide ((hb.cell (p := ⟨0, 0, none⟩) hz0).trans HG.out)
              replace HB := hide (HB.out.trans (hb.mono HB.out.size))
              replace HX := hide (HX.out.next hb)
              replace HZ := hide (HZ.out.next hb)
              replace HBW := hide (HBW.out.trans (hb.mono HBW.out.size))
              replace SS := hide (SS.out.next hb)
              replace ST := hide (ST.out.next hb)
              replace SP := hide (SP.out.next hb)
              replace hz0 := Nat.lt_of_lt_of_le hz0 hb.size
              clear hb
              generalize y38.alloc (.cells #[.int .i64 p1, .int .i64 p2] 30) = y39 at *
              generalize y38.heap.size = ggcr at *
              obtain ⟨gx, x0, x1⟩ := HX.out.cells
              obtain ⟨gq, q0, q1⟩ := HZ.out.cells
              have gcs := SS.out.lt
              have cs0 := SS.out.at_ 0
              have cs1 := SS.out.at_ 1
              simp only [List.getElem?_toArray, List.getElem?_cons_zero, List.getElem?_cons_succ] at cs0 cs1
              have gct := ST.out.lt
              have ct0 := ST.out.at_ 0
              have ct1 := ST.out.at_ 1
              simp only [List.getElem?_toArray, List.getElem?_cons_zero, List.getElem?_cons_succ] at ct0 ct1
              have gcp := SP.out.lt
              have cp0 := SP.out.at_ 0
              have cp1 := SP.out.at_ 1
              simp only [List.getElem?_toArray, List.getElem?_cons_zero, List.getElem?_cons_succ] at cp0 cp1
              have gcr := SR.out.lt
              have cr0 := SR.out.at_ 0
              have cr1 := SR.out.at_ 1
              simp only [List.getElem?_toArray, List.getElem?_cons_zero, List.getElem?_cons_succ] at cr0 cr1
              go_wp2_with fail
              go_roundw
              case rel => exact ⟨j + 1, by omega, by go_num, HBW⟩
              case measure => simp [intOf]; omega
            · obtain rfl : j = b.steps.length := by omega
              obtain ⟨hn1, hn2⟩ := HNW.out
              generalize hn3 : enterK z (b.steps.length : Int) = K at *
              have HN1 := hide hn1
              have HN3 := hide hn3
              clear hn1 hn3 HNW HAT
              obtain ⟨gx, x0, x1⟩ := HX.out.cells
              obtain ⟨gq, q0, q1⟩ := HZ.out.cells
              go_upto_region 21 with (go_at_call 19; refine (hands_any (s := (b.steps.length : Int)) HZ.out.v).mono ?_; rintro e y40 ⟨rfl, hb⟩; rw [HN1.out, HN3.out])
              clear gx x0 x1 gq q0 q1
              replace HG := hide ((hb.cell (p := ⟨0, 0, none⟩) hz0).trans HG.out)
              replace HB := hide (HB.out.trans (hb.mono HB.out.size))
              replace HX := hide (HX.out.next hb)
              replace HZ := hide (HZ.out.next hb)
              replace hz0 := Nat.lt_of_lt_of_le hz0 hb.size
              clear hb
              have hb : Below y40.heap.size y40 (y40.alloc (.cells #[.int .i64 0, .int .i64 0] 30)) := (Below.refl _ _).alloc (Nat.le_refl _) _
              have SS := hide (show Blk (y40.alloc (.cells #[.int .i64 0, .int .i64 0] 30)) y40.heap.size 30 #[.int .i64 0, .int .i64 0] from Blk.made)
              replace HG := hide ((hb.cell (p := ⟨0, 0, none⟩) hz0).trans HG.out)
              replace HB := hide (HB.out.trans (hb.mono HB.out.size))
              replace HX := hide (HX.out.next hb)
              replace HZ := hide (HZ.out.next hb)
              replace hz0 := Nat.lt_of_lt_of_le hz0 hb.size
              clear hb
              generalize y40.alloc (.cells #[.int .i64 0, .int .i64 0] 30) = y41 at *
              generalize y40.heap.size = ggcs at *
              generalize hsb : someV b = sb at *
              have HSB := hide hsb
              clear hsb HZ HN1 HN3
              obtain ⟨gx, x0, x1⟩ := HX.out.cells
              have gcs := SS.out.lt
              have cs0 := SS.out.at_ 0
              have cs1 := SS.out.at_ 1
              simp only [List.getElem?_toArray, List.getElem?_cons_zero, List.getElem?_cons_succ] at cs0 cs1
              refine wp_post (fun a W => a.tmps[4]?.getD undef = .bool true ∧ a.defers = [] ∧ Keep (fun _ => False) y41 W) ?reg ?imp
              case reg =>
               refine wp_region_rel3 (dst := fun oi => [128, 129, 130, 131, 132, 133, 134, 135, 136, 137, 138, 139, 140, 4].getD oi 0) (mono := fun oi => decide (oi < 14)) (pre := fun oi => decide (oi < 14)) (R := LKeep (fun _ => False) (fun _ => True))
                (Pv := fun oi v W => match oi with
                 | 0 => v = .agg #[.int .i64 0, .int .i64 0]
                 | 1 => v = .agg #[.int .i64 0, .int .i64 0]
                 | 2 => v = .bool true
                 | 3 => v = .bool true
                 | 4 => v = .int .i64 K
                 | 5 => v = .bool sb
                 | 6 => v = bookVal b a
                 | 7 => v = .bool sb
                 | 8 => v = .bool true
                 | 9 => v = .bool true
                 | 10 => v = .bool true
                 | 11 => v = .bool true
                 | 12 => v = .bool true
                 | 13 => v = .bool true
                 | _ => True) (by kernel_rfl) (by kernel_rfl) (LKeep.refl _ _) (fun _ _ _ h h' => h.trans h') ?hst ?hstep ?hend
               case hst =>
                intro oi v W W' h hk
                match oi, h with
                | 0, h => exact h
                | 1, h => exact h
                | 2, h => exact h
                | 3, h => exact h
                | 4, h => exact h
                | 5, h => exact h
                | 6, h => exact h
                | 7, h => exact h
                | 8, h => exact h
                | 9, h => exact h
                | 10, h => exact h
                | 11, h => exact h
                | 12, h => exact h
                | 13, h => exact h
                | oi + 14, h => exact trivial
               case hstep =>
                intro oi hoi hom listed vs ao W hU hk0 hpv haft Ko hK
                have hkk := (LKeep.drew (fun _ => False) (M := fun _ => True) y41 (fun h => h)).trans hk0
                have hk := hkk.1
                have hkm := hkk.2
                clear hkk
                match oi, hoi, hom with
                | 0, hoi, hom =>
                 have z16 : ao.tmps[16]?.getD undef = .pointer (some ⟨ggcs, 0, none⟩) := hU.same 16 (by decide)
                 have y0 := (hk.cell (b := ggcs) (o := 0) (gcs) (fun h => h)).trans (cs0)
                 have y1 := (hk.cell (b := ggcs) (o := 1) (gcs) (fun h => h)).trans (cs1)
                 refine wpOp_value (v := .agg #[.int .i64 0, .int .i64 0]) (W' := W) rfl rfl ?_ (hK _ _ (LKeep.refl _ _ _) rfl)
                 go_simp
                | 1, hoi, hom =>
                 refine wpOp_enter (f := 40) (args := #[.int .i64 0, .int .i64 0]) (W' := W) rfl rfl ?_ ((span12_any 0 0 W).mono (fun e w'' h => ?_))
                 · go_simp
                 · obtain ⟨he, hbw⟩ := h
                   exact ⟨_, he, hK _ _ (LKeep.below hbw (fun h => h)) rfl⟩
                | 2, hoi, hom =>
                 have l0 := haft _ rfl ⟨0, .data⟩ (by simp) rfl
                 have s0 : ao.tmps[128]?.getD undef = .agg #[.int .i64 0, .int .i64 0] := (hU.slot 0 (by decide) l0).trans (hpv 0 l0)
                 have l1 := haft _ rfl ⟨1, .data⟩ (by simp) rfl
                 have s1 : ao.tmps[129]?.getD undef = .agg #[.int .i64 0, .int .i64 0] := (hU.slot 1 (by decide) l1).trans (hpv 1 l1)
                 refine wpOp_value (v := .bool true) (W' := W) rfl rfl ?_ (hK _ _ (LKeep.refl _ _ _) rfl)
                 go_simp
                 all_goals (first | rfl | (simp; done) | (simp; omega))
                | 3, hoi, hom =>
                 have l2 := haft _ rfl ⟨2, .data⟩ (by simp) rfl
                 have s2 : ao.tmps[130]?.getD undef = .bool true := (hU.slot 2 (by decide) l2).trans (hpv 2 l2)
                 refine wpOp_value (v := .bool true) (W' := W) rfl rfl ?_ (hK _ _ (LKeep.refl _ _ _) rfl)
                 go_simp
                | 4, hoi, hom =>
                 have l3 := haft _ rfl ⟨3, .guard⟩ (by simp) rfl
                 have s3 : ao.tmps[131]?.getD undef = .bool true := (hU.slot 3 (by decide) l3).trans (hpv 3 l3)
                 have z17 : ao.tmps[17]?.getD undef = .int .i64 K := hU.same 17 (by decide)
                 refine wpOp_wanted (v := .int .i64 K) (W' := W) rfl ?_ ?_ (hK _ _ (LKeep.refl _ _ _) rfl)
                 · refine wanted_yes (j := 3) (d := 131) ?_ ?_ s3 <;> rfl
                 go_simp
                | 5, hoi, hom =>
                 have l3 := haft _ rfl ⟨3, .guard⟩ (by simp) rfl
                 have s3 : ao.tmps[131]?.getD undef = .bool true := (hU.slot 3 (by decide) l3).trans (hpv 3 l3)
                 have l4 := haft _ rfl ⟨4, .data⟩ (by simp) rfl
                 have s4 : ao.tmps[132]?.getD undef = .int .i64 K := (hU.slot 4 (by decide) l4).trans (hpv 4 l4)
                 refine wpOp_wanted (v := .bool sb) (W' := W) rfl ?_ ?_ (hK _ _ (LKeep.refl _ _ _) rfl)
                 · refine wanted_yes (j := 3) (d := 131) ?_ ?_ s3 <;> rfl
                 go_simp
                 all_goals (first | exact hn2 | (simp [hn2]; done) | (rw [hn2]))
                | 6, hoi, hom =>
                 have l3 := haft _ rfl ⟨3, .guard⟩ (by simp) rfl
                 have s3 : ao.tmps[131]?.getD undef = .bool true := (hU.slot 3 (by decide) l3).trans (hpv 3 l3)
                 have z2 : ao.tmps[2]?.getD undef = .pointer (some ⟨w.heap.size, 0, none⟩) := hU.same 2 (by decide)
                 have y0 := (hk.cell (b := w.heap.size) (o := 0) (gx) (fun h => h)).trans (x0)
                 have y1 := (hk.cell (b := w.heap.size) (o := 1) (gx) (fun h => h)).trans (x1)
                 refine wpOp_wanted (v := bookVal b a) (W' := W) rfl ?_ ?_ (hK _ _ (LKeep.refl _ _ _) rfl)
                 · refine wanted_yes (j := 3) (d := 131) ?_ ?_ s3 <;> rfl
                 go_simp
                | 7, hoi, hom =>
                 have l3 := haft _ rfl ⟨3, .guard⟩ (by simp) rfl
                 have s3 : ao.tmps[131]?.getD undef = .bool true := (hU.slot 3 (by decide) l3).trans (hpv 3 l3)
                 have l6 := haft _ rfl ⟨6, .data⟩ (by simp) rfl
                 have s6 : ao.tmps[134]?.getD undef = bookVal b a := (hU.slot 6 (by decide) l6).trans (hpv 6 l6)
                 have hc := some12L_any (HX.out.v.next (hk.below (B := y41.heap.size) (fun k h => h.elim) (Nat.le_refl _)))
                 rw [HSB.out] at hc
                 refine wpOp_enterW (f := 47) (args := #[bookVal b a]) (W' := W) rfl ?_ ?_ ((hc).mono (fun e w'' h => ?_))
                 · refine wanted_yes (j := 3) (d := 131) ?_ ?_ s3 <;> rfl
                 · go_simp
                 · obtain ⟨he, hbw⟩ := h
                   exact ⟨_, he, hK _ _ (LKeep.below hbw (fun h => h)) rfl⟩
                | 8, hoi, hom =>
                 have l3 := haft _ rfl ⟨3, .guard⟩ (by simp) rfl
                 have s3 : ao.tmps[131]?.getD undef = .bool true := (hU.slot 3 (by decide) l3).trans (hpv 3 l3)
                 have l5 := haft _ rfl ⟨5, .data⟩ (by simp) rfl
                 have s5 : ao.tmps[133]?.getD undef = .bool sb := (hU.slot 5 (by decide) l5).trans (hpv 5 l5)
                 have l7 := haft _ rfl ⟨7, .data⟩ (by simp) rfl
                 have s7 : ao.tmps[135]?.getD undef = .bool sb := (hU.slot 7 (by decide) l7).trans (hpv 7 l7)
                 refine wpOp_wanted (v := .bool true) (W' := W) rfl ?_ ?_ (hK _ _ (LKeep.refl _ _ _) rfl)
                 · refine wanted_yes (j := 3) (d := 131) ?_ ?_ s3 <;> rfl
                 go_simp
                 all_goals (first | rfl | (simp; done) | (simp; omega))
                | 9, hoi, hom =>
                 have l3 := haft _ rfl ⟨3, .data⟩ (by simp) rfl
                 have s3 : ao.tmps[131]?.getD undef = .bool true := (hU.slot 3 (by decide) l3).trans (hpv 3 l3)
                 have l8 := haft _ rfl ⟨8, .data⟩ (by simp) rfl
                 have s8 : ao.tmps[136]?.getD undef = .bool true := (hU.slot 8 (by decide) l8).trans (hpv 8 l8)
                 refine wpOp_value (v := .bool true) (W' := W) rfl rfl ?_ (hK _ _ (LKeep.refl _ _ _) rfl)
                 go_simp
                | 10, hoi, hom =>
                 have l9 := haft _ rfl ⟨9, .data⟩ (by simp) rfl
                 have s9 : ao.tmps[137]?.getD undef = .bool true := (hU.slot 9 (by decide) l9).trans (hpv 9 l9)
                 refine wpOp_value (v := .bool true) (W' := W) rfl rfl ?_ (hK _ _ (LKeep.refl _ _ _) rfl)
                 go_simp
                | 11, hoi, hom =>
                 have l10 := haft _ rfl ⟨10, .guard⟩ (by simp) rfl
                 have s10 : ao.tmps[138]?.getD undef = .bool true := (hU.slot 10 (by decide) l10).trans (hpv 10 l10)
                 have hc : Calls Tryz.prog 23 #[] W fun e w => e = .returned (.bool true) ∧ Below W.heap.size W w := awake12_any ((hk.cell (b := 0) (o := 0) hz0 (fun h => h)).trans HG.out) (Nat.lt_of_lt_of_le hz0 hk.size)
                 refine wpOp_enterW (f := 23) (args := #[]) (W' := W) rfl ?_ ?_ ((hc).mono (fun e w'' h => ?_))
                 · refine wanted_yes (j := 10) (d := 138) ?_ ?_ s10 <;> rfl
                 · go_simp
                 · obtain ⟨he, hbw⟩ := h
                   exact ⟨_, he, hK _ _ (LKeep.below hbw (fun h => h)) rfl⟩
                | 12, hoi, hom =>
                 have l10 := haft _ rfl ⟨10, .data⟩ (by simp) rfl
                 have s10 : ao.tmps[138]?.getD undef = .bool true := (hU.slot 10 (by decide) l10).trans (hpv 10 l10)
                 have l11 := haft _ rfl ⟨11, .data⟩ (by simp) rfl
                 have s11 : ao.tmps[139]?.getD undef = .bool true := (hU.slot 11 (by decide) l11).trans (hpv 11 l11)
                 refine wpOp_value (v := .bool true) (W' := W) rfl rfl ?_ (hK _ _ (LKeep.refl _ _ _) rfl)
                 go_simp
                | 13, hoi, hom =>
                 have l12 := haft _ rfl ⟨12, .data⟩ (by simp) rfl
                 have s12 : ao.tmps[140]?.getD undef = .bool true := (hU.slot 12 (by decide) l12).trans (hpv 12 l12)
                 refine wpOp_value (v := .bool true) (W' := W) rfl rfl ?_ (hK _ _ (LKeep.refl _ _ _) rfl)
                 go_simp
                | oi + 14, hoi, hom => exact absurd (of_decide_eq_true hom) (by omega)
               case hend =>
                intro listed vs ao W hG hGU hk0 hpv hpre
                have hkk := (LKeep.drew (fun _ => False) (M := fun _ => True) y41 (fun h => h)).trans hk0
                have hk := hkk.1
                have hkm := hkk.2
                clear hkk
                have hT := hG.lst hpre 0 #[true, true, true, true, true, true, true, true, true, true, true, true, true, true] rfl (by kernel_rfl) (hpre 0 (by decide) (by decide))
                have h0 : ao.tmps[4]?.getD undef = vs 13 := hGU.slot 13 (by decide) (hpre 13 (by decide) (by decide))
                have hv : vs 13 = .bool true := hpv 13 (hpre 13 (by decide) (by decide))
                have hdf := hG.defers
                rw [hG.lo hT (k := 0) (by kernel_rfl)]
                subst hT
                refine wpAny_done (by kernel_rfl) ?_ _
                exact ⟨rfl, h0.trans hv, hdf, hk⟩
              case imp =>
               rintro ⟨tm, df⟩ W ⟨h0, hd, hk⟩
               simp only at h0 hd
               subst hd
               have HBZ := hide (HB.out.trans ((hk.below (B := y41.heap.size) (fun k h => h.elim) (Nat.le_refl _)).mono HB.out.size))
               clear hk
               go_wp2_with fail
               exact bodyPost_ret (v := .bool true) (by simp [results, Tryz.results16, go_sem, h0]) rfl ⟨rfl, HBZ.out⟩
         · have HDZ := hide (show decide ((checkM z).2.2 = 0) = false from decide_eq_false hcz)
           clear hcz HSW
           obtain ⟨gx, x0, x1⟩ := HX.out.cells
           obtain ⟨gq, q0, q1⟩ := HZ.out.cells
           go_upto_region 10 with (go_at_call 41; refine (valid12_any HZ.out.v).mono ?_; rintro e y31 ⟨rfl, hb⟩; rw [HDZ.out])
           clear gx x0 x1 gq q0 q1
           replace HG := hide ((hb.cell (p := ⟨0, 0, none⟩) hz0).trans HG.out)
           replace HB := hide (HB.out.trans (hb.mono HB.out.size))
           replace HX := hide (HX.out.next hb)
           replace HZ := hide (HZ.out.next hb)
           replace hz0 := Nat.lt_of_lt_of_le hz0 hb.size
           clear hb
           obtain ⟨gx, x0, x1⟩ := HX.out.cells
           obtain ⟨gq, q0, q1⟩ := HZ.out.cells
           go_wp2_with (first | (go_at_call 23; refine (awake12_any HG.out hz0).mono ?_; rintro e y32 ⟨rfl, hb⟩))
           go_ret
           exact ⟨rfl, HB.out.trans (hb.mono HB.out.size)⟩
 · have HD := hide (show decide ((checkM b).2.2 = 0) = false from decide_eq_false hc)
   clear hc hI3 hy30 hy31 hy32 hI4 hz40 hz41 hz42
   obtain ⟨gx, x0, x1⟩ := HX.out.cells
   go_upto_region 2 with (go_at_call 41; refine (valid12_any HX.out.v).mono ?_; rintro e y1 ⟨rfl, hb⟩; rw [HD.out])
   clear gx x0 x1
   replace HG := hide ((hb.cell (p := ⟨0, 0, none⟩) hz0).trans HG.out)
   replace HB := hide (HB.out.trans (hb.mono HB.out.size))
   replace HX := hide (HX.out.next hb)
   replace hz0 := Nat.lt_of_lt_of_le hz0 hb.size
   clear hb
   obtain ⟨gx, x0, x1⟩ := HX.out.cells
   go_wp2_with (first | (go_at_call 23; refine (awake12_any HG.out hz0).mono ?_; rintro e y2 ⟨rfl, hb⟩))
   go_ret
   exact ⟨rfl, HB.out.trans (hb.mono HB.out.size)⟩
end Go.Proofs.YtocdmkilnbpkdaaGreatDoor
