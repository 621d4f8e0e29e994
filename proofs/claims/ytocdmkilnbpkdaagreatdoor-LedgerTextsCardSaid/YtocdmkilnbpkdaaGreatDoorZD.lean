/- Contracts of Check of package ledger, and of what it calls. -/
import Derived.Test.YtocdmkilnbpkdaaGreatDoorZC
import Derived.Deep.DeepCutAuto
import Derived.Deep.RegionHeld3
import Derived.OwnWalkIn
import Derived.TacticsInMore
set_option linter.unusedVariables false
set_option linter.unusedSimpArgs false
namespace Go.Proofs.YtocdmkilnbpkdaaGreatDoor
open Go.RowKit

theorem ret_t2 {a b c d : Int} (h : a = c) (h' : b = d) : Ending.returned (.tuple #[.int .i64 a, .int .i64 b]) = Ending.returned (.tuple #[.int .i64 c, .int .i64 d]) := by rw [h, h']
theorem ret_t3 {a b c d e f : Int} (h : a = d) (h' : b = e) (h'' : c = f) : Ending.returned (.tuple #[.int .i64 a, .int .i64 b, .int .i64 c]) = Ending.returned (.tuple #[.int .i64 d, .int .i64 e, .int .i64 f]) := by rw [h, h', h'']
theorem drop_nth' {α : Type} [Inhabited α] {l : List α} {i : Nat} (h : i < l.length) : l.drop i = nth l i :: l.drop (i + 1) := by rw [List.drop_eq_getElem_cons h, nth_eq h]
/-- A function value that says the error of each thing of a list, in every world that has grown out of w. -/
def ErrOn {α : Type} (g : FuncId) (lb : Array Value) (n : Nat) (ev : Nat → Value) (xs : Nat → α) (f : Nat → α → Int) (w : World) : Prop :=
 ∀ (j : Nat) (W : World), j < n → Below w.heap.size w W → Calls Tryz.prog g (#[.int .i64 (j : Int), ev j] ++ lb) W fun e w' => e = .returned (.int .i64 (f j (xs j))) ∧ Below W.heap.size W w'
set_option maxHeartbeats 800000 in
set_option maxRecDepth 100000 in
theorem failingS_any {A : Option Addr} {c : Nat} {xs : List Step} {w : World} (h : Row w w.heap.size A (xs.length * 3) (stepsF xs)) (hm : xs.length ≤ c ∧ c ≤ maxLen) (least most : Int) (g : FuncId) (lb : Array Value) (f : Nat → Step → Int)
 (hf : ErrOn g lb xs.length (fun j => .agg #[.string (nth xs j).name, .int .i64 (nth xs j).from_, .int .i64 (nth xs j).loss]) (nth xs) f w) (eg : Enters Tryz.prog g) :
 Calls Tryz.prog 57 #[.slice A xs.length c, .int .i64 least, .int .i64 most, .func (.func g) #[] lb] w fun e w' =>
  e = .returned (.tuple #[.int .i64 (failM f xs least most).1, .int .i64 (failM f xs least most).2]) ∧ Below w.heap.size w w' := by
 have eg' : ∀ (args : Array Value) (w : World), (callFunc g args).run Tryz.prog w = .ok (.enter g args) w := eg
 clear eg
 unfold maxLen at hm
 have hl0 : (0 : Int) ≤ (xs.length : Int) := Int.natCast_nonneg _
 have HOP := hide (show offP least most (xs.length : Int) = (decide ((xs.length : Int) < least) || decide (most < (xs.length : Int))) from rfl)
 by_cases h1 : (xs.length : Int) < least ∨ most < (xs.length : Int)
 · have H := hide h1
   have HQ := hide (show offP least most (xs.length : Int) = true by rw [HOP.out]; rcases h1 with h | h <;> simp [h])
   clear h1
   go_enter Tryz.func57, Tryz.ntmps57
   go_wp2_with (go_at_call 62; refine (beyond_1 (by simp) _ _ _).mono ?_; rintro e w1 ⟨rfl, hb⟩; rw [HQ.out])
   go_ret2
   exact ⟨ret_t2 (by rw [failM, if_pos H.out]) (by rw [failM, if_pos H.out]), hb⟩
 · have H := hide (show failM f xs least most = firstE f xs 0 from if_neg h1)
   have HQ := hide (show offP least most (xs.length : Int) = false from offP_false.2 (by omega))
   clear h1
   go_enter Tryz.func57, Tryz.ntmps57
   go_upto_region 3 with (go_at_call 62; refine (beyond_1 (by simp) _ _ _).mono ?_; rintro e w1 ⟨rfl, hb⟩; rw [HQ.out])
   have HB0 := hide hb
   have hr := (h.below hb).more hb.size
   have hf : ErrOn g lb xs.length (fun j => .agg #[.string (nth xs j).name, .int .i64 (nth xs j).from_, .int .i64 (nth xs j).loss]) (nth xs) f w1 := fun j W hj hW => hf j W hj (hb.trans (hW.mono hb.size))
   clear h hb
   go_wp2_with fail
   go_loopw [10, 11, 12, 21] (fun _ _ _ i wr => ∃ j : Nat, j ≤ xs.length ∧ i = .int .i64 j ∧ Below w1.heap.size w1 wr ∧ Hid (firstE f xs 0 = firstE f (xs.drop j) j)) (fun _ _ _ i _ => xs.length - (intOf i).toNat)
   case atStart => exact ⟨0, Nat.zero_le _, rfl, Below.refl _ _, rfl⟩
   case round =>
    obtain ⟨j, hj, rfl, hB, HF⟩ := hrel
    by_cases hlt : j < xs.length
    · obtain ⟨b, off, rfl, hbb, h0, h1, h2⟩ := (hr.below hB).steps hlt
      have HD := hide (drop_nth' (l := xs) hlt)
      have hsz := hB.size
      have HC := hide (fun W (hW : Below w1.heap.size w1 W) => hf j W hlt hW)
      have HX := hide (HB0.out.trans ((hB.alloc hsz (.cells #[.string (nth xs j).name, .int .i64 (nth xs j).from_, .int .i64 (nth xs j).loss] 68)).mono HB0.out.size))
      clear hf
      cases hq : (f j (nth xs j) != 0) with
      | true =>
       have hq' : ¬ f j (nth xs j) = 0 := by simpa using hq
       have HQ := hide hq'
       clear hq'
       go_wp2_with (go_at_fn g; refine (HC.out _ (hB.alloc hsz _)).mono ?_; rintro e w2 ⟨rfl, hb2⟩)
       go_ret2
       refine ⟨ret_t2 ?_ ?_, HX.out.trans (hb2.mono (by have := HB0.out.size; simp; omega))⟩
       all_goals rw [H.out, HF.out, HD.out, firstE, if_neg HQ.out]
      | false =>
       have hq' : f j (nth xs j) = 0 := by simpa using hq
       have HQ := hide hq'
       clear hq'
       go_wp2_with (go_at_fn g; refine (HC.out _ (hB.alloc hsz _)).mono ?_; rintro e w2 ⟨rfl, hb2⟩)
       go_roundw
       case rel => exact ⟨j + 1, by omega, by go_num, (hB.alloc hsz _).trans (hb2.mono (by simp; omega)), by show _ = _; rw [HF.out, HD.out, firstE, if_pos HQ.out]⟩
       case measure => simp [intOf]; omega
    · go_wp2
      go_ret2
      refine ⟨ret_t2 ?_ ?_, HB0.out.trans (hB.mono HB0.out.size)⟩
      all_goals rw [H.out, HF.out, List.drop_of_length_le (by omega), firstE]
set_option maxHeartbeats 800000 in
set_option maxRecDepth 100000 in
theorem failingT_any {A : Option Addr} {c : Nat} {xs : List Tally} {w : World} (h : Row w w.heap.size A (xs.length * 3) (talliesF xs)) (hm : xs.length ≤ c ∧ c ≤ maxLen) (least most : Int) (g : FuncId) (lb : Array Value) (f : Nat → Tally → Int)
 (hf : ErrOn g lb xs.length (fun j => .agg #[.int .i64 (nth xs j).step, .int .i64 (nth xs j).hands, .int .i64 (nth xs j).off]) (nth xs) f w) (eg : Enters Tryz.prog g) :
 Calls Tryz.prog 63 #[.slice A xs.length c, .int .i64 least, .int .i64 most, .func (.func g) #[] lb] w fun e w' =>
  e = .returned (.tuple #[.int .i64 (failM f xs least most).1, .int .i64 (failM f xs least most).2]) ∧ Below w.heap.size w w' := by
 have eg' : ∀ (args : Array Value) (w : World), (callFunc g args).run Tryz.prog w = .ok (.enter g args) w := eg
 clear eg
 unfold maxLen at hm
 have hl0 : (0 : Int) ≤ (xs.length : Int) := Int.natCast_nonneg _
 have HOP := hide (show offP least most (xs.length : Int) = (decide ((xs.length : Int) < least) || decide (most < (xs.length : Int))) from rfl)
 by_cases h1 : (xs.length : Int) < least ∨ most < (xs.length : Int)
 · have H := hide h1
   have HQ := hide (show offP least most (xs.length : Int) = true by rw [HOP.out]; rcases h1 with h | h <;> simp [h])
   clear h1
   go_enter Tryz.func63, Tryz.ntmps63
   go_wp2_with (go_at_call 62; refine (beyond_1 (by simp) _ _ _).mono ?_; rintro e w1 ⟨rfl, hb⟩; rw [HQ.out])
   go_ret2
   exact ⟨ret_t2 (by rw [failM, if_pos H.out]) (by rw [failM, if_pos H.out]), hb⟩
 · have H := hide (show failM f xs least most = firstE f xs 0 from if_neg h1)
   have HQ := hide (show offP least most (xs.length : Int) = false from offP_false.2 (by omega))
   clear h1
   go_enter Tryz.func63, Tryz.ntmps63
   go_upto_region 3 with (go_at_call 62; refine (beyond_1 (by simp) _ _ _).mono ?_; rintro e w1 ⟨rfl, hb⟩; rw [HQ.out])
   have HB0 := hide hb
   have hr := (h.below hb).more hb.size
   have hf : ErrOn g lb xs.length (fun j => .agg #[.int .i64 (nth xs j).step, .int .i64 (nth xs j).hands, .int .i64 (nth xs j).off]) (nth xs) f w1 := fun j W hj hW => hf j W hj (hb.trans (hW.mono hb.size))
   clear h hb
   go_wp2_with fail
   go_loopw [10, 11, 12, 21] (fun _ _ _ i wr => ∃ j : Nat, j ≤ xs.length ∧ i = .int .i64 j ∧ Below w1.heap.size w1 wr ∧ Hid (firstE f xs 0 = firstE f (xs.drop j) j)) (fun _ _ _ i _ => xs.length - (intOf i).toNat)
   case atStart => exact ⟨0, Nat.zero_le _, rfl, Below.refl _ _, rfl⟩
   case round =>
    obtain ⟨j, hj, rfl, hB, HF⟩ := hrel
    by_cases hlt : j < xs.length
    · obtain ⟨b, off, rfl, hbb, h0, h1, h2⟩ := (hr.below hB).tallies hlt
      have HD := hide (drop_nth' (l := xs) hlt)
      have hsz := hB.size
      have HC := hide (fun W (hW : Below w1.heap.size w1 W) => hf j W hlt hW)
      have HX := hide (HB0.out.trans ((hB.alloc hsz (.cells #[.int .i64 (nth xs j).step, .int .i64 (nth xs j).hands, .int .i64 (nth xs j).off] 50)).mono HB0.out.size))
      clear hf
      cases hq : (f j (nth xs j) != 0) with
      | true =>
       have hq' : ¬ f j (nth xs j) = 0 := by simpa using hq
       have HQ := hide hq'
       clear hq'
       go_wp2_with (go_at_fn g; refine (HC.out _ (hB.alloc hsz _)).mono ?_; rintro e w2 ⟨rfl, hb2⟩)
       go_ret2
       refine ⟨ret_t2 ?_ ?_, HX.out.trans (hb2.mono (by have := HB0.out.size; simp; omega))⟩
       all_goals rw [H.out, HF.out, HD.out, firstE, if_neg HQ.out]
      | false =>
       have hq' : f j (nth xs j) = 0 := by simpa using hq
       have HQ := hide hq'
       clear hq'
       go_wp2_with (go_at_fn g; refine (HC.out _ (hB.alloc hsz _)).mono ?_; rintro e w2 ⟨rfl, hb2⟩)
       go_roundw
       case rel => exact ⟨j + 1, by omega, by go_num, (hB.alloc hsz _).trans (hb2.mono (by simp; omega)), by show _ = _; rw [HF.out, HD.out, firstE, if_pos HQ.out]⟩
       case measure => simp [intOf]; omega
    · go_wp2
      go_ret2
      refine ⟨ret_t2 ?_ ?_, HB0.out.trans (hB.mono HB0.out.size)⟩
      all_goals rw [H.out, HF.out, List.drop_of_length_le (by omega), firstE]
/-- A function value that answers, for each step, in every world that has grown out of w. -/
def PredSt (g : FuncId) (lb : Array Value) (p : Step → Bool) (w : World) : Prop :=
 ∀ (s : Step) (W : World), Below w.heap.size w W → Calls Tryz.prog g (#[.agg #[.string s.name, .int .i64 s.from_, .int .i64 s.loss]] ++ lb) W fun e w' => e = .returned (.bool (p s)) ∧ Below W.heap.size W w'
theorem row_pre {w : World} {B n k : Nat} {A : Option Addr} {f : Nat → Value} (h : Row w B A n f) (hk : k ≤ n) : Row w B A k f := fun h0 => by
 obtain ⟨b, o, e, hb, hc⟩ := h (by omega)
 exact ⟨b, o, e, hb, fun j hj => hc j (by omega)⟩
theorem any_hit {α : Type} [Inhabited α] {p : α → Bool} {xs : List α} {j : Nat} (hj : j < xs.length) (h : p (nth xs j) = true) : xs.any p = true := List.any_eq_true.2 ⟨_, by rw [nth_eq hj]; exact List.getElem_mem hj, h⟩
theorem any_miss {α : Type} [Inhabited α] {p : α → Bool} {xs : List α} (h : ∀ k, k < xs.length → p (nth xs k) = false) : xs.any p = false := by
 rw [List.any_eq_false]
 intro x hx
 obtain ⟨k, hk, rfl⟩ := List.getElem_of_mem hx
 rw [← nth_eq hk, h k hk]; simp
/-- An index that says whether there is one. -/
def IdxOk (b : Bool) (n : Int) : Prop := decide (0 ≤ n) = b
set_option maxHeartbeats 800000 in
set_option maxRecDepth 100000 in
theorem indexSt_any {A : Option Addr} {n c : Nat} {xs : List Step} {w : World} (h : Row w w.heap.size A (n * 3) (stepsF xs)) (hl : n ≤ xs.length) (hm : n ≤ 9223372036854775807) (g : FuncId) (lb : Array Value) (p : Step → Bool) (hp : PredSt g lb p w) (eg : Enters Tryz.prog g) :
 Calls Tryz.prog 93 #[.slice A n c, .func (.func g) #[] lb] w fun e w' => ∃ i : Int, e = .returned (.int .i64 i) ∧ IdxOk ((xs.take n).any p) i ∧ Below w.heap.size w w' := by
 have hnt : ∀ k, k < n → nth (xs.take n) k = nth xs k := fun k hk => by simp [nth, hk]
 have HNT := hide hnt
 have HTL := hide (show (xs.take n).length = n by simp; omega)
 clear hnt
 have eg' : ∀ (args : Array Value) (w : World), (callFunc g args).run Tryz.prog w = .ok (.enter g args) w := eg
 clear eg
 go_enter Tryz.func93, Tryz.ntmps93
 go_wp2_with fail
 go_loopw [5, 8] (fun _ i wr => ∃ j : Nat, j ≤ n ∧ i = .int .i64 j ∧ Below w.heap.size w wr ∧ Hid (∀ k, k < j → p (nth xs k) = false)) (fun _ i _ => n - (intOf i).toNat)
 case atStart => exact ⟨0, Nat.zero_le _, rfl, Below.refl _ _, fun k hk => by omega⟩
 case round =>
  obtain ⟨j, hj, rfl, hB, H⟩ := hrel
  by_cases hlt : j < n
  · obtain ⟨b, off, rfl, hb, h0, h1, h2⟩ := (h.below hB).steps hlt
    have hcall := hp (nth xs j) wr hB
    clear hp
    cases hq : p (nth xs j) with
    | true =>
     rw [hq] at hcall
     have HQ := hide hq
     clear hq
     go_wp2_with (go_at_fn g; refine hcall.mono ?_; rintro e w2 ⟨rfl, hb2⟩)
     go_ret
     exact ⟨_, rfl, by rw [IdxOk, any_hit (j := j) (by rw [HTL.out]; exact hlt) (by rw [HNT.out j hlt]; exact HQ.out)]; simp, hB.trans (hb2.mono hB.size)⟩
    | false =>
     rw [hq] at hcall
     have HQ := hide hq
     clear hq
     go_wp2_with (go_at_fn g; refine hcall.mono ?_; rintro e w2 ⟨rfl, hb2⟩)
     go_roundw
     case rel => exact ⟨j + 1, by omega, by go_num, hB.trans (hb2.mono hB.size), fun k hk => by
      rcases Nat.lt_or_ge k j with h1 | h1
      · exact H.out k h1
      · rw [show k = j by omega]; exact HQ.out⟩
     case measure => simp [intOf]; omega
  · go_wp2
    go_ret
    exact ⟨_, rfl, by rw [IdxOk, any_miss fun k hk => by rw [HTL.out] at hk; rw [HNT.out k hk]; exact H.out k (by omega)]; rfl, hB⟩
set_option maxHeartbeats 400000 in
theorem containsSt_any {A : Option Addr} {n c : Nat} {xs : List Step} {w : World} (h : Row w w.heap.size A (n * 3) (stepsF xs)) (hl : n ≤ xs.length) (hm : n ≤ 9223372036854775807) (g : FuncId) (lb : Array Value) (p : Step → Bool) (hp : PredSt g lb p w) (eg : Enters Tryz.prog g) :
 Calls Tryz.prog 60 #[.slice A n c, .func (.func g) #[] lb] w fun e w' => e = .returned (.bool ((xs.take n).any p)) ∧ Below w.heap.size w w' := by
 have H := hide (indexSt_any (c := c) h hl hm g lb p hp eg)
 clear hp eg
 go_enter Tryz.func60, Tryz.ntmps60
 go_wp2_with (go_at_call 93; refine H.out.mono ?_; rintro e w' ⟨i, rfl, hi, hb⟩; have HI := hide hi; clear hi)
 go_ret
 exact ⟨ret_b HI.out, hb⟩
set_option maxHeartbeats 400000 in
theorem same_any {g : Nat} {v : ByteArray} {w : World} (hz : g < w.heap.size) (hg : w.cell? ⟨g, 0, none⟩ = some (.string v)) (s : Step) :
 Calls Tryz.prog 61 #[.agg #[.string s.name, .int .i64 s.from_, .int .i64 s.loss], .pointer (some ⟨g, 0, none⟩)] w fun e w' => e = .returned (.bool (eqS s.name v)) ∧ Below w.heap.size w w' := by
 go_enter Tryz.func61, Tryz.ntmps61
 go_wp2_with fail
 go_ret
 exact ⟨rfl, (Below.refl _ _).alloc (Nat.le_refl _) _⟩
set_option maxHeartbeats 4000000 in
set_option maxRecDepth 100000 in
theorem step_any {g i : Nat} {b : Book} {a : BA} {w : World} (h : BoxB w g b a) (s : Step) (hi : i < b.steps.length) :
 Calls Tryz.prog 58 #[.int .i64 (i : Int), .agg #[.string s.name, .int .i64 s.from_, .int .i64 s.loss], .pointer (some ⟨g, 0, none⟩)] w fun e w' => e = .returned (.int .i64 (stepE b i s)) ∧ Below w.heap.size w w' := by
 obtain ⟨z, x0, _⟩ := h.cells
 have hm1 := h.v.m1
 unfold maxLen at hm1
 have HPE := hide (show stepE b i s = if nameB s.name = false then 6 else if (b.steps.take i).any (fun x => eqS x.name s.name) then 5 else if (if i = 0 then decide (s.from_ ≠ -1) else offP 0 ((i : Int) - 1) s.from_) then 4 else if offP 0 20 s.loss then 7 else 0 from rfl)
 have HN := hide (name_any s.name)
 have hA : Below w.heap.size w (w.alloc (.cells #[.string s.name, .int .i64 s.from_, .int .i64 s.loss] 68)) := (Below.refl _ _).alloc (Nat.le_refl _) _
 have HX := hide (h.next hA)
 have HB := hide hA
 have HK : Hid (Blk (w.alloc (.cells #[.string s.name, .int .i64 s.from_, .int .i64 s.loss] 68)) w.heap.size 68 #[.string s.name, .int .i64 s.from_, .int .i64 s.loss]) := hide Blk.made
 have hi0 : (0 : Int) ≤ (i : Int) := Int.natCast_nonneg _
 have hi1 : (i : Int) ≤ (b.steps.length : Int) := by omega
 have hi2 : (i : Int) ≤ (a.c1 : Int) := by omega
 have hi3 : i ≤ a.c1 := by omega
 have hiw : IntKind.i64.wrap ((i : Int) - 1) = (i : Int) - 1 := IntWalk.i64_in _ (by omega)
 have hie : i = 0 ∨ 0 < i := by omega
 clear h hA z x0
 generalize hq2 : (b.steps.take i).any (fun x => eqS x.name s.name) = q2 at *
 generalize hq4 : offP 0 20 s.loss = q4 at *
 generalize hq5 : offP 0 ((i : Int) - 1) s.from_ = q5 at *
 have Q2 := hide hq2
 have Q4 := hide hq4
 have Q5 := hide hq5
 clear hq2 hq4 hq5
 go_enter Tryz.func58, Tryz.ntmps58
 go_upto_region 1 with (fail)
 generalize (w.alloc (.cells #[.string s.name, .int .i64 s.from_, .int .i64 s.loss] 68)) = v0 at *
 have k0 : v0.cell? ⟨w.heap.size, 0, none⟩ = some (.string s.name) := HK.out.at_ 0
 have zk := HK.out.lt
 cases hb : nameB s.name with
 | false =>
  have HBN := hide hb
  rw [hb] at HPE
  clear hb
  go_wp2_with (go_at_call 59; refine (HN.out _).mono ?_; rintro e v1 ⟨rfl, hb⟩; rw [HBN.out])
  go_ret
  exact ⟨ret_i (by rw [HPE.out]; rfl), HB.out.trans (hb.mono HB.out.size)⟩
 | true =>
  have HBN := hide hb
  rw [hb, if_neg (by simp)] at HPE
  clear hb
  go_upto_region 3 with (go_at_call 59; refine (HN.out _).mono ?_; rintro e v1 ⟨rfl, hb⟩; rw [HBN.out])
  have HB := hide (HB.out.trans (hb.mono HB.out.size))
  have HX := hide (HX.out.next hb)
  have HK := hide (HK.out.next hb)
  clear hb k0 zk
  obtain ⟨z, x0, _⟩ := HX.out.cells
  obtain ⟨bs, os, hA1, hbs, _⟩ := HX.out.v.steps.steps hi
  have HR := hide HX.out.v.steps
  have k0 : v1.cell? ⟨w.heap.size, 0, none⟩ = some (.string s.name) := HK.out.at_ 0
  have zk := HK.out.lt
  have HPS := hide (fun (W : World) (hW : Below v1.heap.size v1 W) (s' : Step) => same_any (g := w.heap.size) (v := s.name) (w := W) (by have := hW.size; omega) ((hW.cell (p := ⟨w.heap.size, 0, none⟩) zk).trans k0) s')
  have HQQ := hide (fun A' (hr : Row v1 v1.heap.size A' (b.steps.length * 3) (stepsF b.steps)) => containsSt_any (c := a.c1) (row_pre hr (Nat.mul_le_mul_right 3 (Nat.le_of_lt hi))) (Nat.le_of_lt hi) (by omega) 61 #[.pointer (some ⟨w.heap.size, 0, none⟩)] (fun x => eqS x.name s.name) (fun s' W hW => HPS.out W hW s') (enters_of Tryz.func61 (by kernel_rfl) rfl))
  rw [hA1] at x0 HR
  clear hA1
  have hc := HQQ.out _ HR.out
  rw [Q2.out] at hc
  clear HPS HQQ k0
  cases q2 with
  | true =>
   go_wp2_with (go_at_call 60; refine hc.mono ?_; rintro e v2 ⟨rfl, hb⟩)
   go_ret
   exact ⟨ret_i (by rw [HPE.out]; rfl), HB.out.trans (hb.mono HB.out.size)⟩
  | false =>
   rw [if_neg (by simp)] at HPE
   go_upto_region 5 with (go_at_call 60; refine hc.mono ?_; rintro e v2 ⟨rfl, hb⟩)
   have HB := hide (HB.out.trans (hb.mono HB.out.size))
   have HK := hide (HK.out.next hb)
   clear hb hc z x0 zk HX HR hbs
   have k1 : v2.cell? ⟨w.heap.size, 1, none⟩ = some (.int .i64 s.from_) := HK.out.at_ 1
   have zk := HK.out.lt
   rcases hie with rfl | hip
   · rw [if_pos rfl] at HPE
     by_cases hf : s.from_ = -1
     · have hf2 : (s.from_ != -1) = false := by simp [hf]
       rw [show decide (s.from_ ≠ -1) = false by simp [hf], if_neg (by simp)] at HPE
       clear hf
       go_upto_region 8 with (fail)
       have k2 : v2.cell? ⟨w.heap.size, 2, none⟩ = some (.int .i64 s.loss) := HK.out.at_ 2
       cases q4 with
       | true =>
        go_wp2_with (go_at_call 62; refine (beyond_1 (by simp) _ _ _).mono ?_; rintro e v3 ⟨rfl, hb⟩; rw [Q4.out])
        go_ret
        exact ⟨ret_i (by rw [HPE.out]; rfl), HB.out.trans (hb.mono HB.out.size)⟩
       | false =>
        go_wp2_with (go_at_call 62; refine (beyond_1 (by simp) _ _ _).mono ?_; rintro e v3 ⟨rfl, hb⟩; rw [Q4.out])
        go_ret
        exact ⟨ret_i (by rw [HPE.out]; rfl), HB.out.trans (hb.mono HB.out.size)⟩
     · have hf2 : (s.from_ != -1) = true := by simp [hf]
       rw [show decide (s.from_ ≠ -1) = true by simp [hf], if_pos rfl] at HPE
       clear hf
       go_wp2_with fail
       go_ret
       exact ⟨ret_i (by rw [HPE.out]), HB.out⟩
   · rw [if_neg (show ¬ i = 0 by omega)] at HPE
     have hne : ((i : Int) == 0) = false := by rw [beq_eq_false_iff_ne]; omega
     have hgt : decide ((i : Int) > 0) = true := decide_eq_true (by omega)
     have hip2 : (0 : Int) < (i : Int) := by omega
     have hine : ¬ i = 0 := by omega
     cases q5 with
     | true =>
      rw [if_pos rfl] at HPE
      go_wp2_with (go_at_call 62; refine (beyond_1 (by simp) _ _ _).mono ?_; rintro e v3 ⟨rfl, hb⟩; rw [Q5.out])
      go_ret
      exact ⟨ret_i (by rw [HPE.out]), HB.out.trans (hb.mono HB.out.size)⟩
     | false =>
      rw [if_neg (by simp)] at HPE
      go_upto_region 8 with (go_at_call 62; refine (beyond_1 (by simp) _ _ _).mono ?_; rintro e v3 ⟨rfl, hb⟩; rw [Q5.out])
      have HB := hide (HB.out.trans (hb.mono HB.out.size))
      have HK := hide (HK.out.next hb)
      clear hb k1 zk
      have k2 : v3.cell? ⟨w.heap.size, 2, none⟩ = some (.int .i64 s.loss) := HK.out.at_ 2
      have zk := HK.out.lt
      cases q4 with
      | true =>
       go_wp2_with (go_at_call 62; refine (beyond_1 (by simp) _ _ _).mono ?_; rintro e v4 ⟨rfl, hb⟩; rw [Q4.out])
       go_ret
       exact ⟨ret_i (by rw [HPE.out]; rfl), HB.out.trans (hb.mono HB.out.size)⟩
      | false =>
       go_wp2_with (go_at_call 62; refine (beyond_1 (by simp) _ _ _).mono ?_; rintro e v4 ⟨rfl, hb⟩; rw [Q4.out])
       go_ret
       exact ⟨ret_i (by rw [HPE.out]; rfl), HB.out.trans (hb.mono HB.out.size)⟩
set_option maxHeartbeats 2000000 in
set_option maxRecDepth 100000 in
theorem tally_any {g : Nat} {b : Book} {a : BA} {w : World} (h : BoxB w g b a) (i : Nat) (t : Tally) :
 Calls Tryz.prog 64 #[.int .i64 (i : Int), .agg #[.int .i64 t.step, .int .i64 t.hands, .int .i64 t.off], .pointer (some ⟨g, 0, none⟩)] w fun e w' => e = .returned (.int .i64 (tallyE b i t)) ∧ Below w.heap.size w w' := by
 have hm1 := h.v.m1
 unfold maxLen at hm1
 have HPE := hide (show tallyE b i t = if offP 0 ((b.steps.length : Int) - 1) t.step then 4 else if offP 0 99 t.hands || offP 0 9 t.off then 7 else 0 from rfl)
 have hA : Below w.heap.size w (w.alloc (.cells #[.int .i64 t.step, .int .i64 t.hands, .int .i64 t.off] 50)) := (Below.refl _ _).alloc (Nat.le_refl _) _
 have HX := hide (h.next hA)
 have HB := hide hA
 have HK : Hid (Blk (w.alloc (.cells #[.int .i64 t.step, .int .i64 t.hands, .int .i64 t.off] 50)) w.heap.size 50 #[.int .i64 t.step, .int .i64 t.hands, .int .i64 t.off]) := hide Blk.made
 have hw1 : IntKind.i64.wrap ((b.steps.length : Int) - 1) = (b.steps.length : Int) - 1 := IntWalk.i64_in _ (by omega)
 clear h hA
 generalize hq1 : offP 0 ((b.steps.length : Int) - 1) t.step = q1 at *
 generalize hq2 : offP 0 99 t.hands = q2 at *
 generalize hq3 : offP 0 9 t.off = q3 at *
 have Q1 := hide hq1
 have Q2 := hide hq2
 have Q3 := hide hq3
 clear hq1 hq2 hq3
 go_enter Tryz.func64, Tryz.ntmps64
 go_upto_region 1 with (fail)
 generalize (w.alloc (.cells #[.int .i64 t.step, .int .i64 t.hands, .int .i64 t.off] 50)) = v0 at *
 obtain ⟨z, x0, _⟩ := HX.out.cells
 have k0 : v0.cell? ⟨w.heap.size, 0, none⟩ = some (.int .i64 t.step) := HK.out.at_ 0
 have zk := HK.out.lt
 cases q1 with
 | true =>
  go_wp2_with (go_at_call 62; refine (beyond_1 (by simp) _ _ _).mono ?_; rintro e v1 ⟨rfl, hb⟩; rw [Q1.out])
  go_ret
  exact ⟨ret_i (by rw [HPE.out]; rfl), HB.out.trans (hb.mono HB.out.size)⟩
 | false =>
  rw [if_neg (by simp)] at HPE
  go_upto_region 3 with (go_at_call 62; refine (beyond_1 (by simp) _ _ _).mono ?_; rintro e v1 ⟨rfl, hb⟩; rw [Q1.out])
  have HB := hide (HB.out.trans (hb.mono HB.out.size))
  have HK := hide (HK.out.next hb)
  clear hb k0 zk z x0 HX hw1
  have k1 : v1.cell? ⟨w.heap.size, 1, none⟩ = some (.int .i64 t.hands) := HK.out.at_ 1
  have zk := HK.out.lt
  go_wp2_with fail
  refine (beyond_1 (by simp) _ _ _).mono ?_
  rintro e v2 ⟨rfl, hb⟩
  rw [Q2.out]
  have HB := hide (HB.out.trans (hb.mono HB.out.size))
  have HK := hide (HK.out.next hb)
  clear hb k1 zk
  have k2 : v2.cell? ⟨w.heap.size, 2, none⟩ = some (.int .i64 t.off) := HK.out.at_ 2
  have zk := HK.out.lt
  cases q2 with
  | true =>
   go_wp2_with fail
   go_ret
   exact ⟨ret_i (by rw [HPE.out]; rfl), HB.out⟩
  | false =>
   go_wp2_with fail
   refine (beyond_1 (by simp) _ _ _).mono ?_
   rintro e v3 ⟨rfl, hb⟩
   rw [Q3.out]
   cases q3 with
   | true =>
    go_wp2_with fail
    go_ret
    exact ⟨ret_i (by rw [HPE.out]; rfl), HB.out.trans (hb.mono HB.out.size)⟩
   | false =>
    go_wp2_with fail
    go_ret
    exact ⟨ret_i (by rw [HPE.out]; rfl), HB.out.trans (hb.mono HB.out.size)⟩
set_option maxHeartbeats 4000000 in
set_option maxRecDepth 100000 in
theorem check_any {b : Book} {a : BA} {w : World} (h : BookV w w.heap.size b a) :
 Calls Tryz.prog 17 #[bookVal b a] w fun e w' => e = .returned (.tuple #[.int .i64 (checkM b).1, .int .i64 (checkM b).2.1, .int .i64 (checkM b).2.2]) ∧ Below w.heap.size w w' := by
 have HPE := hide (show checkM b = if (failM (stepE b) b.steps 1 6).2 ≠ 0 then (1, failM (stepE b) b.steps 1 6) else if (failM (tallyE b) b.tallies 0 6).2 ≠ 0 then (2, failM (tallyE b) b.tallies 0 6) else (0, 0, 0) from rfl)
 have HX := hide (BoxB.made h)
 have HB := hide (show Below w.heap.size w (w.alloc (.cells (bookCells b a) 25)) from (Below.refl _ _).alloc (Nat.le_refl _) _)
 clear h
 generalize hq1 : failM (stepE b) b.steps 1 6 = r1 at *
 obtain ⟨i1, e1⟩ := r1
 have Q1 := hide hq1
 generalize hq2 : failM (tallyE b) b.tallies 0 6 = r2 at *
 obtain ⟨i2, e2⟩ := r2
 have Q2 := hide hq2
 clear hq1 hq2
 go_enter Tryz.func17, Tryz.ntmps17
 go_upto_region 1 with (fail)
 generalize (w.alloc (.cells (bookCells b a) 25)) = v0 at *
 obtain ⟨z, x0, _⟩ := HX.out.cells
 have hc := failingS_any HX.out.v.steps HX.out.v.m1 1 6 58 #[.pointer (some ⟨w.heap.size, 0, none⟩)] (stepE b) (fun j W hj hW => step_any (HX.out.next hW) _ hj) (enters_of Tryz.func58 (by kernel_rfl) rfl)
 rw [Q1.out] at hc
 dsimp only at hc
 by_cases he : e1 = 0
 · have hd : (e1 != 0) = false := by simpa using he
   have HE := hide he
   subst he
   go_upto_region 4 with (go_at_call 57; refine hc.mono ?_; rintro e v1 ⟨rfl, hb⟩)
   have HB := hide (HB.out.trans (hb.mono HB.out.size))
   have HX := hide (HX.out.next hb)
   clear hb hc z x0
   obtain ⟨z, _, x1⟩ := HX.out.cells
   have hc := failingT_any HX.out.v.tallies HX.out.v.m2 0 6 64 #[.pointer (some ⟨w.heap.size, 0, none⟩)] (tallyE b) (fun j W hj hW => tally_any (HX.out.next hW) j _) (enters_of Tryz.func64 (by kernel_rfl) rfl)
   rw [Q2.out] at hc
   dsimp only at hc
   by_cases he : e2 = 0
   · subst he
     go_wp2_with (go_at_call 63; refine hc.mono ?_; rintro e v2 ⟨rfl, hb⟩)
     go_ret3
     exact ⟨ret_t3 (by rw [HPE.out]; rfl) (by rw [HPE.out]; rfl) (by rw [HPE.out]; rfl), HB.out.trans (hb.mono HB.out.size)⟩
   · have hd2 : (e2 != 0) = true := by simpa using he
     have HE2 := hide he
     clear he
     go_wp2_with (go_at_call 63; refine hc.mono ?_; rintro e v2 ⟨rfl, hb⟩)
     go_ret3
     exact ⟨ret_t3 (by rw [HPE.out, if_neg (by simp), if_pos HE2.out]) (by rw [HPE.out, if_neg (by simp), if_pos HE2.out]) (by rw [HPE.out, if_neg (by simp), if_pos HE2.out]), HB.out.trans (hb.mono HB.out.size)⟩
 · have hd : (e1 != 0) = true := by simpa using he
   have HE := hide he
   clear he
   go_wp2_with (go_at_call 57; refine hc.mono ?_; rintro e v1 ⟨rfl, hb⟩)
   go_ret3
   exact ⟨ret_t3 (by rw [HPE.out, if_pos HE.out]) (by rw [HPE.out, if_pos HE.out]) (by rw [HPE.out, if_pos HE.out]), HB.out.trans (hb.mono HB.out.size)⟩
end Go.Proofs.YtocdmkilnbpkdaaGreatDoor
