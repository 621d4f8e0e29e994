/- The law's Awake. -/
import Derived.Test.YtllmahcanipcpaaLX
import Derived.Laws.StructEq
import Derived.OwnWalkIn
import Derived.TacticsInMore
import Derived.Deep.DeepCutAuto
set_option linter.unusedVariables false
set_option linter.unusedSimpArgs false
namespace Go.Proofs.Ytllmahcanipcpaa
open Go.RowKit
attribute [local go_sem ↓] Go.wp_at_zero Go.wp_at_succ
attribute [local go_sem] Oper.semAt_some

/-- A span's box. -/
def BoxS (W : World) (g : Nat) (a b : Int) : Prop := g < W.heap.size ∧ W.cell? ⟨g, 0, none⟩ = some (.int .i64 a) ∧ W.cell? ⟨g, 1, none⟩ = some (.int .i64 b)
theorem BoxS.next {W W' : World} {g : Nat} {a b : Int} (h : BoxS W g a b) (hb : Below W.heap.size W W') : BoxS W' g a b :=
  ⟨Nat.lt_of_lt_of_le h.1 hb.size, (hb.cell (p := ⟨g, 0, none⟩) h.1).trans h.2.1, (hb.cell (p := ⟨g, 1, none⟩) h.1).trans h.2.2⟩
theorem BoxS.made {w : World} {a b : Int} : BoxS (w.alloc (.cells #[.int .i64 a, .int .i64 b] 43)) w.heap.size a b := by
  refine ⟨by simp, ?_, ?_⟩
  all_goals rw [World.cell?_alloc_at _ _ _ _ rfl]; rfl
theorem IntsS.lit3 {w : World} {b : Nat} (hb : w.heap.size = b) (x y z : Int) : IntsS (w.alloc (.cells #[.int .i64 x, .int .i64 y, .int .i64 z] 3)) (b + 1) (some ⟨b, 0, none⟩) 3 3 [x, y, z] :=
  blk_ints (Blk.made' hb) (by omega) rfl (by decide) (fun j hj => by
    match j, hj with
    | 0, _ | 1, _ | 2, _ => rfl)
section
variable {f : File} {fa : FA} {w : World}
theorem whoX (h : FileV w w.heap.size f fa) (l : Int) {xs : List Nat} {ys : List Int} {n : Nat} {er : Int} (hx : whoV f l = (xs, er)) (hn : xs.length = n) (hy : natInts xs = ys) :
    Calls Try.prog 10 #[fileVal f fa, .int .i64 l] w fun e w' => ∃ A cp, e = .returned (.tuple #[.slice A n cp, .int .i64 er]) ∧ IntsS w' w'.heap.size A n cp ys ∧ Below w.heap.size w w' := by
  have := who_any h l
  rw [hx] at this
  subst hn hy
  exact this
theorem heldX (h : FileV w w.heap.size f fa) {xs : List Nat} {ys : List Int} {n : Nat} {er : Int} (hx : heldV f = (xs, er)) (hn : xs.length = n) (hy : natInts xs = ys) :
    Calls Try.prog 17 #[fileVal f fa] w fun e w' => ∃ A cp, e = .returned (.tuple #[.slice A n cp, .int .i64 er]) ∧ IntsS w' w'.heap.size A n cp ys ∧ Below w.heap.size w w' := by
  have := held_any h
  rw [hx] at this
  subst hn hy
  exact this
theorem openX (h : FileV w w.heap.size f fa) {xs : List Nat} {ys : List Int} {n : Nat} {er : Int} (hx : openV f = (xs, er)) (hn : xs.length = n) (hy : natInts xs = ys) :
    Calls Try.prog 19 #[fileVal f fa] w fun e w' => ∃ A cp, e = .returned (.tuple #[.slice A n cp, .int .i64 er]) ∧ IntsS w' w'.heap.size A n cp ys ∧ Below w.heap.size w w' := by
  have := open_any h
  rw [hx] at this
  subst hn hy
  exact this
theorem wrongX (h : FileV w w.heap.size f fa) {xs : List Nat} {ys : List Int} {n : Nat} {er : Int} (hx : wrongV f = (xs, er)) (hn : xs.length = n) (hy : natInts xs = ys) :
    Calls Try.prog 20 #[fileVal f fa] w fun e w' => ∃ A cp, e = .returned (.tuple #[.slice A n cp, .int .i64 er]) ∧ IntsS w' w'.heap.size A n cp ys ∧ Below w.heap.size w w' := by
  have := wrong_any h
  rw [hx] at this
  subst hn hy
  exact this
theorem paysX (h : FileV w w.heap.size f fa) (n : Int) {a er : Int} (hx : payV f n = (a, er)) :
    Calls Try.prog 16 #[fileVal f fa, .int .i64 n] w fun e w' => e = .returned (.tuple #[.int .i64 a, .int .i64 er]) ∧ Below w.heap.size w w' := by
  have := pays_any h n
  rw [hx] at this
  exact this
theorem owesX (h : FileV w w.heap.size f fa) (n : Int) {a b er : Int} (hx : owesV f n = (⟨a, b⟩, er)) :
    Calls Try.prog 18 #[fileVal f fa, .int .i64 n] w fun e w' => e = .returned (.tuple #[.agg #[.int .i64 a, .int .i64 b], .int .i64 er]) ∧ Below w.heap.size w w' := by
  have := owes_any h n
  rw [hx] at this
  exact this
theorem nextX (h : FileV w w.heap.size f fa) (l d : Int) {a b er : Int} (hx : nextV f l d = ((a, b), er)) :
    Calls Try.prog 57 #[fileVal f fa, .int .i64 l, .int .i64 d] w fun e w' => e = .returned (.tuple #[.int .i64 a, .int .i64 b, .int .i64 er]) ∧ Below w.heap.size w w' := by
  have := next_any2 h l d
  rw [hx] at this
  exact this
end
theorem wp_region_rel3 {P : Program} {ops : Array Oper} {Q : Exit → Act → World → Prop} {a0 : Act} {w : World} {dst : Nat → Tmp} {mono pre : Nat → Bool} {R : World → World → Prop} {Pv : Nat → Value → World → Prop} {id : Nat} (hm : P.follows .mixedOrders = true) (hok : growOk ops dst mono pre a0.tmps.size = true) (hR0 : ∀ W, R W W) (hRt : ∀ W W' W'', R W W' → R W' W'' → R W W'') (hst : ∀ i v W W', Pv i v W → R W W' → Pv i v W')
    (hstep : ∀ i, i < ops.size → mono i = true → ∀ listed vs a W, GrownU ops.size a0 W dst NoPv listed vs a W → R w.drew W → (∀ i, listed.getD i false = true → Pv i (vs i) W) → (∀ o, ops[i]? = some o → ∀ e ∈ o.after, Region.binds .any e = true → listed.getD e.on false = true) →
      ∀ K : Act → World → Prop, (∀ v W', R W W' → Pv i v W' → K (a.put (some (dst i)) v) W') → wpOp P ops Q i K a W)
    (hend : ∀ listed vs a W, Grown ops.size a0 W dst mono NoPv listed vs a W → GrownU ops.size a0 W dst NoPv listed vs a W → R w.drew W → (∀ i, listed.getD i false = true → Pv i (vs i) W) → (∀ i, i < ops.size → pre i = true → listed.getD i false = true) → wpAny P .any ops Q (leftOver listed ops.size) listed a W) :
    (Code.region id ops true).wp P Q a0 w :=
  wp_region_rel hm hok hR0 hRt hst hstep (fun l v a W h hr hp hq => hend l v a W h (h.user (grow_facts hok).1 (grow_facts hok).2) hr hp hq)
set_option maxHeartbeats 4000000 in
set_option maxRecDepth 100000 in
theorem awake_any (w : World) : Calls Try.prog 13 #[] w fun e w' => e = .returned (.bool true) ∧ Below w.heap.size w w' := by
  obtain ⟨x1, x2, -, -⟩ := ex_who
  have X1 := hide x1
  have X13 := hide x2
  obtain ⟨x1, x2, x3, -⟩ := ex_pays
  have X2 := hide x1
  have X3 := hide x2
  have X4 := hide x3
  have X5 := hide ex_held.1
  obtain ⟨x1, x2, -⟩ := ex_owes
  have X6 := hide x1
  have X7 := hide x2
  have X8 := hide ex_open.1
  obtain ⟨x1, x2⟩ := ex_next
  have X9 := hide x1
  obtain ⟨na, nb, x3⟩ : ∃ na nb, nextV (lawF []) 1 13 = ((na, nb), 9) := ⟨_, _, by rw [← x2]⟩
  have X10 := hide x3
  have X11 := hide ex_wrong.1
  clear x1 x2 x3
  go_enter Try.func13, Try.ntmps13
  go_wp2_with fail
  refine (file_any (A := none) (B := 0) (c := 0) (ps := []) Row.nil_ (Nat.zero_le _) (by simp)).mono ?_
  rintro e v1 ⟨fa, rfl, hF1, hb1⟩
  have hF1 := hF1 v1 (Keep.refl _ _)
  have HB := hide hb1
  have HF1 := hide hF1
  clear hF1 hb1
  go_wp2_with fail
  refine (bothF_any _).mono ?_
  rintro e v2 ⟨ga, rfl, hF2, hb⟩
  have HF1 := hide (HF1.out.next hb)
  have HF2 := hide hF2
  have HB := hide (HB.out.trans (hb.mono HB.out.size))
  clear hF2 hb
  go_wp2_with fail
  refine (wrongF_any _).mono ?_
  rintro e v3 ⟨wa, rfl, hF3, hb⟩
  have HF1 := hide (HF1.out.next hb)
  have HF2 := hide (HF2.out.next hb)
  have HF3 := hide hF3
  have HB := hide (HB.out.trans (hb.mono HB.out.size))
  clear hF3 hb
  generalize lawF [] = f at *
  generalize lawF [⟨2, 0, 1⟩] = g at *
  generalize lawF [⟨1, 0, 1⟩] = u at *
  go_upto_region 2 with (fail)
  have hb : Below v3.heap.size v3 (((v3.alloc (.cells (fileCells f fa) 28)).alloc (.cells (fileCells g ga) 28)).alloc (.cells (fileCells u wa) 28)) := (((Below.refl _ _).alloc (Nat.le_refl _) _).alloc (by simp) _).alloc (by simp; omega) _
  have K1 : Hid (BoxF (((v3.alloc (.cells (fileCells f fa) 28)).alloc (.cells (fileCells g ga) 28)).alloc (.cells (fileCells u wa) 28)) v3.heap.size f fa) := hide ⟨HF1.out.next hb, (Blk.made.alloc _).alloc _⟩
  have K2 : Hid (BoxF (((v3.alloc (.cells (fileCells f fa) 28)).alloc (.cells (fileCells g ga) 28)).alloc (.cells (fileCells u wa) 28)) (v3.heap.size + 1) g ga) := hide ⟨HF2.out.next hb, (Blk.made' (by simp)).alloc _⟩
  have K3 : Hid (BoxF (((v3.alloc (.cells (fileCells f fa) 28)).alloc (.cells (fileCells g ga) 28)).alloc (.cells (fileCells u wa) 28)) (v3.heap.size + 1 + 1) u wa) := hide ⟨HF3.out.next hb, Blk.made' (by simp)⟩
  have HB := hide (HB.out.trans (hb.mono HB.out.size))
  clear hb HF1 HF2 HF3
  generalize (((v3.alloc (.cells (fileCells f fa) 28)).alloc (.cells (fileCells g ga) 28)).alloc (.cells (fileCells u wa) 28)) = v0 at *
  obtain ⟨z, c1, c2, c3, c4, c5⟩ := K1.out.cells
  go_upto_region 3 with (go_at_call 10; refine (whoX K1.out.v 0 X1.out (n := 2) rfl (ys := [2, 3]) rfl).mono ?_; rintro e y1 ⟨A1, q1, rfl, hi, hb⟩)
  have K1 := hide (K1.out.next hb)
  have K2 := hide (K2.out.next hb)
  have K3 := hide (K3.out.next hb)
  have HB := hide (HB.out.trans (hb.mono HB.out.size))
  clear hb
  have I1 := hide hi
  clear hi
  clear z c1 c2 c3 c4 c5
  obtain ⟨z, c1, c2, c3, c4, c5⟩ := K1.out.cells
  go_upto_region 4 with (go_at_call 16; refine (paysX K1.out.v 0 X2.out).mono ?_; rintro e y2 ⟨rfl, hb⟩)
  have K1 := hide (K1.out.next hb)
  have K2 := hide (K2.out.next hb)
  have K3 := hide (K3.out.next hb)
  have I1 := hide (I1.out.next hb)
  have HB := hide (HB.out.trans (hb.mono HB.out.size))
  clear hb
  clear z c1 c2 c3 c4 c5
  obtain ⟨z, c1, c2, c3, c4, c5⟩ := K1.out.cells
  go_upto_region 5 with (go_at_call 16; refine (paysX K1.out.v 4 X3.out).mono ?_; rintro e y3 ⟨rfl, hb⟩)
  have K1 := hide (K1.out.next hb)
  have K2 := hide (K2.out.next hb)
  have K3 := hide (K3.out.next hb)
  have I1 := hide (I1.out.next hb)
  have HB := hide (HB.out.trans (hb.mono HB.out.size))
  clear hb
  clear z c1 c2 c3 c4 c5
  obtain ⟨z, c1, c2, c3, c4, c5⟩ := K2.out.cells
  go_upto_region 6 with (go_at_call 16; refine (paysX K2.out.v 4 X4.out).mono ?_; rintro e y4 ⟨rfl, hb⟩)
  have K1 := hide (K1.out.next hb)
  have K2 := hide (K2.out.next hb)
  have K3 := hide (K3.out.next hb)
  have I1 := hide (I1.out.next hb)
  have HB := hide (HB.out.trans (hb.mono HB.out.size))
  clear hb
  clear z c1 c2 c3 c4 c5
  obtain ⟨z, c1, c2, c3, c4, c5⟩ := K1.out.cells
  go_upto_region 7 with (go_at_call 17; refine (heldX K1.out.v X5.out (n := 3) rfl (ys := [1, 3, 4]) rfl).mono ?_; rintro e y5 ⟨A5, q5, rfl, hi, hb⟩)
  have K1 := hide (K1.out.next hb)
  have K2 := hide (K2.out.next hb)
  have K3 := hide (K3.out.next hb)
  have I1 := hide (I1.out.next hb)
  have HB := hide (HB.out.trans (hb.mono HB.out.size))
  clear hb
  have I5 := hide hi
  clear hi
  clear z c1 c2 c3 c4 c5
  obtain ⟨z, c1, c2, c3, c4, c5⟩ := K1.out.cells
  go_upto_region 8 with (go_at_call 18; refine (owesX K1.out.v 2 X6.out).mono ?_; rintro e y6 ⟨rfl, hb⟩)
  have K1 := hide (K1.out.next hb)
  have K2 := hide (K2.out.next hb)
  have K3 := hide (K3.out.next hb)
  have I1 := hide (I1.out.next hb)
  have I5 := hide (I5.out.next hb)
  have HB := hide (HB.out.trans (hb.mono HB.out.size))
  clear hb
  clear z c1 c2 c3 c4 c5
  have hb : Below y6.heap.size y6 (y6.alloc (.cells #[.int .i64 0, .int .i64 65] 43)) := (Below.refl _ _).alloc (Nat.le_refl _) _
  have S6 : Hid (BoxS (y6.alloc (.cells #[.int .i64 0, .int .i64 65] 43)) y6.heap.size 0 65) := hide BoxS.made
  have K1 := hide (K1.out.next hb)
  have K2 := hide (K2.out.next hb)
  have K3 := hide (K3.out.next hb)
  have I1 := hide (I1.out.next hb)
  have I5 := hide (I5.out.next hb)
  have HB := hide (HB.out.trans (hb.mono HB.out.size))
  clear hb
  generalize (y6.alloc (.cells #[.int .i64 0, .int .i64 65] 43)) = s6 at *
  obtain ⟨z, c1, c2, c3, c4, c5⟩ := K2.out.cells
  go_upto_region 9 with (go_at_call 18; refine (owesX K2.out.v 2 X7.out).mono ?_; rintro e y7 ⟨rfl, hb⟩)
  have K1 := hide (K1.out.next hb)
  have K2 := hide (K2.out.next hb)
  have K3 := hide (K3.out.next hb)
  have I1 := hide (I1.out.next hb)
  have I5 := hide (I5.out.next hb)
  have S6 := hide (S6.out.next hb)
  have HB := hide (HB.out.trans (hb.mono HB.out.size))
  clear hb
  clear z c1 c2 c3 c4 c5
  have hb : Below y7.heap.size y7 (y7.alloc (.cells #[.int .i64 65, .int .i64 65] 43)) := (Below.refl _ _).alloc (Nat.le_refl _) _
  have S7 : Hid (BoxS (y7.alloc (.cells #[.int .i64 65, .int .i64 65] 43)) y7.heap.size 65 65) := hide BoxS.made
  have K1 := hide (K1.out.next hb)
  have K2 := hide (K2.out.next hb)
  have K3 := hide (K3.out.next hb)
  have I1 := hide (I1.out.next hb)
  have I5 := hide (I5.out.next hb)
  have S6 := hide (S6.out.next hb)
  have HB := hide (HB.out.trans (hb.mono HB.out.size))
  clear hb
  generalize (y7.alloc (.cells #[.int .i64 65, .int .i64 65] 43)) = s7 at *
  obtain ⟨z, c1, c2, c3, c4, c5⟩ := K1.out.cells
  go_upto_region 10 with (go_at_call 19; refine (openX K1.out.v X8.out (n := 1) rfl (ys := [1]) rfl).mono ?_; rintro e y8 ⟨A8, q8, rfl, hi, hb⟩)
  have K1 := hide (K1.out.next hb)
  have K2 := hide (K2.out.next hb)
  have K3 := hide (K3.out.next hb)
  have I1 := hide (I1.out.next hb)
  have I5 := hide (I5.out.next hb)
  have S6 := hide (S6.out.next hb)
  have S7 := hide (S7.out.next hb)
  have HB := hide (HB.out.trans (hb.mono HB.out.size))
  clear hb
  have I8 := hide hi
  clear hi
  clear z c1 c2 c3 c4 c5
  obtain ⟨z, c1, c2, c3, c4, c5⟩ := K1.out.cells
  go_upto_region 11 with (go_at_call 57; refine (nextX K1.out.v 1 12 X9.out).mono ?_; rintro e y9 ⟨rfl, hb⟩)
  have K1 := hide (K1.out.next hb)
  have K2 := hide (K2.out.next hb)
  have K3 := hide (K3.out.next hb)
  have I1 := hide (I1.out.next hb)
  have I5 := hide (I5.out.next hb)
  have S6 := hide (S6.out.next hb)
  have S7 := hide (S7.out.next hb)
  have I8 := hide (I8.out.next hb)
  have HB := hide (HB.out.trans (hb.mono HB.out.size))
  clear hb
  clear z c1 c2 c3 c4 c5
  obtain ⟨z, c1, c2, c3, c4, c5⟩ := K1.out.cells
  go_upto_region 12 with (go_at_call 57; refine (nextX K1.out.v 1 13 X10.out).mono ?_; rintro e y10 ⟨rfl, hb⟩)
  have K1 := hide (K1.out.next hb)
  have K2 := hide (K2.out.next hb)
  have K3 := hide (K3.out.next hb)
  have I1 := hide (I1.out.next hb)
  have I5 := hide (I5.out.next hb)
  have S6 := hide (S6.out.next hb)
  have S7 := hide (S7.out.next hb)
  have I8 := hide (I8.out.next hb)
  have HB := hide (HB.out.trans (hb.mono HB.out.size))
  clear hb
  clear z c1 c2 c3 c4 c5
  obtain ⟨z, c1, c2, c3, c4, c5⟩ := K3.out.cells
  go_upto_region 13 with (go_at_call 20; refine (wrongX K3.out.v X11.out (n := 1) rfl (ys := [1]) rfl).mono ?_; rintro e y11 ⟨A11, q11, rfl, hi, hb⟩)
  have K1 := hide (K1.out.next hb)
  have K2 := hide (K2.out.next hb)
  have K3 := hide (K3.out.next hb)
  have I1 := hide (I1.out.next hb)
  have I5 := hide (I5.out.next hb)
  have S6 := hide (S6.out.next hb)
  have S7 := hide (S7.out.next hb)
  have I8 := hide (I8.out.next hb)
  have HB := hide (HB.out.trans (hb.mono HB.out.size))
  clear hb
  have I11 := hide hi
  clear hi
  clear z c1 c2 c3 c4 c5
  obtain ⟨z, c1, c2, c3, c4, c5⟩ := K3.out.cells
  go_wp2_with fail
  refine (whoX K3.out.v 0 X13.out (n := 0) rfl (ys := []) rfl).mono ?_
  rintro e y12 ⟨A12, q12, rfl, hi, hb⟩
  clear hi z c1 c2 c3 c4 c5
  have K1 := hide (K1.out.next hb)
  have K2 := hide (K2.out.next hb)
  have K3 := hide (K3.out.next hb)
  have I1 := hide (I1.out.next hb)
  have I5 := hide (I5.out.next hb)
  have S6 := hide (S6.out.next hb)
  have S7 := hide (S7.out.next hb)
  have I8 := hide (I8.out.next hb)
  have I11 := hide (I11.out.next hb)
  have HB := hide (HB.out.trans (hb.mono HB.out.size))
  clear hb
  have hgt : Try.prog.eqGuardType Try.prog.depth 43 = false := by kernel_rfl
  obtain ⟨zS6, dS6, eS6⟩ := S6.out
  obtain ⟨zS7, dS7, eS7⟩ := S7.out
  go_wp2_with fail
  simp only [List.append_eq, List.cons_append, List.nil_append]
  refine wp_post (fun a W => a.tmps[0]?.getD undef = .bool true ∧ a.defers = [] ∧ Keep (fun _ => False) y12 W) ?reg ?imp
  case reg =>
    refine wp_region_rel3 (dst := fun oi => [95, 96, 97, 98, 99, 100, 101, 102, 103, 104, 105, 106, 107, 108, 109, 110, 111, 112, 113, 114, 115, 116, 117, 118, 119, 120, 121, 122, 123, 124, 125, 126, 127, 128, 129, 130, 131, 132, 133, 134, 135, 136, 137, 138, 139, 140, 141, 142, 143, 144, 145, 146, 147, 148, 149, 150, 151, 152, 153, 154, 155, 156, 157, 158, 159, 160, 161, 162, 163, 164, 165, 166, 167, 168, 169, 170, 171, 172, 173, 174, 175, 176, 177, 178, 179, 180, 181, 182, 183, 184, 185, 186, 187, 188, 189, 190, 0].getD oi 0) (mono := fun oi => decide (oi < 97)) (pre := fun oi => decide (oi < 97)) (R := LKeep (fun _ => False) (fun _ => True))
      (Pv := fun oi v W => match oi with
        | 0 => v = .int .i64 0
        | 1 => v = .bool true
        | 2 => v = .bool true
        | 3 => v = .int .i64 0
        | 4 => v = .bool true
        | 5 => v = .bool true
        | 6 => v = .bool true
        | 7 => v = .int .i64 0
        | 8 => v = .bool true
        | 9 => v = .bool true
        | 10 => v = .bool true
        | 11 => v = .int .i64 0
        | 12 => v = .bool true
        | 13 => v = .bool true
        | 14 => v = .bool true
        | 15 => v = .int .i64 0
        | 16 => v = .bool true
        | 17 => v = .bool true
        | 18 => v = .bool true
        | 19 => v = .int .i64 0
        | 20 => v = .bool true
        | 21 => v = .bool true
        | 22 => v = .bool true
        | 23 => v = .int .i64 0
        | 24 => v = .bool true
        | 25 => v = .bool true
        | 26 => v = .bool true
        | 27 => v = .int .i64 0
        | 28 => v = .bool true
        | 29 => v = .bool true
        | 30 => v = .bool true
        | 31 => v = .int .i64 0
        | 32 => v = .bool true
        | 33 => v = .bool true
        | 34 => v = .bool true
        | 35 => v = .int .i64 9
        | 36 => v = .bool true
        | 37 => v = .bool true
        | 38 => v = .bool true
        | 39 => v = .int .i64 0
        | 40 => v = .bool true
        | 41 => v = .bool true
        | 42 => v = .bool true
        | 43 => v = .int .i64 8
        | 44 => v = .bool true
        | 45 => v = .bool true
        | 46 => v = .bool true
        | 47 => v = .slice A1 2 q1
        | 48 => ∃ gl cp, v = .slice gl 2 cp ∧ IntsS W W.heap.size gl 2 cp ([2, 3])
        | 49 => v = .bool true
        | 50 => v = .bool true
        | 51 => v = .bool true
        | 52 => v = .int .i64 2
        | 53 => v = .bool true
        | 54 => v = .bool true
        | 55 => v = .bool true
        | 56 => v = .int .i64 0
        | 57 => v = .bool true
        | 58 => v = .bool true
        | 59 => v = .bool true
        | 60 => v = .int .i64 1
        | 61 => v = .bool true
        | 62 => v = .bool true
        | 63 => v = .bool true
        | 64 => v = .slice A5 3 q5
        | 65 => ∃ gl cp, v = .slice gl 3 cp ∧ IntsS W W.heap.size gl 3 cp ([1, 3, 4])
        | 66 => v = .bool true
        | 67 => v = .bool true
        | 68 => v = .bool true
        | 69 => v = .agg #[.int .i64 0, .int .i64 65]
        | 70 => v = .agg #[.int .i64 0, .int .i64 65]
        | 71 => v = .bool true
        | 72 => v = .bool true
        | 73 => v = .bool true
        | 74 => v = .agg #[.int .i64 65, .int .i64 65]
        | 75 => v = .agg #[.int .i64 65, .int .i64 65]
        | 76 => v = .bool true
        | 77 => v = .bool true
        | 78 => v = .bool true
        | 79 => v = .slice A8 1 q8
        | 80 => ∃ gl cp, v = .slice gl 1 cp ∧ IntsS W W.heap.size gl 1 cp ([1])
        | 81 => v = .bool true
        | 82 => v = .bool true
        | 83 => v = .bool true
        | 84 => v = .int .i64 1
        | 85 => v = .bool true
        | 86 => v = .bool true
        | 87 => v = .bool true
        | 88 => v = .int .i64 2
        | 89 => v = .bool true
        | 90 => v = .bool true
        | 91 => v = .bool true
        | 92 => v = .slice A11 1 q11
        | 93 => ∃ gl cp, v = .slice gl 1 cp ∧ IntsS W W.heap.size gl 1 cp ([1])
        | 94 => v = .bool true
        | 95 => v = .bool true
        | 96 => v = .bool true
        | _ => True) (by kernel_rfl) (by kernel_rfl) (LKeep.refl _ _) (fun _ _ _ h h' => h.trans h') ?hst ?hstep ?hend
    case hst =>
      intro oi v W W' h hk
      match oi, h with
      | 0, h => exact h
      | 1, h => exact h
      | 2, h => exact h
      | 3, h => exact h
      | 4, h => exact h
      | 5, h => exact h
      | 6, h => exact h
      | 7, h => exact h
      | 8, h => exact h
      | 9, h => exact h
      | 10, h => exact h
      | 11, h => exact h
      | 12, h => exact h
      | 13, h => exact h
      | 14, h => exact h
      | 15, h => exact h
      | 16, h => exact h
      | 17, h => exact h
      | 18, h => exact h
      | 19, h => exact h
      | 20, h => exact h
      | 21, h => exact h
      | 22, h => exact h
      | 23, h => exact h
      | 24, h => exact h
      | 25, h => exact h
      | 26, h => exact h
      | 27, h => exact h
      | 28, h => exact h
      | 29, h => exact h
      | 30, h => exact h
      | 31, h => exact h
      | 32, h => exact h
      | 33, h => exact h
      | 34, h => exact h
      | 35, h => exact h
      | 36, h => exact h
      | 37, h => exact h
      | 38, h => exact h
      | 39, h => exact h
      | 40, h => exact h
      | 41, h => exact h
      | 42, h => exact h
      | 43, h => exact h
      | 44, h => exact h
      | 45, h => exact h
      | 46, h => exact h
      | 47, h => exact h
      | 48, h => obtain ⟨gl, cp, h1, h2⟩ := h; exact ⟨gl, cp, h1, h2.next (hk.1.below (B := W.heap.size) (fun k h => h.elim) (Nat.le_refl _))⟩
      | 49, h => exact h
      | 50, h => exact h
      | 51, h => exact h
      | 52, h => exact h
      | 53, h => exact h
      | 54, h => exact h
      | 55, h => exact h
      | 56, h => exact h
      | 57, h => exact h
      | 58, h => exact h
      | 59, h => exact h
      | 60, h => exact h
      | 61, h => exact h
      | 62, h => exact h
      | 63, h => exact h
      | 64, h => exact h
      | 65, h => obtain ⟨gl, cp, h1, h2⟩ := h; exact ⟨gl, cp, h1, h2.next (hk.1.below (B := W.heap.size) (fun k h => h.elim) (Nat.le_refl _))⟩
      | 66, h => exact h
      | 67, h => exact h
      | 68, h => exact h
      | 69, h => exact h
      | 70, h => exact h
      | 71, h => exact h
      | 72, h => exact h
      | 73, h => exact h
      | 74, h => exact h
      | 75, h => exact h
      | 76, h => exact h
      | 77, h => exact h
      | 78, h => exact h
      | 79, h => exact h
      | 80, h => obtain ⟨gl, cp, h1, h2⟩ := h; exact ⟨gl, cp, h1, h2.next (hk.1.below (B := W.heap.size) (fun k h => h.elim) (Nat.le_refl _))⟩
      | 81, h => exact h
      | 82, h => exact h
      | 83, h => exact h
      | 84, h => exact h
      | 85, h => exact h
      | 86, h => exact h
      | 87, h => exact h
      | 88, h => exact h
      | 89, h => exact h
      | 90, h => exact h
      | 91, h => exact h
      | 92, h => exact h
      | 93, h => obtain ⟨gl, cp, h1, h2⟩ := h; exact ⟨gl, cp, h1, h2.next (hk.1.below (B := W.heap.size) (fun k h => h.elim) (Nat.le_refl _))⟩
      | 94, h => exact h
      | 95, h => exact h
      | 96, h => exact h
      | oi + 97, h => exact trivial
    case hstep =>
      intro oi hoi hom listed vs ao W hU hk0 hpv haft Ko hK
      have hkk := (LKeep.drew (fun _ => False) (M := fun _ => True) y12 (fun h => h)).trans hk0
      have hk := hkk.1
      have hkm := hkk.2
      clear hkk
      match oi, hoi, hom with
      | 0, hoi, hom =>
        have z5 : ao.tmps[5]?.getD undef = .int .i64 0 := hU.same 5 (by decide)
        refine wpOp_value (v := .int .i64 0) (W' := W) rfl rfl ?_ (hK _ _ (LKeep.refl _ _ _) rfl)
        go_simp
      | 1, hoi, hom =>
        have l0 := haft _ rfl { on := 0, ground := .data } (by simp) rfl
        have hv0 : vs 0 = .int .i64 0 := hpv 0 l0
        have s0 : ao.tmps[95]?.getD undef = vs 0 := hU.slot 0 (by decide) l0
        rw [hv0] at s0
        refine wpOp_value (v := .bool true) (W' := W) rfl rfl ?_ (hK _ _ (LKeep.refl _ _ _) rfl)
        go_simp
      | 2, hoi, hom =>
        have l1 := haft _ rfl { on := 1, ground := .data } (by simp) rfl
        have hv1 : vs 1 = .bool true := hpv 1 l1
        have s1 : ao.tmps[96]?.getD undef = vs 1 := hU.slot 1 (by decide) l1
        rw [hv1] at s1
        refine wpOp_value (v := .bool true) (W' := W) rfl rfl ?_ (hK _ _ (LKeep.refl _ _ _) rfl)
        go_simp
      | 3, hoi, hom =>
        have l2 := haft _ rfl { on := 2, ground := .guard } (by simp) rfl
        have hv2 : vs 2 = .bool true := hpv 2 l2
        have s2 : ao.tmps[97]?.getD undef = vs 2 := hU.slot 2 (by decide) l2
        rw [hv2] at s2
        have z7 : ao.tmps[7]?.getD undef = .int .i64 0 := hU.same 7 (by decide)
        refine wpOp_wanted (v := .int .i64 0) (W' := W) rfl ?_ ?_ (hK _ _ (LKeep.refl _ _ _) rfl)
        · refine wanted_yes (j := 2) (d := 97) ?_ ?_ s2 <;> rfl
        go_simp
      | 4, hoi, hom =>
        have l2 := haft _ rfl { on := 2, ground := .guard } (by simp) rfl
        have hv2 : vs 2 = .bool true := hpv 2 l2
        have s2 : ao.tmps[97]?.getD undef = vs 2 := hU.slot 2 (by decide) l2
        rw [hv2] at s2
        have l3 := haft _ rfl { on := 3, ground := .data } (by simp) rfl
        have hv3 : vs 3 = .int .i64 0 := hpv 3 l3
        have s3 : ao.tmps[98]?.getD undef = vs 3 := hU.slot 3 (by decide) l3
        rw [hv3] at s3
        refine wpOp_wanted (v := .bool true) (W' := W) rfl ?_ ?_ (hK _ _ (LKeep.refl _ _ _) rfl)
        · refine wanted_yes (j := 2) (d := 97) ?_ ?_ s2 <;> rfl
        go_simp
      | 5, hoi, hom =>
        have l2 := haft _ rfl { on := 2, ground := .data } (by simp) rfl
        have hv2 : vs 2 = .bool true := hpv 2 l2
        have s2 : ao.tmps[97]?.getD undef = vs 2 := hU.slot 2 (by decide) l2
        rw [hv2] at s2
        have l4 := haft _ rfl { on := 4, ground := .data } (by simp) rfl
        have hv4 : vs 4 = .bool true := hpv 4 l4
        have s4 : ao.tmps[99]?.getD undef = vs 4 := hU.slot 4 (by decide) l4
        rw [hv4] at s4
        refine wpOp_value (v := .bool true) (W' := W) rfl rfl ?_ (hK _ _ (LKeep.refl _ _ _) rfl)
        go_simp
      | 6, hoi, hom =>
        have l5 := haft _ rfl { on := 5, ground := .data } (by simp) rfl
        have hv5 : vs 5 = .bool true := hpv 5 l5
        have s5 : ao.tmps[100]?.getD undef = vs 5 := hU.slot 5 (by decide) l5
        rw [hv5] at s5
        refine wpOp_value (v := .bool true) (W' := W) rfl rfl ?_ (hK _ _ (LKeep.refl _ _ _) rfl)
        go_simp
      | 7, hoi, hom =>
        have l6 := haft _ rfl { on := 6, ground := .guard } (by simp) rfl
        have hv6 : vs 6 = .bool true := hpv 6 l6
        have s6 : ao.tmps[101]?.getD undef = vs 6 := hU.slot 6 (by decide) l6
        rw [hv6] at s6
        have z9 : ao.tmps[9]?.getD undef = .int .i64 0 := hU.same 9 (by decide)
        refine wpOp_wanted (v := .int .i64 0) (W' := W) rfl ?_ ?_ (hK _ _ (LKeep.refl _ _ _) rfl)
        · refine wanted_yes (j := 6) (d := 101) ?_ ?_ s6 <;> rfl
        go_simp
      | 8, hoi, hom =>
        have l6 := haft _ rfl { on := 6, ground := .guard } (by simp) rfl
        have hv6 : vs 6 = .bool true := hpv 6 l6
        have s6 : ao.tmps[101]?.getD undef = vs 6 := hU.slot 6 (by decide) l6
        rw [hv6] at s6
        have l7 := haft _ rfl { on := 7, ground := .data } (by simp) rfl
        have hv7 : vs 7 = .int .i64 0 := hpv 7 l7
        have s7 : ao.tmps[102]?.getD undef = vs 7 := hU.slot 7 (by decide) l7
        rw [hv7] at s7
        refine wpOp_wanted (v := .bool true) (W' := W) rfl ?_ ?_ (hK _ _ (LKeep.refl _ _ _) rfl)
        · refine wanted_yes (j := 6) (d := 101) ?_ ?_ s6 <;> rfl
        go_simp
      | 9, hoi, hom =>
        have l6 := haft _ rfl { on := 6, ground := .data } (by simp) rfl
        have hv6 : vs 6 = .bool true := hpv 6 l6
        have s6 : ao.tmps[101]?.getD undef = vs 6 := hU.slot 6 (by decide) l6
        rw [hv6] at s6
        have l8 := haft _ rfl { on := 8, ground := .data } (by simp) rfl
        have hv8 : vs 8 = .bool true := hpv 8 l8
        have s8 : ao.tmps[103]?.getD undef = vs 8 := hU.slot 8 (by decide) l8
        rw [hv8] at s8
        refine wpOp_value (v := .bool true) (W' := W) rfl rfl ?_ (hK _ _ (LKeep.refl _ _ _) rfl)
        go_simp
      | 10, hoi, hom =>
        have l9 := haft _ rfl { on := 9, ground := .data } (by simp) rfl
        have hv9 : vs 9 = .bool true := hpv 9 l9
        have s9 : ao.tmps[104]?.getD undef = vs 9 := hU.slot 9 (by decide) l9
        rw [hv9] at s9
        refine wpOp_value (v := .bool true) (W' := W) rfl rfl ?_ (hK _ _ (LKeep.refl _ _ _) rfl)
        go_simp
      | 11, hoi, hom =>
        have l10 := haft _ rfl { on := 10, ground := .guard } (by simp) rfl
        have hv10 : vs 10 = .bool true := hpv 10 l10
        have s10 : ao.tmps[105]?.getD undef = vs 10 := hU.slot 10 (by decide) l10
        rw [hv10] at s10
        have z11 : ao.tmps[11]?.getD undef = .int .i64 0 := hU.same 11 (by decide)
        refine wpOp_wanted (v := .int .i64 0) (W' := W) rfl ?_ ?_ (hK _ _ (LKeep.refl _ _ _) rfl)
        · refine wanted_yes (j := 10) (d := 105) ?_ ?_ s10 <;> rfl
        go_simp
      | 12, hoi, hom =>
        have l10 := haft _ rfl { on := 10, ground := .guard } (by simp) rfl
        have hv10 : vs 10 = .bool true := hpv 10 l10
        have s10 : ao.tmps[105]?.getD undef = vs 10 := hU.slot 10 (by decide) l10
        rw [hv10] at s10
        have l11 := haft _ rfl { on := 11, ground := .data } (by simp) rfl
        have hv11 : vs 11 = .int .i64 0 := hpv 11 l11
        have s11 : ao.tmps[106]?.getD undef = vs 11 := hU.slot 11 (by decide) l11
        rw [hv11] at s11
        refine wpOp_wanted (v := .bool true) (W' := W) rfl ?_ ?_ (hK _ _ (LKeep.refl _ _ _) rfl)
        · refine wanted_yes (j := 10) (d := 105) ?_ ?_ s10 <;> rfl
        go_simp
      | 13, hoi, hom =>
        have l10 := haft _ rfl { on := 10, ground := .data } (by simp) rfl
        have hv10 : vs 10 = .bool true := hpv 10 l10
        have s10 : ao.tmps[105]?.getD undef = vs 10 := hU.slot 10 (by decide) l10
        rw [hv10] at s10
        have l12 := haft _ rfl { on := 12, ground := .data } (by simp) rfl
        have hv12 : vs 12 = .bool true := hpv 12 l12
        have s12 : ao.tmps[107]?.getD undef = vs 12 := hU.slot 12 (by decide) l12
        rw [hv12] at s12
        refine wpOp_value (v := .bool true) (W' := W) rfl rfl ?_ (hK _ _ (LKeep.refl _ _ _) rfl)
        go_simp
      | 14, hoi, hom =>
        have l13 := haft _ rfl { on := 13, ground := .data } (by simp) rfl
        have hv13 : vs 13 = .bool true := hpv 13 l13
        have s13 : ao.tmps[108]?.getD undef = vs 13 := hU.slot 13 (by decide) l13
        rw [hv13] at s13
        refine wpOp_value (v := .bool true) (W' := W) rfl rfl ?_ (hK _ _ (LKeep.refl _ _ _) rfl)
        go_simp
      | 15, hoi, hom =>
        have l14 := haft _ rfl { on := 14, ground := .guard } (by simp) rfl
        have hv14 : vs 14 = .bool true := hpv 14 l14
        have s14 : ao.tmps[109]?.getD undef = vs 14 := hU.slot 14 (by decide) l14
        rw [hv14] at s14
        have z13 : ao.tmps[13]?.getD undef = .int .i64 0 := hU.same 13 (by decide)
        refine wpOp_wanted (v := .int .i64 0) (W' := W) rfl ?_ ?_ (hK _ _ (LKeep.refl _ _ _) rfl)
        · refine wanted_yes (j := 14) (d := 109) ?_ ?_ s14 <;> rfl
        go_simp
      | 16, hoi, hom =>
        have l14 := haft _ rfl { on := 14, ground := .guard } (by simp) rfl
        have hv14 : vs 14 = .bool true := hpv 14 l14
        have s14 : ao.tmps[109]?.getD undef = vs 14 := hU.slot 14 (by decide) l14
        rw [hv14] at s14
        have l15 := haft _ rfl { on := 15, ground := .data } (by simp) rfl
        have hv15 : vs 15 = .int .i64 0 := hpv 15 l15
        have s15 : ao.tmps[110]?.getD undef = vs 15 := hU.slot 15 (by decide) l15
        rw [hv15] at s15
        refine wpOp_wanted (v := .bool true) (W' := W) rfl ?_ ?_ (hK _ _ (LKeep.refl _ _ _) rfl)
        · refine wanted_yes (j := 14) (d := 109) ?_ ?_ s14 <;> rfl
        go_simp
      | 17, hoi, hom =>
        have l14 := haft _ rfl { on := 14, ground := .data } (by simp) rfl
        have hv14 : vs 14 = .bool true := hpv 14 l14
        have s14 : ao.tmps[109]?.getD undef = vs 14 := hU.slot 14 (by decide) l14
        rw [hv14] at s14
        have l16 := haft _ rfl { on := 16, ground := .data } (by simp) rfl
        have hv16 : vs 16 = .bool true := hpv 16 l16
        have s16 : ao.tmps[111]?.getD undef = vs 16 := hU.slot 16 (by decide) l16
        rw [hv16] at s16
        refine wpOp_value (v := .bool true) (W' := W) rfl rfl ?_ (hK _ _ (LKeep.refl _ _ _) rfl)
        go_simp
      | 18, hoi, hom =>
        have l17 := haft _ rfl { on := 17, ground := .data } (by simp) rfl
        have hv17 : vs 17 = .bool true := hpv 17 l17
        have s17 : ao.tmps[112]?.getD undef = vs 17 := hU.slot 17 (by decide) l17
        rw [hv17] at s17
        refine wpOp_value (v := .bool true) (W' := W) rfl rfl ?_ (hK _ _ (LKeep.refl _ _ _) rfl)
        go_simp
      | 19, hoi, hom =>
        have l18 := haft _ rfl { on := 18, ground := .guard } (by simp) rfl
        have hv18 : vs 18 = .bool true := hpv 18 l18
        have s18 : ao.tmps[113]?.getD undef = vs 18 := hU.slot 18 (by decide) l18
        rw [hv18] at s18
        have z15 : ao.tmps[15]?.getD undef = .int .i64 0 := hU.same 15 (by decide)
        refine wpOp_wanted (v := .int .i64 0) (W' := W) rfl ?_ ?_ (hK _ _ (LKeep.refl _ _ _) rfl)
        · refine wanted_yes (j := 18) (d := 113) ?_ ?_ s18 <;> rfl
        go_simp
      | 20, hoi, hom =>
        have l18 := haft _ rfl { on := 18, ground := .guard } (by simp) rfl
        have hv18 : vs 18 = .bool true := hpv 18 l18
        have s18 : ao.tmps[113]?.getD undef = vs 18 := hU.slot 18 (by decide) l18
        rw [hv18] at s18
        have l19 := haft _ rfl { on := 19, ground := .data } (by simp) rfl
        have hv19 : vs 19 = .int .i64 0 := hpv 19 l19
        have s19 : ao.tmps[114]?.getD undef = vs 19 := hU.slot 19 (by decide) l19
        rw [hv19] at s19
        refine wpOp_wanted (v := .bool true) (W' := W) rfl ?_ ?_ (hK _ _ (LKeep.refl _ _ _) rfl)
        · refine wanted_yes (j := 18) (d := 113) ?_ ?_ s18 <;> rfl
        go_simp
      | 21, hoi, hom =>
        have l18 := haft _ rfl { on := 18, ground := .data } (by simp) rfl
        have hv18 : vs 18 = .bool true := hpv 18 l18
        have s18 : ao.tmps[113]?.getD undef = vs 18 := hU.slot 18 (by decide) l18
        rw [hv18] at s18
        have l20 := haft _ rfl { on := 20, ground := .data } (by simp) rfl
        have hv20 : vs 20 = .bool true := hpv 20 l20
        have s20 : ao.tmps[115]?.getD undef = vs 20 := hU.slot 20 (by decide) l20
        rw [hv20] at s20
        refine wpOp_value (v := .bool true) (W' := W) rfl rfl ?_ (hK _ _ (LKeep.refl _ _ _) rfl)
        go_simp
      | 22, hoi, hom =>
        have l21 := haft _ rfl { on := 21, ground := .data } (by simp) rfl
        have hv21 : vs 21 = .bool true := hpv 21 l21
        have s21 : ao.tmps[116]?.getD undef = vs 21 := hU.slot 21 (by decide) l21
        rw [hv21] at s21
        refine wpOp_value (v := .bool true) (W' := W) rfl rfl ?_ (hK _ _ (LKeep.refl _ _ _) rfl)
        go_simp
      | 23, hoi, hom =>
        have l22 := haft _ rfl { on := 22, ground := .guard } (by simp) rfl
        have hv22 : vs 22 = .bool true := hpv 22 l22
        have s22 : ao.tmps[117]?.getD undef = vs 22 := hU.slot 22 (by decide) l22
        rw [hv22] at s22
        have z17 : ao.tmps[17]?.getD undef = .int .i64 0 := hU.same 17 (by decide)
        refine wpOp_wanted (v := .int .i64 0) (W' := W) rfl ?_ ?_ (hK _ _ (LKeep.refl _ _ _) rfl)
        · refine wanted_yes (j := 22) (d := 117) ?_ ?_ s22 <;> rfl
        go_simp
      | 24, hoi, hom =>
        have l22 := haft _ rfl { on := 22, ground := .guard } (by simp) rfl
        have hv22 : vs 22 = .bool true := hpv 22 l22
        have s22 : ao.tmps[117]?.getD undef = vs 22 := hU.slot 22 (by decide) l22
        rw [hv22] at s22
        have l23 := haft _ rfl { on := 23, ground := .data } (by simp) rfl
        have hv23 : vs 23 = .int .i64 0 := hpv 23 l23
        have s23 : ao.tmps[118]?.getD undef = vs 23 := hU.slot 23 (by decide) l23
        rw [hv23] at s23
        refine wpOp_wanted (v := .bool true) (W' := W) rfl ?_ ?_ (hK _ _ (LKeep.refl _ _ _) rfl)
        · refine wanted_yes (j := 22) (d := 117) ?_ ?_ s22 <;> rfl
        go_simp
      | 25, hoi, hom =>
        have l22 := haft _ rfl { on := 22, ground := .data } (by simp) rfl
        have hv22 : vs 22 = .bool true := hpv 22 l22
        have s22 : ao.tmps[117]?.getD undef = vs 22 := hU.slot 22 (by decide) l22
        rw [hv22] at s22
        have l24 := haft _ rfl { on := 24, ground := .data } (by simp) rfl
        have hv24 : vs 24 = .bool true := hpv 24 l24
        have s24 : ao.tmps[119]?.getD undef = vs 24 := hU.slot 24 (by decide) l24
        rw [hv24] at s24
        refine wpOp_value (v := .bool true) (W' := W) rfl rfl ?_ (hK _ _ (LKeep.refl _ _ _) rfl)
        go_simp
      | 26, hoi, hom =>
        have l25 := haft _ rfl { on := 25, ground := .data } (by simp) rfl
        have hv25 : vs 25 = .bool true := hpv 25 l25
        have s25 : ao.tmps[120]?.getD undef = vs 25 := hU.slot 25 (by decide) l25
        rw [hv25] at s25
        refine wpOp_value (v := .bool true) (W' := W) rfl rfl ?_ (hK _ _ (LKeep.refl _ _ _) rfl)
        go_simp
      | 27, hoi, hom =>
        have l26 := haft _ rfl { on := 26, ground := .guard } (by simp) rfl
        have hv26 : vs 26 = .bool true := hpv 26 l26
        have s26 : ao.tmps[121]?.getD undef = vs 26 := hU.slot 26 (by decide) l26
        rw [hv26] at s26
        have z19 : ao.tmps[19]?.getD undef = .int .i64 0 := hU.same 19 (by decide)
        refine wpOp_wanted (v := .int .i64 0) (W' := W) rfl ?_ ?_ (hK _ _ (LKeep.refl _ _ _) rfl)
        · refine wanted_yes (j := 26) (d := 121) ?_ ?_ s26 <;> rfl
        go_simp
      | 28, hoi, hom =>
        have l26 := haft _ rfl { on := 26, ground := .guard } (by simp) rfl
        have hv26 : vs 26 = .bool true := hpv 26 l26
        have s26 : ao.tmps[121]?.getD undef = vs 26 := hU.slot 26 (by decide) l26
        rw [hv26] at s26
        have l27 := haft _ rfl { on := 27, ground := .data } (by simp) rfl
        have hv27 : vs 27 = .int .i64 0 := hpv 27 l27
        have s27 : ao.tmps[122]?.getD undef = vs 27 := hU.slot 27 (by decide) l27
        rw [hv27] at s27
        refine wpOp_wanted (v := .bool true) (W' := W) rfl ?_ ?_ (hK _ _ (LKeep.refl _ _ _) rfl)
        · refine wanted_yes (j := 26) (d := 121) ?_ ?_ s26 <;> rfl
        go_simp
      | 29, hoi, hom =>
        have l26 := haft _ rfl { on := 26, ground := .data } (by simp) rfl
        have hv26 : vs 26 = .bool true := hpv 26 l26
        have s26 : ao.tmps[121]?.getD undef = vs 26 := hU.slot 26 (by decide) l26
        rw [hv26] at s26
        have l28 := haft _ rfl { on := 28, ground := .data } (by simp) rfl
        have hv28 : vs 28 = .bool true := hpv 28 l28
        have s28 : ao.tmps[123]?.getD undef = vs 28 := hU.slot 28 (by decide) l28
        rw [hv28] at s28
        refine wpOp_value (v := .bool true) (W' := W) rfl rfl ?_ (hK _ _ (LKeep.refl _ _ _) rfl)
        go_simp
      | 30, hoi, hom =>
        have l29 := haft _ rfl { on := 29, ground := .data } (by simp) rfl
        have hv29 : vs 29 = .bool true := hpv 29 l29
        have s29 : ao.tmps[124]?.getD undef = vs 29 := hU.slot 29 (by decide) l29
        rw [hv29] at s29
        refine wpOp_value (v := .bool true) (W' := W) rfl rfl ?_ (hK _ _ (LKeep.refl _ _ _) rfl)
        go_simp
      | 31, hoi, hom =>
        have l30 := haft _ rfl { on := 30, ground := .guard } (by simp) rfl
        have hv30 : vs 30 = .bool true := hpv 30 l30
        have s30 : ao.tmps[125]?.getD undef = vs 30 := hU.slot 30 (by decide) l30
        rw [hv30] at s30
        have z22 : ao.tmps[22]?.getD undef = .int .i64 0 := hU.same 22 (by decide)
        refine wpOp_wanted (v := .int .i64 0) (W' := W) rfl ?_ ?_ (hK _ _ (LKeep.refl _ _ _) rfl)
        · refine wanted_yes (j := 30) (d := 125) ?_ ?_ s30 <;> rfl
        go_simp
      | 32, hoi, hom =>
        have l30 := haft _ rfl { on := 30, ground := .guard } (by simp) rfl
        have hv30 : vs 30 = .bool true := hpv 30 l30
        have s30 : ao.tmps[125]?.getD undef = vs 30 := hU.slot 30 (by decide) l30
        rw [hv30] at s30
        have l31 := haft _ rfl { on := 31, ground := .data } (by simp) rfl
        have hv31 : vs 31 = .int .i64 0 := hpv 31 l31
        have s31 : ao.tmps[126]?.getD undef = vs 31 := hU.slot 31 (by decide) l31
        rw [hv31] at s31
        refine wpOp_wanted (v := .bool true) (W' := W) rfl ?_ ?_ (hK _ _ (LKeep.refl _ _ _) rfl)
        · refine wanted_yes (j := 30) (d := 125) ?_ ?_ s30 <;> rfl
        go_simp
      | 33, hoi, hom =>
        have l30 := haft _ rfl { on := 30, ground := .data } (by simp) rfl
        have hv30 : vs 30 = .bool true := hpv 30 l30
        have s30 : ao.tmps[125]?.getD undef = vs 30 := hU.slot 30 (by decide) l30
        rw [hv30] at s30
        have l32 := haft _ rfl { on := 32, ground := .data } (by simp) rfl
        have hv32 : vs 32 = .bool true := hpv 32 l32
        have s32 : ao.tmps[127]?.getD undef = vs 32 := hU.slot 32 (by decide) l32
        rw [hv32] at s32
        refine wpOp_value (v := .bool true) (W' := W) rfl rfl ?_ (hK _ _ (LKeep.refl _ _ _) rfl)
        go_simp
      | 34, hoi, hom =>
        have l33 := haft _ rfl { on := 33, ground := .data } (by simp) rfl
        have hv33 : vs 33 = .bool true := hpv 33 l33
        have s33 : ao.tmps[128]?.getD undef = vs 33 := hU.slot 33 (by decide) l33
        rw [hv33] at s33
        refine wpOp_value (v := .bool true) (W' := W) rfl rfl ?_ (hK _ _ (LKeep.refl _ _ _) rfl)
        go_simp
      | 35, hoi, hom =>
        have l34 := haft _ rfl { on := 34, ground := .guard } (by simp) rfl
        have hv34 : vs 34 = .bool true := hpv 34 l34
        have s34 : ao.tmps[129]?.getD undef = vs 34 := hU.slot 34 (by decide) l34
        rw [hv34] at s34
        have z25 : ao.tmps[25]?.getD undef = .int .i64 9 := hU.same 25 (by decide)
        refine wpOp_wanted (v := .int .i64 9) (W' := W) rfl ?_ ?_ (hK _ _ (LKeep.refl _ _ _) rfl)
        · refine wanted_yes (j := 34) (d := 129) ?_ ?_ s34 <;> rfl
        go_simp
      | 36, hoi, hom =>
        have l34 := haft _ rfl { on := 34, ground := .guard } (by simp) rfl
        have hv34 : vs 34 = .bool true := hpv 34 l34
        have s34 : ao.tmps[129]?.getD undef = vs 34 := hU.slot 34 (by decide) l34
        rw [hv34] at s34
        have l35 := haft _ rfl { on := 35, ground := .data } (by simp) rfl
        have hv35 : vs 35 = .int .i64 9 := hpv 35 l35
        have s35 : ao.tmps[130]?.getD undef = vs 35 := hU.slot 35 (by decide) l35
        rw [hv35] at s35
        refine wpOp_wanted (v := .bool true) (W' := W) rfl ?_ ?_ (hK _ _ (LKeep.refl _ _ _) rfl)
        · refine wanted_yes (j := 34) (d := 129) ?_ ?_ s34 <;> rfl
        go_simp
      | 37, hoi, hom =>
        have l34 := haft _ rfl { on := 34, ground := .data } (by simp) rfl
        have hv34 : vs 34 = .bool true := hpv 34 l34
        have s34 : ao.tmps[129]?.getD undef = vs 34 := hU.slot 34 (by decide) l34
        rw [hv34] at s34
        have l36 := haft _ rfl { on := 36, ground := .data } (by simp) rfl
        have hv36 : vs 36 = .bool true := hpv 36 l36
        have s36 : ao.tmps[131]?.getD undef = vs 36 := hU.slot 36 (by decide) l36
        rw [hv36] at s36
        refine wpOp_value (v := .bool true) (W' := W) rfl rfl ?_ (hK _ _ (LKeep.refl _ _ _) rfl)
        go_simp
      | 38, hoi, hom =>
        have l37 := haft _ rfl { on := 37, ground := .data } (by simp) rfl
        have hv37 : vs 37 = .bool true := hpv 37 l37
        have s37 : ao.tmps[132]?.getD undef = vs 37 := hU.slot 37 (by decide) l37
        rw [hv37] at s37
        refine wpOp_value (v := .bool true) (W' := W) rfl rfl ?_ (hK _ _ (LKeep.refl _ _ _) rfl)
        go_simp
      | 39, hoi, hom =>
        have l38 := haft _ rfl { on := 38, ground := .guard } (by simp) rfl
        have hv38 : vs 38 = .bool true := hpv 38 l38
        have s38 : ao.tmps[133]?.getD undef = vs 38 := hU.slot 38 (by decide) l38
        rw [hv38] at s38
        have z27 : ao.tmps[27]?.getD undef = .int .i64 0 := hU.same 27 (by decide)
        refine wpOp_wanted (v := .int .i64 0) (W' := W) rfl ?_ ?_ (hK _ _ (LKeep.refl _ _ _) rfl)
        · refine wanted_yes (j := 38) (d := 133) ?_ ?_ s38 <;> rfl
        go_simp
      | 40, hoi, hom =>
        have l38 := haft _ rfl { on := 38, ground := .guard } (by simp) rfl
        have hv38 : vs 38 = .bool true := hpv 38 l38
        have s38 : ao.tmps[133]?.getD undef = vs 38 := hU.slot 38 (by decide) l38
        rw [hv38] at s38
        have l39 := haft _ rfl { on := 39, ground := .data } (by simp) rfl
        have hv39 : vs 39 = .int .i64 0 := hpv 39 l39
        have s39 : ao.tmps[134]?.getD undef = vs 39 := hU.slot 39 (by decide) l39
        rw [hv39] at s39
        refine wpOp_wanted (v := .bool true) (W' := W) rfl ?_ ?_ (hK _ _ (LKeep.refl _ _ _) rfl)
        · refine wanted_yes (j := 38) (d := 133) ?_ ?_ s38 <;> rfl
        go_simp
      | 41, hoi, hom =>
        have l38 := haft _ rfl { on := 38, ground := .data } (by simp) rfl
        have hv38 : vs 38 = .bool true := hpv 38 l38
        have s38 : ao.tmps[133]?.getD undef = vs 38 := hU.slot 38 (by decide) l38
        rw [hv38] at s38
        have l40 := haft _ rfl { on := 40, ground := .data } (by simp) rfl
        have hv40 : vs 40 = .bool true := hpv 40 l40
        have s40 : ao.tmps[135]?.getD undef = vs 40 := hU.slot 40 (by decide) l40
        rw [hv40] at s40
        refine wpOp_value (v := .bool true) (W' := W) rfl rfl ?_ (hK _ _ (LKeep.refl _ _ _) rfl)
        go_simp
      | 42, hoi, hom =>
        have l41 := haft _ rfl { on := 41, ground := .data } (by simp) rfl
        have hv41 : vs 41 = .bool true := hpv 41 l41
        have s41 : ao.tmps[136]?.getD undef = vs 41 := hU.slot 41 (by decide) l41
        rw [hv41] at s41
        refine wpOp_value (v := .bool true) (W' := W) rfl rfl ?_ (hK _ _ (LKeep.refl _ _ _) rfl)
        go_simp
      | 43, hoi, hom =>
        have l42 := haft _ rfl { on := 42, ground := .guard } (by simp) rfl
        have hv42 : vs 42 = .bool true := hpv 42 l42
        have s42 : ao.tmps[137]?.getD undef = vs 42 := hU.slot 42 (by decide) l42
        rw [hv42] at s42
        have z29 : ao.tmps[29]?.getD undef = .int .i64 8 := hU.same 29 (by decide)
        refine wpOp_wanted (v := .int .i64 8) (W' := W) rfl ?_ ?_ (hK _ _ (LKeep.refl _ _ _) rfl)
        · refine wanted_yes (j := 42) (d := 137) ?_ ?_ s42 <;> rfl
        go_simp
      | 44, hoi, hom =>
        have l42 := haft _ rfl { on := 42, ground := .guard } (by simp) rfl
        have hv42 : vs 42 = .bool true := hpv 42 l42
        have s42 : ao.tmps[137]?.getD undef = vs 42 := hU.slot 42 (by decide) l42
        rw [hv42] at s42
        have l43 := haft _ rfl { on := 43, ground := .data } (by simp) rfl
        have hv43 : vs 43 = .int .i64 8 := hpv 43 l43
        have s43 : ao.tmps[138]?.getD undef = vs 43 := hU.slot 43 (by decide) l43
        rw [hv43] at s43
        refine wpOp_wanted (v := .bool true) (W' := W) rfl ?_ ?_ (hK _ _ (LKeep.refl _ _ _) rfl)
        · refine wanted_yes (j := 42) (d := 137) ?_ ?_ s42 <;> rfl
        go_simp
      | 45, hoi, hom =>
        have l42 := haft _ rfl { on := 42, ground := .data } (by simp) rfl
        have hv42 : vs 42 = .bool true := hpv 42 l42
        have s42 : ao.tmps[137]?.getD undef = vs 42 := hU.slot 42 (by decide) l42
        rw [hv42] at s42
        have l44 := haft _ rfl { on := 44, ground := .data } (by simp) rfl
        have hv44 : vs 44 = .bool true := hpv 44 l44
        have s44 : ao.tmps[139]?.getD undef = vs 44 := hU.slot 44 (by decide) l44
        rw [hv44] at s44
        refine wpOp_value (v := .bool true) (W' := W) rfl rfl ?_ (hK _ _ (LKeep.refl _ _ _) rfl)
        go_simp
      | 46, hoi, hom =>
        have l45 := haft _ rfl { on := 45, ground := .data } (by simp) rfl
        have hv45 : vs 45 = .bool true := hpv 45 l45
        have s45 : ao.tmps[140]?.getD undef = vs 45 := hU.slot 45 (by decide) l45
        rw [hv45] at s45
        refine wpOp_value (v := .bool true) (W' := W) rfl rfl ?_ (hK _ _ (LKeep.refl _ _ _) rfl)
        go_simp
      | 47, hoi, hom =>
        have l46 := haft _ rfl { on := 46, ground := .guard } (by simp) rfl
        have hv46 : vs 46 = .bool true := hpv 46 l46
        have s46 : ao.tmps[141]?.getD undef = vs 46 := hU.slot 46 (by decide) l46
        rw [hv46] at s46
        have z4 : ao.tmps[4]?.getD undef = .slice A1 2 q1 := hU.same 4 (by decide)
        refine wpOp_wanted (v := .slice A1 2 q1) (W' := W) rfl ?_ ?_ (hK _ _ (LKeep.refl _ _ _) rfl)
        · refine wanted_yes (j := 46) (d := 141) ?_ ?_ s46 <;> rfl
        go_simp
      | 48, hoi, hom =>
        have l46 := haft _ rfl { on := 46, ground := .guard } (by simp) rfl
        have hv46 : vs 46 = .bool true := hpv 46 l46
        have s46 : ao.tmps[141]?.getD undef = vs 46 := hU.slot 46 (by decide) l46
        rw [hv46] at s46
        refine wpOp_wanted (v := .slice (some ⟨W.heap.size, 0, none⟩) 2 2) (W' := (W.alloc (.cells #[.int .i64 2, .int .i64 3] 3))) rfl ?_ ?_ (hK _ _ (LKeep.below ((Below.refl _ _).alloc (Nat.le_refl _) _) (fun h => h)) ⟨_, _, rfl, (IntsS.lit2 rfl 2 3).more (by simp)⟩)
        · refine wanted_yes (j := 46) (d := 141) ?_ ?_ s46 <;> rfl
        go_simp
      | 49, hoi, hom =>
        have l46 := haft _ rfl { on := 46, ground := .guard } (by simp) rfl
        have hv46 : vs 46 = .bool true := hpv 46 l46
        have s46 : ao.tmps[141]?.getD undef = vs 46 := hU.slot 46 (by decide) l46
        rw [hv46] at s46
        have l47 := haft _ rfl { on := 47, ground := .data } (by simp) rfl
        have hv47 : vs 47 = .slice A1 2 q1 := hpv 47 l47
        have s47 : ao.tmps[142]?.getD undef = vs 47 := hU.slot 47 (by decide) l47
        rw [hv47] at s47
        have l48 := haft _ rfl { on := 48, ground := .data } (by simp) rfl
        obtain ⟨gl48, cp48, hv48, hi48⟩ := hpv 48 l48
        have s48 : ao.tmps[143]?.getD undef = vs 48 := hU.slot 48 (by decide) l48
        rw [hv48] at s48
        refine wpOp_enterW (f := 12) (args := #[.slice A1 2 q1, .slice gl48 2 cp48]) (W' := W) rfl ?_ ?_ (((ints_any (I1.out.next (hk.below (B := y12.heap.size) (fun k h => h.elim) (Nat.le_refl _))) hi48).mono (fun e w h => by rw [show intsB [2, 3] [2, 3] = true from by decide] at h; exact h)).mono (fun e w'' h => ?_))
        · refine wanted_yes (j := 46) (d := 141) ?_ ?_ s46 <;> rfl
        · go_simp
        · obtain ⟨he, hd⟩ := h
          exact ⟨_, he, hK _ _ (LKeep.below (hd.below _) (fun h => h)) rfl⟩
      | 50, hoi, hom =>
        have l46 := haft _ rfl { on := 46, ground := .data } (by simp) rfl
        have hv46 : vs 46 = .bool true := hpv 46 l46
        have s46 : ao.tmps[141]?.getD undef = vs 46 := hU.slot 46 (by decide) l46
        rw [hv46] at s46
        have l49 := haft _ rfl { on := 49, ground := .data } (by simp) rfl
        have hv49 : vs 49 = .bool true := hpv 49 l49
        have s49 : ao.tmps[144]?.getD undef = vs 49 := hU.slot 49 (by decide) l49
        rw [hv49] at s49
        refine wpOp_value (v := .bool true) (W' := W) rfl rfl ?_ (hK _ _ (LKeep.refl _ _ _) rfl)
        go_simp
      | 51, hoi, hom =>
        have l50 := haft _ rfl { on := 50, ground := .data } (by simp) rfl
        have hv50 : vs 50 = .bool true := hpv 50 l50
        have s50 : ao.tmps[145]?.getD undef = vs 50 := hU.slot 50 (by decide) l50
        rw [hv50] at s50
        refine wpOp_value (v := .bool true) (W' := W) rfl rfl ?_ (hK _ _ (LKeep.refl _ _ _) rfl)
        go_simp
      | 52, hoi, hom =>
        have l51 := haft _ rfl { on := 51, ground := .guard } (by simp) rfl
        have hv51 : vs 51 = .bool true := hpv 51 l51
        have s51 : ao.tmps[146]?.getD undef = vs 51 := hU.slot 51 (by decide) l51
        rw [hv51] at s51
        have z6 : ao.tmps[6]?.getD undef = .int .i64 2 := hU.same 6 (by decide)
        refine wpOp_wanted (v := .int .i64 2) (W' := W) rfl ?_ ?_ (hK _ _ (LKeep.refl _ _ _) rfl)
        · refine wanted_yes (j := 51) (d := 146) ?_ ?_ s51 <;> rfl
        go_simp
      | 53, hoi, hom =>
        have l51 := haft _ rfl { on := 51, ground := .guard } (by simp) rfl
        have hv51 : vs 51 = .bool true := hpv 51 l51
        have s51 : ao.tmps[146]?.getD undef = vs 51 := hU.slot 51 (by decide) l51
        rw [hv51] at s51
        have l52 := haft _ rfl { on := 52, ground := .data } (by simp) rfl
        have hv52 : vs 52 = .int .i64 2 := hpv 52 l52
        have s52 : ao.tmps[147]?.getD undef = vs 52 := hU.slot 52 (by decide) l52
        rw [hv52] at s52
        refine wpOp_wanted (v := .bool true) (W' := W) rfl ?_ ?_ (hK _ _ (LKeep.refl _ _ _) rfl)
        · refine wanted_yes (j := 51) (d := 146) ?_ ?_ s51 <;> rfl
        go_simp
      | 54, hoi, hom =>
        have l51 := haft _ rfl { on := 51, ground := .data } (by simp) rfl
        have hv51 : vs 51 = .bool true := hpv 51 l51
        have s51 : ao.tmps[146]?.getD undef = vs 51 := hU.slot 51 (by decide) l51
        rw [hv51] at s51
        have l53 := haft _ rfl { on := 53, ground := .data } (by simp) rfl
        have hv53 : vs 53 = .bool true := hpv 53 l53
        have s53 : ao.tmps[148]?.getD undef = vs 53 := hU.slot 53 (by decide) l53
        rw [hv53] at s53
        refine wpOp_value (v := .bool true) (W' := W) rfl rfl ?_ (hK _ _ (LKeep.refl _ _ _) rfl)
        go_simp
      | 55, hoi, hom =>
        have l54 := haft _ rfl { on := 54, ground := .data } (by simp) rfl
        have hv54 : vs 54 = .bool true := hpv 54 l54
        have s54 : ao.tmps[149]?.getD undef = vs 54 := hU.slot 54 (by decide) l54
        rw [hv54] at s54
        refine wpOp_value (v := .bool true) (W' := W) rfl rfl ?_ (hK _ _ (LKeep.refl _ _ _) rfl)
        go_simp
      | 56, hoi, hom =>
        have l55 := haft _ rfl { on := 55, ground := .guard } (by simp) rfl
        have hv55 : vs 55 = .bool true := hpv 55 l55
        have s55 : ao.tmps[150]?.getD undef = vs 55 := hU.slot 55 (by decide) l55
        rw [hv55] at s55
        have z8 : ao.tmps[8]?.getD undef = .int .i64 0 := hU.same 8 (by decide)
        refine wpOp_wanted (v := .int .i64 0) (W' := W) rfl ?_ ?_ (hK _ _ (LKeep.refl _ _ _) rfl)
        · refine wanted_yes (j := 55) (d := 150) ?_ ?_ s55 <;> rfl
        go_simp
      | 57, hoi, hom =>
        have l55 := haft _ rfl { on := 55, ground := .guard } (by simp) rfl
        have hv55 : vs 55 = .bool true := hpv 55 l55
        have s55 : ao.tmps[150]?.getD undef = vs 55 := hU.slot 55 (by decide) l55
        rw [hv55] at s55
        have l56 := haft _ rfl { on := 56, ground := .data } (by simp) rfl
        have hv56 : vs 56 = .int .i64 0 := hpv 56 l56
        have s56 : ao.tmps[151]?.getD undef = vs 56 := hU.slot 56 (by decide) l56
        rw [hv56] at s56
        refine wpOp_wanted (v := .bool true) (W' := W) rfl ?_ ?_ (hK _ _ (LKeep.refl _ _ _) rfl)
        · refine wanted_yes (j := 55) (d := 150) ?_ ?_ s55 <;> rfl
        go_simp
      | 58, hoi, hom =>
        have l55 := haft _ rfl { on := 55, ground := .data } (by simp) rfl
        have hv55 : vs 55 = .bool true := hpv 55 l55
        have s55 : ao.tmps[150]?.getD undef = vs 55 := hU.slot 55 (by decide) l55
        rw [hv55] at s55
        have l57 := haft _ rfl { on := 57, ground := .data } (by simp) rfl
        have hv57 : vs 57 = .bool true := hpv 57 l57
        have s57 : ao.tmps[152]?.getD undef = vs 57 := hU.slot 57 (by decide) l57
        rw [hv57] at s57
        refine wpOp_value (v := .bool true) (W' := W) rfl rfl ?_ (hK _ _ (LKeep.refl _ _ _) rfl)
        go_simp
      | 59, hoi, hom =>
        have l58 := haft _ rfl { on := 58, ground := .data } (by simp) rfl
        have hv58 : vs 58 = .bool true := hpv 58 l58
        have s58 : ao.tmps[153]?.getD undef = vs 58 := hU.slot 58 (by decide) l58
        rw [hv58] at s58
        refine wpOp_value (v := .bool true) (W' := W) rfl rfl ?_ (hK _ _ (LKeep.refl _ _ _) rfl)
        go_simp
      | 60, hoi, hom =>
        have l59 := haft _ rfl { on := 59, ground := .guard } (by simp) rfl
        have hv59 : vs 59 = .bool true := hpv 59 l59
        have s59 : ao.tmps[154]?.getD undef = vs 59 := hU.slot 59 (by decide) l59
        rw [hv59] at s59
        have z10 : ao.tmps[10]?.getD undef = .int .i64 1 := hU.same 10 (by decide)
        refine wpOp_wanted (v := .int .i64 1) (W' := W) rfl ?_ ?_ (hK _ _ (LKeep.refl _ _ _) rfl)
        · refine wanted_yes (j := 59) (d := 154) ?_ ?_ s59 <;> rfl
        go_simp
      | 61, hoi, hom =>
        have l59 := haft _ rfl { on := 59, ground := .guard } (by simp) rfl
        have hv59 : vs 59 = .bool true := hpv 59 l59
        have s59 : ao.tmps[154]?.getD undef = vs 59 := hU.slot 59 (by decide) l59
        rw [hv59] at s59
        have l60 := haft _ rfl { on := 60, ground := .data } (by simp) rfl
        have hv60 : vs 60 = .int .i64 1 := hpv 60 l60
        have s60 : ao.tmps[155]?.getD undef = vs 60 := hU.slot 60 (by decide) l60
        rw [hv60] at s60
        refine wpOp_wanted (v := .bool true) (W' := W) rfl ?_ ?_ (hK _ _ (LKeep.refl _ _ _) rfl)
        · refine wanted_yes (j := 59) (d := 154) ?_ ?_ s59 <;> rfl
        go_simp
      | 62, hoi, hom =>
        have l59 := haft _ rfl { on := 59, ground := .data } (by simp) rfl
        have hv59 : vs 59 = .bool true := hpv 59 l59
        have s59 : ao.tmps[154]?.getD undef = vs 59 := hU.slot 59 (by decide) l59
        rw [hv59] at s59
        have l61 := haft _ rfl { on := 61, ground := .data } (by simp) rfl
        have hv61 : vs 61 = .bool true := hpv 61 l61
        have s61 : ao.tmps[156]?.getD undef = vs 61 := hU.slot 61 (by decide) l61
        rw [hv61] at s61
        refine wpOp_value (v := .bool true) (W' := W) rfl rfl ?_ (hK _ _ (LKeep.refl _ _ _) rfl)
        go_simp
      | 63, hoi, hom =>
        have l62 := haft _ rfl { on := 62, ground := .data } (by simp) rfl
        have hv62 : vs 62 = .bool true := hpv 62 l62
        have s62 : ao.tmps[157]?.getD undef = vs 62 := hU.slot 62 (by decide) l62
        rw [hv62] at s62
        refine wpOp_value (v := .bool true) (W' := W) rfl rfl ?_ (hK _ _ (LKeep.refl _ _ _) rfl)
        go_simp
      | 64, hoi, hom =>
        have l63 := haft _ rfl { on := 63, ground := .guard } (by simp) rfl
        have hv63 : vs 63 = .bool true := hpv 63 l63
        have s63 : ao.tmps[158]?.getD undef = vs 63 := hU.slot 63 (by decide) l63
        rw [hv63] at s63
        have z12 : ao.tmps[12]?.getD undef = .slice A5 3 q5 := hU.same 12 (by decide)
        refine wpOp_wanted (v := .slice A5 3 q5) (W' := W) rfl ?_ ?_ (hK _ _ (LKeep.refl _ _ _) rfl)
        · refine wanted_yes (j := 63) (d := 158) ?_ ?_ s63 <;> rfl
        go_simp
      | 65, hoi, hom =>
        have l63 := haft _ rfl { on := 63, ground := .guard } (by simp) rfl
        have hv63 : vs 63 = .bool true := hpv 63 l63
        have s63 : ao.tmps[158]?.getD undef = vs 63 := hU.slot 63 (by decide) l63
        rw [hv63] at s63
        refine wpOp_wanted (v := .slice (some ⟨W.heap.size, 0, none⟩) 3 3) (W' := (W.alloc (.cells #[.int .i64 1, .int .i64 3, .int .i64 4] 3))) rfl ?_ ?_ (hK _ _ (LKeep.below ((Below.refl _ _).alloc (Nat.le_refl _) _) (fun h => h)) ⟨_, _, rfl, (IntsS.lit3 rfl 1 3 4).more (by simp)⟩)
        · refine wanted_yes (j := 63) (d := 158) ?_ ?_ s63 <;> rfl
        go_simp
      | 66, hoi, hom =>
        have l63 := haft _ rfl { on := 63, ground := .guard } (by simp) rfl
        have hv63 : vs 63 = .bool true := hpv 63 l63
        have s63 : ao.tmps[158]?.getD undef = vs 63 := hU.slot 63 (by decide) l63
        rw [hv63] at s63
        have l64 := haft _ rfl { on := 64, ground := .data } (by simp) rfl
        have hv64 : vs 64 = .slice A5 3 q5 := hpv 64 l64
        have s64 : ao.tmps[159]?.getD undef = vs 64 := hU.slot 64 (by decide) l64
        rw [hv64] at s64
        have l65 := haft _ rfl { on := 65, ground := .data } (by simp) rfl
        obtain ⟨gl65, cp65, hv65, hi65⟩ := hpv 65 l65
        have s65 : ao.tmps[160]?.getD undef = vs 65 := hU.slot 65 (by decide) l65
        rw [hv65] at s65
        refine wpOp_enterW (f := 12) (args := #[.slice A5 3 q5, .slice gl65 3 cp65]) (W' := W) rfl ?_ ?_ (((ints_any (I5.out.next (hk.below (B := y12.heap.size) (fun k h => h.elim) (Nat.le_refl _))) hi65).mono (fun e w h => by rw [show intsB [1, 3, 4] [1, 3, 4] = true from by decide] at h; exact h)).mono (fun e w'' h => ?_))
        · refine wanted_yes (j := 63) (d := 158) ?_ ?_ s63 <;> rfl
        · go_simp
        · obtain ⟨he, hd⟩ := h
          exact ⟨_, he, hK _ _ (LKeep.below (hd.below _) (fun h => h)) rfl⟩
      | 67, hoi, hom =>
        have l63 := haft _ rfl { on := 63, ground := .data } (by simp) rfl
        have hv63 : vs 63 = .bool true := hpv 63 l63
        have s63 : ao.tmps[158]?.getD undef = vs 63 := hU.slot 63 (by decide) l63
        rw [hv63] at s63
        have l66 := haft _ rfl { on := 66, ground := .data } (by simp) rfl
        have hv66 : vs 66 = .bool true := hpv 66 l66
        have s66 : ao.tmps[161]?.getD undef = vs 66 := hU.slot 66 (by decide) l66
        rw [hv66] at s66
        refine wpOp_value (v := .bool true) (W' := W) rfl rfl ?_ (hK _ _ (LKeep.refl _ _ _) rfl)
        go_simp
      | 68, hoi, hom =>
        have l67 := haft _ rfl { on := 67, ground := .data } (by simp) rfl
        have hv67 : vs 67 = .bool true := hpv 67 l67
        have s67 : ao.tmps[162]?.getD undef = vs 67 := hU.slot 67 (by decide) l67
        rw [hv67] at s67
        refine wpOp_value (v := .bool true) (W' := W) rfl rfl ?_ (hK _ _ (LKeep.refl _ _ _) rfl)
        go_simp
      | 69, hoi, hom =>
        have l68 := haft _ rfl { on := 68, ground := .guard } (by simp) rfl
        have hv68 : vs 68 = .bool true := hpv 68 l68
        have s68 : ao.tmps[163]?.getD undef = vs 68 := hU.slot 68 (by decide) l68
        rw [hv68] at s68
        have z14 : ao.tmps[14]?.getD undef = .pointer (some ⟨y6.heap.size, 0, none⟩) := hU.same 14 (by decide)
        have y0 := (hk.cell (b := y6.heap.size) (o := 0) (zS6) (fun h => h)).trans (dS6)
        have y1 := (hk.cell (b := y6.heap.size) (o := 1) (zS6) (fun h => h)).trans (eS6)
        refine wpOp_wanted (v := .agg #[.int .i64 0, .int .i64 65]) (W' := W) rfl ?_ ?_ (hK _ _ (LKeep.refl _ _ _) rfl)
        · refine wanted_yes (j := 68) (d := 163) ?_ ?_ s68 <;> rfl
        go_simp
      | 70, hoi, hom =>
        have l68 := haft _ rfl { on := 68, ground := .guard } (by simp) rfl
        have hv68 : vs 68 = .bool true := hpv 68 l68
        have s68 : ao.tmps[163]?.getD undef = vs 68 := hU.slot 68 (by decide) l68
        rw [hv68] at s68
        refine wpOp_enterW (f := 21) (args := #[.int .i64 0, .int .i64 65]) (W' := W) rfl ?_ ?_ ((span_any 0 65 W).mono (fun e w'' h => ?_))
        · refine wanted_yes (j := 68) (d := 163) ?_ ?_ s68 <;> rfl
        · go_simp
        · obtain ⟨he, hbw⟩ := h
          exact ⟨_, he, hK _ _ (LKeep.below hbw (fun h => h)) rfl⟩
      | 71, hoi, hom =>
        have l68 := haft _ rfl { on := 68, ground := .guard } (by simp) rfl
        have hv68 : vs 68 = .bool true := hpv 68 l68
        have s68 : ao.tmps[163]?.getD undef = vs 68 := hU.slot 68 (by decide) l68
        rw [hv68] at s68
        have l69 := haft _ rfl { on := 69, ground := .data } (by simp) rfl
        have hv69 : vs 69 = .agg #[.int .i64 0, .int .i64 65] := hpv 69 l69
        have s69 : ao.tmps[164]?.getD undef = vs 69 := hU.slot 69 (by decide) l69
        rw [hv69] at s69
        have l70 := haft _ rfl { on := 70, ground := .data } (by simp) rfl
        have hv70 : vs 70 = .agg #[.int .i64 0, .int .i64 65] := hpv 70 l70
        have s70 : ao.tmps[165]?.getD undef = vs 70 := hU.slot 70 (by decide) l70
        rw [hv70] at s70
        refine wpOp_wanted (v := .bool true) (W' := W) rfl ?_ ?_ (hK _ _ (LKeep.refl _ _ _) rfl)
        · refine wanted_yes (j := 68) (d := 163) ?_ ?_ s68 <;> rfl
        go_simp
      | 72, hoi, hom =>
        have l68 := haft _ rfl { on := 68, ground := .data } (by simp) rfl
        have hv68 : vs 68 = .bool true := hpv 68 l68
        have s68 : ao.tmps[163]?.getD undef = vs 68 := hU.slot 68 (by decide) l68
        rw [hv68] at s68
        have l71 := haft _ rfl { on := 71, ground := .data } (by simp) rfl
        have hv71 : vs 71 = .bool true := hpv 71 l71
        have s71 : ao.tmps[166]?.getD undef = vs 71 := hU.slot 71 (by decide) l71
        rw [hv71] at s71
        refine wpOp_value (v := .bool true) (W' := W) rfl rfl ?_ (hK _ _ (LKeep.refl _ _ _) rfl)
        go_simp
      | 73, hoi, hom =>
        have l72 := haft _ rfl { on := 72, ground := .data } (by simp) rfl
        have hv72 : vs 72 = .bool true := hpv 72 l72
        have s72 : ao.tmps[167]?.getD undef = vs 72 := hU.slot 72 (by decide) l72
        rw [hv72] at s72
        refine wpOp_value (v := .bool true) (W' := W) rfl rfl ?_ (hK _ _ (LKeep.refl _ _ _) rfl)
        go_simp
      | 74, hoi, hom =>
        have l73 := haft _ rfl { on := 73, ground := .guard } (by simp) rfl
        have hv73 : vs 73 = .bool true := hpv 73 l73
        have s73 : ao.tmps[168]?.getD undef = vs 73 := hU.slot 73 (by decide) l73
        rw [hv73] at s73
        have z16 : ao.tmps[16]?.getD undef = .pointer (some ⟨y7.heap.size, 0, none⟩) := hU.same 16 (by decide)
        have y0 := (hk.cell (b := y7.heap.size) (o := 0) (zS7) (fun h => h)).trans (dS7)
        have y1 := (hk.cell (b := y7.heap.size) (o := 1) (zS7) (fun h => h)).trans (eS7)
        refine wpOp_wanted (v := .agg #[.int .i64 65, .int .i64 65]) (W' := W) rfl ?_ ?_ (hK _ _ (LKeep.refl _ _ _) rfl)
        · refine wanted_yes (j := 73) (d := 168) ?_ ?_ s73 <;> rfl
        go_simp
      | 75, hoi, hom =>
        have l73 := haft _ rfl { on := 73, ground := .guard } (by simp) rfl
        have hv73 : vs 73 = .bool true := hpv 73 l73
        have s73 : ao.tmps[168]?.getD undef = vs 73 := hU.slot 73 (by decide) l73
        rw [hv73] at s73
        refine wpOp_enterW (f := 21) (args := #[.int .i64 65, .int .i64 65]) (W' := W) rfl ?_ ?_ ((span_any 65 65 W).mono (fun e w'' h => ?_))
        · refine wanted_yes (j := 73) (d := 168) ?_ ?_ s73 <;> rfl
        · go_simp
        · obtain ⟨he, hbw⟩ := h
          exact ⟨_, he, hK _ _ (LKeep.below hbw (fun h => h)) rfl⟩
      | 76, hoi, hom =>
        have l73 := haft _ rfl { on := 73, ground := .guard } (by simp) rfl
        have hv73 : vs 73 = .bool true := hpv 73 l73
        have s73 : ao.tmps[168]?.getD undef = vs 73 := hU.slot 73 (by decide) l73
        rw [hv73] at s73
        have l74 := haft _ rfl { on := 74, ground := .data } (by simp) rfl
        have hv74 : vs 74 = .agg #[.int .i64 65, .int .i64 65] := hpv 74 l74
        have s74 : ao.tmps[169]?.getD undef = vs 74 := hU.slot 74 (by decide) l74
        rw [hv74] at s74
        have l75 := haft _ rfl { on := 75, ground := .data } (by simp) rfl
        have hv75 : vs 75 = .agg #[.int .i64 65, .int .i64 65] := hpv 75 l75
        have s75 : ao.tmps[170]?.getD undef = vs 75 := hU.slot 75 (by decide) l75
        rw [hv75] at s75
        refine wpOp_wanted (v := .bool true) (W' := W) rfl ?_ ?_ (hK _ _ (LKeep.refl _ _ _) rfl)
        · refine wanted_yes (j := 73) (d := 168) ?_ ?_ s73 <;> rfl
        go_simp
      | 77, hoi, hom =>
        have l73 := haft _ rfl { on := 73, ground := .data } (by simp) rfl
        have hv73 : vs 73 = .bool true := hpv 73 l73
        have s73 : ao.tmps[168]?.getD undef = vs 73 := hU.slot 73 (by decide) l73
        rw [hv73] at s73
        have l76 := haft _ rfl { on := 76, ground := .data } (by simp) rfl
        have hv76 : vs 76 = .bool true := hpv 76 l76
        have s76 : ao.tmps[171]?.getD undef = vs 76 := hU.slot 76 (by decide) l76
        rw [hv76] at s76
        refine wpOp_value (v := .bool true) (W' := W) rfl rfl ?_ (hK _ _ (LKeep.refl _ _ _) rfl)
        go_simp
      | 78, hoi, hom =>
        have l77 := haft _ rfl { on := 77, ground := .data } (by simp) rfl
        have hv77 : vs 77 = .bool true := hpv 77 l77
        have s77 : ao.tmps[172]?.getD undef = vs 77 := hU.slot 77 (by decide) l77
        rw [hv77] at s77
        refine wpOp_value (v := .bool true) (W' := W) rfl rfl ?_ (hK _ _ (LKeep.refl _ _ _) rfl)
        go_simp
      | 79, hoi, hom =>
        have l78 := haft _ rfl { on := 78, ground := .guard } (by simp) rfl
        have hv78 : vs 78 = .bool true := hpv 78 l78
        have s78 : ao.tmps[173]?.getD undef = vs 78 := hU.slot 78 (by decide) l78
        rw [hv78] at s78
        have z18 : ao.tmps[18]?.getD undef = .slice A8 1 q8 := hU.same 18 (by decide)
        refine wpOp_wanted (v := .slice A8 1 q8) (W' := W) rfl ?_ ?_ (hK _ _ (LKeep.refl _ _ _) rfl)
        · refine wanted_yes (j := 78) (d := 173) ?_ ?_ s78 <;> rfl
        go_simp
      | 80, hoi, hom =>
        have l78 := haft _ rfl { on := 78, ground := .guard } (by simp) rfl
        have hv78 : vs 78 = .bool true := hpv 78 l78
        have s78 : ao.tmps[173]?.getD undef = vs 78 := hU.slot 78 (by decide) l78
        rw [hv78] at s78
        refine wpOp_wanted (v := .slice (some ⟨W.heap.size, 0, none⟩) 1 1) (W' := (W.alloc (.cells #[.int .i64 1] 3))) rfl ?_ ?_ (hK _ _ (LKeep.below ((Below.refl _ _).alloc (Nat.le_refl _) _) (fun h => h)) ⟨_, _, rfl, (IntsS.lit1 rfl 1).more (by simp)⟩)
        · refine wanted_yes (j := 78) (d := 173) ?_ ?_ s78 <;> rfl
        go_simp
      | 81, hoi, hom =>
        have l78 := haft _ rfl { on := 78, ground := .guard } (by simp) rfl
        have hv78 : vs 78 = .bool true := hpv 78 l78
        have s78 : ao.tmps[173]?.getD undef = vs 78 := hU.slot 78 (by decide) l78
        rw [hv78] at s78
        have l79 := haft _ rfl { on := 79, ground := .data } (by simp) rfl
        have hv79 : vs 79 = .slice A8 1 q8 := hpv 79 l79
        have s79 : ao.tmps[174]?.getD undef = vs 79 := hU.slot 79 (by decide) l79
        rw [hv79] at s79
        have l80 := haft _ rfl { on := 80, ground := .data } (by simp) rfl
        obtain ⟨gl80, cp80, hv80, hi80⟩ := hpv 80 l80
        have s80 : ao.tmps[175]?.getD undef = vs 80 := hU.slot 80 (by decide) l80
        rw [hv80] at s80
        refine wpOp_enterW (f := 12) (args := #[.slice A8 1 q8, .slice gl80 1 cp80]) (W' := W) rfl ?_ ?_ (((ints_any (I8.out.next (hk.below (B := y12.heap.size) (fun k h => h.elim) (Nat.le_refl _))) hi80).mono (fun e w h => by rw [show intsB [1] [1] = true from by decide] at h; exact h)).mono (fun e w'' h => ?_))
        · refine wanted_yes (j := 78) (d := 173) ?_ ?_ s78 <;> rfl
        · go_simp
        · obtain ⟨he, hd⟩ := h
          exact ⟨_, he, hK _ _ (LKeep.below (hd.below _) (fun h => h)) rfl⟩
      | 82, hoi, hom =>
        have l78 := haft _ rfl { on := 78, ground := .data } (by simp) rfl
        have hv78 : vs 78 = .bool true := hpv 78 l78
        have s78 : ao.tmps[173]?.getD undef = vs 78 := hU.slot 78 (by decide) l78
        rw [hv78] at s78
        have l81 := haft _ rfl { on := 81, ground := .data } (by simp) rfl
        have hv81 : vs 81 = .bool true := hpv 81 l81
        have s81 : ao.tmps[176]?.getD undef = vs 81 := hU.slot 81 (by decide) l81
        rw [hv81] at s81
        refine wpOp_value (v := .bool true) (W' := W) rfl rfl ?_ (hK _ _ (LKeep.refl _ _ _) rfl)
        go_simp
      | 83, hoi, hom =>
        have l82 := haft _ rfl { on := 82, ground := .data } (by simp) rfl
        have hv82 : vs 82 = .bool true := hpv 82 l82
        have s82 : ao.tmps[177]?.getD undef = vs 82 := hU.slot 82 (by decide) l82
        rw [hv82] at s82
        refine wpOp_value (v := .bool true) (W' := W) rfl rfl ?_ (hK _ _ (LKeep.refl _ _ _) rfl)
        go_simp
      | 84, hoi, hom =>
        have l83 := haft _ rfl { on := 83, ground := .guard } (by simp) rfl
        have hv83 : vs 83 = .bool true := hpv 83 l83
        have s83 : ao.tmps[178]?.getD undef = vs 83 := hU.slot 83 (by decide) l83
        rw [hv83] at s83
        have z20 : ao.tmps[20]?.getD undef = .int .i64 1 := hU.same 20 (by decide)
        refine wpOp_wanted (v := .int .i64 1) (W' := W) rfl ?_ ?_ (hK _ _ (LKeep.refl _ _ _) rfl)
        · refine wanted_yes (j := 83) (d := 178) ?_ ?_ s83 <;> rfl
        go_simp
      | 85, hoi, hom =>
        have l83 := haft _ rfl { on := 83, ground := .guard } (by simp) rfl
        have hv83 : vs 83 = .bool true := hpv 83 l83
        have s83 : ao.tmps[178]?.getD undef = vs 83 := hU.slot 83 (by decide) l83
        rw [hv83] at s83
        have l84 := haft _ rfl { on := 84, ground := .data } (by simp) rfl
        have hv84 : vs 84 = .int .i64 1 := hpv 84 l84
        have s84 : ao.tmps[179]?.getD undef = vs 84 := hU.slot 84 (by decide) l84
        rw [hv84] at s84
        refine wpOp_wanted (v := .bool true) (W' := W) rfl ?_ ?_ (hK _ _ (LKeep.refl _ _ _) rfl)
        · refine wanted_yes (j := 83) (d := 178) ?_ ?_ s83 <;> rfl
        go_simp
      | 86, hoi, hom =>
        have l83 := haft _ rfl { on := 83, ground := .data } (by simp) rfl
        have hv83 : vs 83 = .bool true := hpv 83 l83
        have s83 : ao.tmps[178]?.getD undef = vs 83 := hU.slot 83 (by decide) l83
        rw [hv83] at s83
        have l85 := haft _ rfl { on := 85, ground := .data } (by simp) rfl
        have hv85 : vs 85 = .bool true := hpv 85 l85
        have s85 : ao.tmps[180]?.getD undef = vs 85 := hU.slot 85 (by decide) l85
        rw [hv85] at s85
        refine wpOp_value (v := .bool true) (W' := W) rfl rfl ?_ (hK _ _ (LKeep.refl _ _ _) rfl)
        go_simp
      | 87, hoi, hom =>
        have l86 := haft _ rfl { on := 86, ground := .data } (by simp) rfl
        have hv86 : vs 86 = .bool true := hpv 86 l86
        have s86 : ao.tmps[181]?.getD undef = vs 86 := hU.slot 86 (by decide) l86
        rw [hv86] at s86
        refine wpOp_value (v := .bool true) (W' := W) rfl rfl ?_ (hK _ _ (LKeep.refl _ _ _) rfl)
        go_simp
      | 88, hoi, hom =>
        have l87 := haft _ rfl { on := 87, ground := .guard } (by simp) rfl
        have hv87 : vs 87 = .bool true := hpv 87 l87
        have s87 : ao.tmps[182]?.getD undef = vs 87 := hU.slot 87 (by decide) l87
        rw [hv87] at s87
        have z21 : ao.tmps[21]?.getD undef = .int .i64 2 := hU.same 21 (by decide)
        refine wpOp_wanted (v := .int .i64 2) (W' := W) rfl ?_ ?_ (hK _ _ (LKeep.refl _ _ _) rfl)
        · refine wanted_yes (j := 87) (d := 182) ?_ ?_ s87 <;> rfl
        go_simp
      | 89, hoi, hom =>
        have l87 := haft _ rfl { on := 87, ground := .guard } (by simp) rfl
        have hv87 : vs 87 = .bool true := hpv 87 l87
        have s87 : ao.tmps[182]?.getD undef = vs 87 := hU.slot 87 (by decide) l87
        rw [hv87] at s87
        have l88 := haft _ rfl { on := 88, ground := .data } (by simp) rfl
        have hv88 : vs 88 = .int .i64 2 := hpv 88 l88
        have s88 : ao.tmps[183]?.getD undef = vs 88 := hU.slot 88 (by decide) l88
        rw [hv88] at s88
        refine wpOp_wanted (v := .bool true) (W' := W) rfl ?_ ?_ (hK _ _ (LKeep.refl _ _ _) rfl)
        · refine wanted_yes (j := 87) (d := 182) ?_ ?_ s87 <;> rfl
        go_simp
      | 90, hoi, hom =>
        have l87 := haft _ rfl { on := 87, ground := .data } (by simp) rfl
        have hv87 : vs 87 = .bool true := hpv 87 l87
        have s87 : ao.tmps[182]?.getD undef = vs 87 := hU.slot 87 (by decide) l87
        rw [hv87] at s87
        have l89 := haft _ rfl { on := 89, ground := .data } (by simp) rfl
        have hv89 : vs 89 = .bool true := hpv 89 l89
        have s89 : ao.tmps[184]?.getD undef = vs 89 := hU.slot 89 (by decide) l89
        rw [hv89] at s89
        refine wpOp_value (v := .bool true) (W' := W) rfl rfl ?_ (hK _ _ (LKeep.refl _ _ _) rfl)
        go_simp
      | 91, hoi, hom =>
        have l90 := haft _ rfl { on := 90, ground := .data } (by simp) rfl
        have hv90 : vs 90 = .bool true := hpv 90 l90
        have s90 : ao.tmps[185]?.getD undef = vs 90 := hU.slot 90 (by decide) l90
        rw [hv90] at s90
        refine wpOp_value (v := .bool true) (W' := W) rfl rfl ?_ (hK _ _ (LKeep.refl _ _ _) rfl)
        go_simp
      | 92, hoi, hom =>
        have l91 := haft _ rfl { on := 91, ground := .guard } (by simp) rfl
        have hv91 : vs 91 = .bool true := hpv 91 l91
        have s91 : ao.tmps[186]?.getD undef = vs 91 := hU.slot 91 (by decide) l91
        rw [hv91] at s91
        have z26 : ao.tmps[26]?.getD undef = .slice A11 1 q11 := hU.same 26 (by decide)
        refine wpOp_wanted (v := .slice A11 1 q11) (W' := W) rfl ?_ ?_ (hK _ _ (LKeep.refl _ _ _) rfl)
        · refine wanted_yes (j := 91) (d := 186) ?_ ?_ s91 <;> rfl
        go_simp
      | 93, hoi, hom =>
        have l91 := haft _ rfl { on := 91, ground := .guard } (by simp) rfl
        have hv91 : vs 91 = .bool true := hpv 91 l91
        have s91 : ao.tmps[186]?.getD undef = vs 91 := hU.slot 91 (by decide) l91
        rw [hv91] at s91
        refine wpOp_wanted (v := .slice (some ⟨W.heap.size, 0, none⟩) 1 1) (W' := (W.alloc (.cells #[.int .i64 1] 3))) rfl ?_ ?_ (hK _ _ (LKeep.below ((Below.refl _ _).alloc (Nat.le_refl _) _) (fun h => h)) ⟨_, _, rfl, (IntsS.lit1 rfl 1).more (by simp)⟩)
        · refine wanted_yes (j := 91) (d := 186) ?_ ?_ s91 <;> rfl
        go_simp
      | 94, hoi, hom =>
        have l91 := haft _ rfl { on := 91, ground := .guard } (by simp) rfl
        have hv91 : vs 91 = .bool true := hpv 91 l91
        have s91 : ao.tmps[186]?.getD undef = vs 91 := hU.slot 91 (by decide) l91
        rw [hv91] at s91
        have l92 := haft _ rfl { on := 92, ground := .data } (by simp) rfl
        have hv92 : vs 92 = .slice A11 1 q11 := hpv 92 l92
        have s92 : ao.tmps[187]?.getD undef = vs 92 := hU.slot 92 (by decide) l92
        rw [hv92] at s92
        have l93 := haft _ rfl { on := 93, ground := .data } (by simp) rfl
        obtain ⟨gl93, cp93, hv93, hi93⟩ := hpv 93 l93
        have s93 : ao.tmps[188]?.getD undef = vs 93 := hU.slot 93 (by decide) l93
        rw [hv93] at s93
        refine wpOp_enterW (f := 12) (args := #[.slice A11 1 q11, .slice gl93 1 cp93]) (W' := W) rfl ?_ ?_ (((ints_any (I11.out.next (hk.below (B := y12.heap.size) (fun k h => h.elim) (Nat.le_refl _))) hi93).mono (fun e w h => by rw [show intsB [1] [1] = true from by decide] at h; exact h)).mono (fun e w'' h => ?_))
        · refine wanted_yes (j := 91) (d := 186) ?_ ?_ s91 <;> rfl
        · go_simp
        · obtain ⟨he, hd⟩ := h
          exact ⟨_, he, hK _ _ (LKeep.below (hd.below _) (fun h => h)) rfl⟩
      | 95, hoi, hom =>
        have l91 := haft _ rfl { on := 91, ground := .data } (by simp) rfl
        have hv91 : vs 91 = .bool true := hpv 91 l91
        have s91 : ao.tmps[186]?.getD undef = vs 91 := hU.slot 91 (by decide) l91
        rw [hv91] at s91
        have l94 := haft _ rfl { on := 94, ground := .data } (by simp) rfl
        have hv94 : vs 94 = .bool true := hpv 94 l94
        have s94 : ao.tmps[189]?.getD undef = vs 94 := hU.slot 94 (by decide) l94
        rw [hv94] at s94
        refine wpOp_value (v := .bool true) (W' := W) rfl rfl ?_ (hK _ _ (LKeep.refl _ _ _) rfl)
        go_simp
      | 96, hoi, hom =>
        have l95 := haft _ rfl { on := 95, ground := .data } (by simp) rfl
        have hv95 : vs 95 = .bool true := hpv 95 l95
        have s95 : ao.tmps[190]?.getD undef = vs 95 := hU.slot 95 (by decide) l95
        rw [hv95] at s95
        refine wpOp_value (v := .bool true) (W' := W) rfl rfl ?_ (hK _ _ (LKeep.refl _ _ _) rfl)
        go_simp
      | oi + 97, hoi, hom => exact absurd (of_decide_eq_true hom) (by omega)
    case hend =>
      intro listed vs ao W hG hGU hk0 hpv hpre
      have hkk := (LKeep.drew (fun _ => False) (M := fun _ => True) y12 (fun h => h)).trans hk0
      have hk := hkk.1
      have hkm := hkk.2
      clear hkk
      have hT := hG.lst hpre 0 #[true, true, true, true, true, true, true, true, true, true, true, true, true, true, true, true, true, true, true, true, true, true, true, true, true, true, true, true, true, true, true, true, true, true, true, true, true, true, true, true, true, true, true, true, true, true, true, true, true, true, true, true, true, true, true, true, true, true, true, true, true, true, true, true, true, true, true, true, true, true, true, true, true, true, true, true, true, true, true, true, true, true, true, true, true, true, true, true, true, true, true, true, true, true, true, true, true] rfl (by kernel_rfl) (hpre 0 (by decide) (by decide))
      have h0 : ao.tmps[0]?.getD undef = vs 96 := hGU.slot 96 (by decide) (hpre 96 (by decide) (by decide))
      have hv : vs 96 = .bool true := hpv 96 (hpre 96 (by decide) (by decide))
      have hdf := hG.defers
      rw [hG.lo hT (k := 0) (by kernel_rfl)]
      subst hT
      refine wpAny_done (by kernel_rfl) ?_ _
      exact ⟨rfl, h0.trans hv, hdf, hk⟩
  case imp =>
    rintro ⟨tm, df⟩ W ⟨h0, hd, hk⟩
    simp only at h0 hd
    subst hd
    have HBZ := hide (HB.out.trans ((hk.below (B := y12.heap.size) (fun k h => h.elim) (Nat.le_refl _)).mono HB.out.size))
    clear hk
    go_wp2_with fail
    exact bodyPost_ret (v := .bool true) (by simp [results, Try.results13, go_sem, h0]) rfl ⟨rfl, HBZ.out⟩

end Go.Proofs.Ytllmahcanipcpaa
