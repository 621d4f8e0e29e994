/- The two kinds of lines that a reader reads. -/
import Derived.Test.YtocdmkilnbpkdaaGreatDoorWF
import Derived.OwnWalkIn
import Derived.Laws.EntriesVeiled
import Derived.ArgAppend
import Derived.TacticsInMore
import Derived.Deep.DeepCutAuto
set_option linter.unusedVariables false
set_option linter.unusedSimpArgs false
namespace Go.Proofs.YtocdmkilnbpkdaaGreatDoor
open Go.RowKit
attribute [local go_sem] Oper.semAt_some

theorem numE_cases {o : Option Nat} {e : Ending} (h : NumE o e) : (∃ n, o = some n ∧ e = .returned (.int .i64 (n : Int))) ∨ (o = none ∧ e = .panicked BAD) := by
 cases o with
 | some n => exact .inl ⟨n, rfl, h⟩
 | none => exact .inr ⟨rfl, h⟩
/-- What a reader has in memory. -/
structure RdI (W : World) (rb mb : Nat) (b : Book) (a : BA) : Prop where
 v : BookV W W.heap.size b a
 k : Blk W rb 113 #[.slice a.A1 b.steps.length a.c1, .slice a.A2 b.tallies.length a.c2, .map (some mb)]
 m : StrMap W mb (ixOf b.steps)
 ne1 : ∀ g o p, a.A1 = some ⟨g, o, p⟩ → g ≠ rb ∧ g ≠ mb
 ne2 : ∀ g o p, a.A2 = some ⟨g, o, p⟩ → g ≠ rb ∧ g ≠ mb
 n1 : (a.A1 = none ∧ b.steps.length = 0) ∨ ∃ g, a.A1 = some ⟨g, 0, none⟩
 n2 : (a.A2 = none ∧ b.tallies.length = 0) ∨ ∃ g, a.A2 = some ⟨g, 0, none⟩
 d : rb ≠ mb
theorem none_or {A : Option Addr} {n : Nat} (h : (A = none ∧ n = 0) ∨ ∃ g, A = some ⟨g, 0, none⟩) : (A = none → n = 0) ∧ ∀ p, A = some p → ∃ g o, p = ⟨g, o, none⟩ := by
 rcases h with ⟨rfl, rfl⟩ | ⟨g, rfl⟩
 · exact ⟨fun _ => rfl, (fun p h => by cases h)⟩
 · exact ⟨(fun h => by cases h), fun p h => ⟨g, 0, (Option.some.inj h).symm⟩⟩
theorem RdI.next {W W' : World} {rb mb : Nat} {b : Book} {a : BA} (h : RdI W rb mb b a) (hb : Below W.heap.size W W') : RdI W' rb mb b a :=
 ⟨h.v.next hb, h.k.next hb, h.m.block (hb.block _ h.m.lt), h.ne1, h.ne2, h.n1, h.n2, h.d⟩
theorem RdI.book {W W' : World} {rb mb : Nat} {b : Book} {a : BA} (h : RdI W rb mb b a) (hk : Keep (fun k => k = rb ∨ k = mb) W W') : BookV W' W'.heap.size b a :=
 ⟨h.v.steps.stab hk.size (fun g o hg e _ => hk.block g hg (fun hh => by have := h.ne1 g o none e; omega)),
  h.v.tallies.stab hk.size (fun g o hg e _ => hk.block g hg (fun hh => by have := h.ne2 g o none e; omega)), h.v.small, h.v.m1, h.v.m2⟩
/-- A row of things of three cells that a round has made. -/
structure NewRow (W : World) (B g cp n : Nat) (f : Nat → Value) : Prop where
 row : Row W W.heap.size (some ⟨g, 0, none⟩) (n * 3) f
 ge : B ≤ g
 cap : n ≤ cp ∧ cp ≤ maxLen
theorem NewRow.next {W W' : World} {B g cp n : Nat} {f : Nat → Value} (h : NewRow W B g cp n f) (hb : Below W.heap.size W W') : NewRow W' B g cp n f := ⟨(h.row.below hb).more hb.size, h.ge, h.cap⟩
/-- One thing is appended onto a row that has no room. -/
theorem app_new {P : Program} {W : World} {t ty e : TypeId} {i : TypeInfo} {z : Value} {bytes : Nat} (ht : P.underlying t = some (.slice e)) (hi : P.info? e = some i) (hz : i.zero = some z) (hsize : i.size = 3) (hby : i.bytes = bytes) (hzs : z.cells.size = 3)
 {A : Option Addr} {n q : Nat} {f f' : Nat → Value} {x0 x1 x2 : Value} (hrow : Row W W.heap.size A (n * 3) f) (hA : A = none → n = 0) (hAd : ∀ p, A = some p → ∃ g o, p = ⟨g, o, none⟩) (hq : Blk W q e #[x0, x1, x2]) (h1 : x0.oneCell' = true ∧ x1.oneCell' = true ∧ x2.oneCell' = true)
 (hf : ∀ j, j < n * 3 → f' j = f j) (g0 : f' (n * 3) = x0) (g1 : f' (n * 3 + 1) = x1) (g2 : f' (n * 3 + 2) = x2) (hn : n ≤ 1000) (hb : bytes ≤ 1000) :
 ∃ g cp w', (Builtin.append_ #[t, t] ty #[.slice A n n, .slice (some ⟨q, 0, none⟩) 1 1]).run P W = .ok (.slice (some ⟨g, 0, none⟩) (n + 1) cp) w' ∧ NewRow w' W.heap.size g cp (n + 1) f' ∧ W.grownBy w' none := by
 have hnews : ∀ j u, [x0, x1, x2][j]? = some u → W.cell? ((⟨q, 0, none⟩ : Addr).add j) = some u := fun j u hj => by
  rw [Addr.add_lit, Nat.zero_add]
  have := hq.at_ j
  rw [this]
  simpa using hj
 have h1' : ∀ u ∈ [x0, x1, x2], u.oneCell' = true := fun u hu => by
  simp only [List.mem_cons, List.not_mem_nil, or_false] at hu
  rcases hu with rfl | rfl | rfl
  · exact h1.1
  · exact h1.2.1
  · exact h1.2.2
 have hbb : (n + 1) * bytes ≤ 140737488355328 := Nat.le_trans (Nat.mul_le_mul (show n + 1 ≤ 1001 by omega) hb) (by decide)
 have hml : n + 1 ≤ maxLen := by unfold maxLen; omega
 have key : ∃ v' w', (Builtin.append_ #[t, t] ty #[.slice A n n, .slice (some ⟨q, 0, none⟩) 1 1]).run P W = .ok v' w' ∧ w'.ownsRow W.heap.size e 3 v' (n + 1) ((List.range (n * 3)).map f ++ [x0, x1, x2]) ∧ W.grownBy w' none := by
  cases A with
  | none =>
   obtain rfl := hA rfl
   obtain ⟨v', w', hrun, r1, r2, _⟩ := run_append_own (P := P) W W.heap.size t ty e i z 3 bytes ht hi hz hsize hby hzs (by decide) (.slice none 0 0) 0 [] (World.ownsRow_nil W _ e 3) ⟨q, 0, none⟩ 1 1 [x0, x1, x2] rfl hnews h1' hml hbb (Nat.le_refl _)
   exact ⟨v', w', hrun, by simpa using r1, r2⟩
  | some p =>
   obtain ⟨gp, op, rfl⟩ := hAd p rfl
   refine run_append_arg_grows (P := P) W t ty e i z 3 bytes ht hi hz hsize hby hzs (by decide) ⟨gp, op, none⟩ n n ((List.range (n * 3)).map f) (by simp) (fun j u hj => ?_) ⟨q, 0, none⟩ 1 1 [x0, x1, x2] rfl hnews (by omega) hml hbb
   rw [List.getElem?_map] at hj
   obtain ⟨j', hj', rfl⟩ := Option.map_eq_some_iff.1 hj
   have hlt : j < n * 3 := by
    have := (List.getElem?_eq_some_iff.1 hj').1
    simpa using this
   have hjj : j' = j := by
    rw [List.getElem?_range hlt] at hj'; exact (Option.some.inj hj').symm
   subst hjj
   obtain ⟨gb, ob, eq, _, hc⟩ := hrow (by omega)
   obtain ⟨rfl, rfl⟩ : gp = gb ∧ op = ob := by injection eq with e; injection e with e1 e2; exact ⟨e1, e2⟩
   rw [Addr.add_lit]
   exact hc _ hlt
 obtain ⟨v', w', hrun, r1, r2⟩ := key
 rcases r1.2 with ⟨_, h0⟩ | ⟨g, cap, cur, rfl, hg, hgc, hnc, hcm, _, _⟩
 · omega
 refine ⟨g, cap, w', hrun, ⟨fun _ => ⟨g, 0, rfl, (Array.getElem?_eq_some_iff.1 hgc).1, fun j hj => ?_⟩, hg, hnc, hcm⟩, r2⟩
 have hc := r1.cells (g := g) rfl j (f' j) (by
  by_cases hlt : j < n * 3
  · rw [List.getElem?_append_left (by simpa using hlt), List.getElem?_map, List.getElem?_range hlt, hf j hlt]; rfl
  · rw [List.getElem?_append_right (by simpa using Nat.le_of_not_lt hlt), List.length_map, List.length_range]
    obtain ⟨d, rfl, hd⟩ : ∃ d, j = n * 3 + d ∧ d < 3 := ⟨j - n * 3, by omega, by omega⟩
    rw [show n * 3 + d - n * 3 = d by omega]
    match d, hd with
    | 0, _ => rw [Nat.add_zero, g0]; rfl
    | 1, _ => rw [g1]; rfl
    | 2, _ => rw [g2]; rfl)
 rw [Addr.add_lit] at hc
 exact hc
theorem stepsF_app (ss : List Step) (s : Step) {j : Nat} (h : j < ss.length * 3) : stepsF (ss ++ [s]) j = stepsF ss j := by
 have e : nth (ss ++ [s]) (j / 3) = nth ss (j / 3) := by
  unfold nth
  rw [List.getD_eq_getElem?_getD, List.getD_eq_getElem?_getD, List.getElem?_append_left (by omega)]
 unfold stepsF
 rw [e]
theorem stepsF_new (ss : List Step) (s : Step) : stepsF (ss ++ [s]) (ss.length * 3) = .string s.name ∧ stepsF (ss ++ [s]) (ss.length * 3 + 1) = .int .i64 s.from_ ∧ stepsF (ss ++ [s]) (ss.length * 3 + 2) = .int .i64 s.loss := by
 have hn : nth (ss ++ [s]) ss.length = s := by simp [nth]
 unfold stepsF
 rw [show ss.length * 3 % 3 = 0 by omega, show (ss.length * 3 + 1) % 3 = 1 by omega, show (ss.length * 3 + 2) % 3 = 2 by omega, show ss.length * 3 / 3 = ss.length by omega, show (ss.length * 3 + 1) / 3 = ss.length by omega, show (ss.length * 3 + 2) / 3 = ss.length by omega, hn]
 exact ⟨rfl, rfl, rfl⟩
theorem talliesF_new (ts : List Tally) (s : Tally) : talliesF (ts ++ [s]) (ts.length * 3) = .int .i64 s.step ∧ talliesF (ts ++ [s]) (ts.length * 3 + 1) = .int .i64 s.hands ∧ talliesF (ts ++ [s]) (ts.length * 3 + 2) = .int .i64 s.off := by
 have hn : nth (ts ++ [s]) ts.length = s := by simp [nth]
 unfold talliesF
 rw [show ts.length * 3 % 3 = 0 by omega, show (ts.length * 3 + 1) % 3 = 1 by omega, show (ts.length * 3 + 2) % 3 = 2 by omega, show ts.length * 3 / 3 = ts.length by omega, show (ts.length * 3 + 1) / 3 = ts.length by omega, show (ts.length * 3 + 2) / 3 = ts.length by omega, hn]
 exact ⟨rfl, rfl, rfl⟩
theorem Tryz.infoStep : (Tryz.prog.info? 68).map (fun i => (i.zero, i.size, i.bytes)) = some (some (.agg #[.string ⟨#[]⟩, .int .i64 0, .int .i64 0]), 3, 32) := by kernel_rfl
def stepP (b : Book) (w1 w2 w3 : ByteArray) : Option Book :=
 match numP w3 with
 | none => none
 | some n => if w2 = wDash then some { b with steps := b.steps ++ [⟨w1, -1, n⟩] } else match ixOf b.steps w2 with | none => none | some i => some { b with steps := b.steps ++ [⟨w1, i, n⟩] }
def tallyP (b : Book) (w1 w2 w3 : ByteArray) : Option Book :=
 match ixOf b.steps w1 with
 | none => none
 | some i => match numP w2 with | none => none | some n => match numP w3 with | none => none | some m => some { b with tallies := b.tallies ++ [⟨i, n, m⟩] }
theorem lineP_eq (b : Book) (w0 w1 w2 w3 : ByteArray) : lineP b [w0, w1, w2, w3] = if w0 = wStep then stepP b w1 w2 w3 else if w0 = wTally then tallyP b w1 w2 w3 else none := rfl
/-- The rows are those that there were, or new ones. -/
def NewA (a a' : BA) (B : Nat) : Prop := (∀ g o p, a'.A1 = some ⟨g, o, p⟩ → a.A1 = some ⟨g, o, p⟩ ∨ B ≤ g) ∧ ∀ g o p, a'.A2 = some ⟨g, o, p⟩ → a.A2 = some ⟨g, o, p⟩ ∨ B ≤ g
/-- How the reading of a line ends. -/
def LineE (o : Option Book) (a : BA) (rb mb : Nat) (W : World) (e : Ending) (w' : World) : Prop :=
 Keep (fun k => k = rb ∨ k = mb) W w' ∧ ((∃ b a', o = some b ∧ e = .returned (.tuple #[]) ∧ RdI w' rb mb b a' ∧ NewA a a' W.heap.size) ∨ (o = none ∧ e = .panicked BAD))
/-- The words of a line, and the boxes of a kind of line. -/
structure WordsAt (W : World) (q cq z1 z2 rb mb : Nat) (w0 w1 w2 w3 : ByteArray) : Prop where
 kw : Blk W q 9 #[.string w0, .string w1, .string w2, .string w3]
 k1 : Blk W z1 110 #[.pointer (some ⟨rb, 0, none⟩)]
 k2 : Blk W z2 157 #[.func (.func 119) #[.pointer (some ⟨rb, 0, none⟩)] #[]]
 n1 : z1 ≠ rb ∧ z1 ≠ mb
 n2 : q ≠ rb ∧ q ≠ mb
 s : w1.size ≤ 500 ∧ w2.size ≤ 500 ∧ w3.size ≤ 500
theorem WordsAt.next {W W' : World} {q cq z1 z2 rb mb : Nat} {w0 w1 w2 w3 : ByteArray} (h : WordsAt W q cq z1 z2 rb mb w0 w1 w2 w3) (hb : Below W.heap.size W W') : WordsAt W' q cq z1 z2 rb mb w0 w1 w2 w3 :=
 ⟨h.kw.next hb, h.k1.next hb, h.k2.next hb, h.n1, h.n2, h.s⟩
set_option maxHeartbeats 4000000 in
set_option maxRecDepth 100000 in
theorem readStep_any {W0 : World} {q cq z1 z2 rb mb : Nat} {b : Book} {a : BA} {w0 w1 w2 w3 : ByteArray} (hr : RdI W0 rb mb b a) (hw : WordsAt W0 q cq z1 z2 rb mb w0 w1 w2 w3) (hl : b.steps.length ≤ 1000) (hcq : 4 ≤ cq) :
 Calls Tryz.prog 120 #[.slice (some ⟨q, 0, none⟩) 4 cq, .pointer (some ⟨z2, 0, none⟩), .pointer (some ⟨z1, 0, none⟩)] W0 fun e w' => LineE (stepP b w1 w2 w3) a rb mb W0 e w' := by
 have HR := hide hr
 have HW := hide hw
 obtain ⟨hs1, hs2, hs3⟩ := hw.s
 have y1 := hw.kw.at_ 1
 have y2 := hw.kw.at_ 2
 have y3 := hw.kw.at_ 3
 have n0 := hw.k2.at_ 0
 have hzq := hw.kw.lt
 have hz2 := hw.k2.lt
 simp only [List.getElem?_toArray, List.getElem?_cons_zero, List.getElem?_cons_succ] at y1 y2 y3 n0
 clear hr hw
 go_enter Tryz.func120, Tryz.ntmps120
 go_upto_region 0 with fail
 refine wp_region_rel5 (dst := fun oi => [5, 6, 7, 8, 9, 10, 11, 12, 13, 4, 3].getD oi 0) (mono := fun oi => decide (oi < 10)) (pre := fun oi => decide (oi < 10)) (R := LKeep (fun _ => False) (fun _ => True))
  (Pv := fun oi v W => match oi with
   | 0 => v = .slice (some ⟨q, 0, none⟩) 4 cq
   | 1 => v = .pointer (some ⟨q, 1, none⟩)
   | 2 => v = .string w1
   | 3 => v = .func (.func 119) #[.pointer (some ⟨rb, 0, none⟩)] #[]
   | 4 => v = .slice (some ⟨q, 0, none⟩) 4 cq
   | 5 => v = .pointer (some ⟨q, 3, none⟩)
   | 6 => v = .string w3
   | 7 => v = .int .i64 (((numP w3).getD 0 : Nat) : Int) ∧ (numP w3).isSome = true
   | 8 => v = .agg #[.string w1, .int .i64 (-1), .int .i64 (((numP w3).getD 0 : Nat) : Int)]
   | 9 => ∃ gl cp, v = .pointer (some ⟨gl, 0, none⟩) ∧ MadeB W W0.heap.size gl cp 68 #[.string ⟨#[]⟩, .int .i64 0, .int .i64 0]
   | _ => True) (by kernel_rfl) (by kernel_rfl) (LKeep.refl _ _) (fun _ _ _ h h' => h.trans h') ?hsta ?hstepa ?henda
 case hsta =>
  intro oi v W W' h hk
  match oi, h with
  | 0, h => exact h
  | 1, h => exact h
  | 2, h => exact h
  | 3, h => exact h
  | 4, h => exact h
  | 5, h => exact h
  | 6, h => exact h
  | 7, h => exact h
  | 8, h => exact h
  | 9, h => obtain ⟨gl, cp, h1, h2⟩ := h; exact ⟨gl, cp, h1, h2.next (hk.1.below (B := W.heap.size) (fun k h => h.elim) (Nat.le_refl _))⟩
  | oi + 10, h => exact trivial
 case hstepa =>
  intro oi hoi hom listed vs ao W hU hk0 hpv haft Ko hK
  have hkk := (LKeep.drew (fun _ => False) (M := fun _ => True) W0 (fun h => h)).trans hk0
  have hk := hkk.1
  have hkm := hkk.2
  clear hkk
  match oi, hoi, hom with
  | 0, hoi, hom =>
   have z0 : ao.tmps[0]?.getD undef = .slice (some ⟨q, 0, none⟩) 4 cq := hU.same 0 (by decide)
   refine wpOp_value (v := .slice (some ⟨q, 0, none⟩) 4 cq) (W' := W) rfl rfl ?_ (hK _ _ (LKeep.refl _ _ _) rfl)
   go_simp
  | 1, hoi, hom =>
   have l0 := haft _ rfl ⟨0, .data⟩ (by simp) rfl
   have s0 : ao.tmps[5]?.getD undef = .slice (some ⟨q, 0, none⟩) 4 cq := (hU.slot 0 (by decide) l0).trans (hpv 0 l0)
   refine wpOp_value (v := .pointer (some ⟨q, 1, none⟩)) (W' := W) rfl rfl ?_ (hK _ _ (LKeep.refl _ _ _) rfl)
   go_simp
  | 2, hoi, hom =>
   have l1 := haft _ rfl ⟨1, .data⟩ (by simp) rfl
   have s1 : ao.tmps[6]?.getD undef = .pointer (some ⟨q, 1, none⟩) := (hU.slot 1 (by decide) l1).trans (hpv 1 l1)
   have y0 := (hk.cell (b := q) (o := 1) (hzq) (fun h => h)).trans (y1)
   refine wpOp_value (v := .string w1) (W' := W) rfl rfl ?_ (hK _ _ (LKeep.refl _ _ _) rfl)
   go_simp
  | 3, hoi, hom =>
   have z1 : ao.tmps[1]?.getD undef = .pointer (some ⟨z2, 0, none⟩) := hU.same 1 (by decide)
   have y0 := (hk.cell (b := z2) (o := 0) (hz2) (fun h => h)).trans (n0)
   refine wpOp_value (v := .func (.func 119) #[.pointer (some ⟨rb, 0, none⟩)] #[]) (W' := W) rfl rfl ?_ (hK _ _ (LKeep.refl _ _ _) rfl)
   go_simp
  | 4, hoi, hom =>
   have z0 : ao.tmps[0]?.getD undef = .slice (some ⟨q, 0, none⟩) 4 cq := hU.same 0 (by decide)
   refine wpOp_value (v := .slice (some ⟨q, 0, none⟩) 4 cq) (W' := W) rfl rfl ?_ (hK _ _ (LKeep.refl _ _ _) rfl)
   go_simp
  | 5, hoi, hom =>
   have l4 := haft _ rfl ⟨4, .data⟩ (by simp) rfl
   have s4 : ao.tmps[9]?.getD undef = .slice (some ⟨q, 0, none⟩) 4 cq := (hU.slot 4 (by decide) l4).trans (hpv 4 l4)
   refine wpOp_value (v := .pointer (some ⟨q, 3, none⟩)) (W' := W) rfl rfl ?_ (hK _ _ (LKeep.refl _ _ _) rfl)
   go_simp
  | 6, hoi, hom =>
   have l5 := haft _ rfl ⟨5, .data⟩ (by simp) rfl
   have s5 : ao.tmps[10]?.getD undef = .pointer (some ⟨q, 3, none⟩) := (hU.slot 5 (by decide) l5).trans (hpv 5 l5)
   have y0 := (hk.cell (b := q) (o := 3) (hzq) (fun h => h)).trans (y3)
   refine wpOp_value (v := .string w3) (W' := W) rfl rfl ?_ (hK _ _ (LKeep.refl _ _ _) rfl)
   go_simp
  | 7, hoi, hom =>
   have l3 := haft _ rfl ⟨3, .data⟩ (by simp) rfl
   have s3 : ao.tmps[8]?.getD undef = .func (.func 119) #[.pointer (some ⟨rb, 0, none⟩)] #[] := (hU.slot 3 (by decide) l3).trans (hpv 3 l3)
   have l6 := haft _ rfl ⟨6, .data⟩ (by simp) rfl
   have s6 : ao.tmps[11]?.getD undef = .string w3 := (hU.slot 6 (by decide) l6).trans (hpv 6 l6)
   refine wpOp_enterP (f := 119) (args := #[.pointer (some ⟨rb, 0, none⟩), .string w3]) (W' := W) rfl rfl ?_ ((number_any _ w3 W (by omega)).mono (fun e w'' h => ?_))
   · go_simp
   · obtain ⟨hne, hbw⟩ := h
     rcases numE_cases hne with ⟨nn, ho, he⟩ | ⟨ho, he⟩
     · exact .inl ⟨_, he, hK _ _ (LKeep.below hbw (fun h => h)) ⟨by rw [ho]; rfl, by rw [ho]; rfl⟩⟩
     · refine .inr ⟨_, he, ?_⟩
       exact ⟨hU.defers, (hk.mono (fun k _ h => h.elim)).trans (Keep.of_below' hbw _), .inr ⟨by rw [stepP, ho], rfl⟩⟩
  | 8, hoi, hom =>
   have l2 := haft _ rfl ⟨2, .data⟩ (by simp) rfl
   have s2 : ao.tmps[7]?.getD undef = .string w1 := (hU.slot 2 (by decide) l2).trans (hpv 2 l2)
   have l7 := haft _ rfl { on := 7, ground := .data } (by simp) rfl
   obtain ⟨hv7, hp7⟩ := hpv 7 l7
   have s7 : ao.tmps[12]?.getD undef = vs 7 := hU.slot 7 (by decide) l7
   rw [hv7] at s7
   refine wpOp_value (v := .agg #[.string w1, .int .i64 (-1), .int .i64 (((numP w3).getD 0 : Nat) : Int)]) (W' := W) rfl rfl ?_ (hK _ _ (LKeep.refl _ _ _) rfl)
   go_simp
  | 9, hoi, hom =>
   refine wpOp_value (v := .pointer (some ⟨W.heap.size, 0, none⟩)) (W' := (W.alloc (.cells #[.string ⟨#[]⟩, .int .i64 0, .int .i64 0] 68))) rfl rfl ?_ (hK _ _ (LKeep.below ((Below.refl _ _).alloc (Nat.le_refl _) _) (fun h => h)) ⟨_, 0, rfl, ⟨Blk.made, hk.size⟩⟩)
   go_simp
  | oi + 10, hoi, hom => exact absurd (of_decide_eq_true hom) (by omega)
 case henda =>
  intro listed vs ao W hG hk0 hpv hpre
  have hkk := (LKeep.drew (fun _ => False) (M := fun _ => True) W0 (fun h => h)).trans hk0
  have hk := hkk.1
  have hkm := hkk.2
  clear hkk
  have hact := hG.act
  have hT := hG.lst hpre 0 #[true, true, true, true, true, true, true, true, true, true, false] rfl (by kernel_rfl) (hpre 0 (by decide) (by decide))
  rw [hG.ix hT (l := [0, 1, 2, 3, 4, 5, 6, 7, 8, 9]) (by kernel_rfl)] at hact
  rw [hG.lo hT (k := 1) (by kernel_rfl)]
  have hv0 : vs 0 = .slice (some ⟨q, 0, none⟩) 4 cq := hpv 0 (hpre 0 (by decide) (by decide))
  have hv1 : vs 1 = .pointer (some ⟨q, 1, none⟩) := hpv 1 (hpre 1 (by decide) (by decide))
  have hv2 : vs 2 = .string w1 := hpv 2 (hpre 2 (by decide) (by decide))
  have hv3 : vs 3 = .func (.func 119) #[.pointer (some ⟨rb, 0, none⟩)] #[] := hpv 3 (hpre 3 (by decide) (by decide))
  have hv4 : vs 4 = .slice (some ⟨q, 0, none⟩) 4 cq := hpv 4 (hpre 4 (by decide) (by decide))
  have hv5 : vs 5 = .pointer (some ⟨q, 3, none⟩) := hpv 5 (hpre 5 (by decide) (by decide))
  have hv6 : vs 6 = .string w3 := hpv 6 (hpre 6 (by decide) (by decide))
  obtain ⟨hv7, hp7⟩ := hpv 7 (hpre 7 (by decide) (by decide))
  have hv8 : vs 8 = .agg #[.string w1, .int .i64 (-1), .int .i64 (((numP w3).getD 0 : Nat) : Int)] := hpv 8 (hpre 8 (by decide) (by decide))
  obtain ⟨gl9, cp9, hv9, hi9⟩ := hpv 9 (hpre 9 (by decide) (by decide))
  clear hpv hpre hG hk0
  obtain rfl : ao = _ := hact
  subst hT
  simp only [setAll, List.setIfInBounds_toArray, List.set_cons_succ, List.set_cons_zero, List.getD_cons_succ, List.getD_cons_zero]
  simp only [hv0, hv1, hv2, hv3, hv4, hv5, hv6, hv7, hv8, hv9]
  clear hv0 hv1 hv2 hv3 hv4 hv5 hv6 hv7 hv8 hv9
  have c0 := hi9.k.at_ 0
  have c1 := hi9.k.at_ 1
  have c2 := hi9.k.at_ 2
  have f0 := hi9.k.free 0
  have f1 := hi9.k.free 1
  have f2 := hi9.k.free 2
  simp only [List.getElem?_toArray, List.getElem?_cons_zero, List.getElem?_cons_succ] at c0 c1 c2
  refine wpAny_all (rs := [10]) (by kernel_rfl) (by simp) ?_
  intro i2 hi2
  obtain rfl : i2 = 10 := by simpa using hi2
  refine wpOp_skip (W' := ((W.setCell ⟨gl9, 0, none⟩ (.string w1)).setCell ⟨gl9, 1, none⟩ (.int .i64 (-1))).setCell ⟨gl9, 2, none⟩ (.int .i64 (((numP w3).getD 0 : Nat) : Int))) rfl rfl ?_ ?_
  · go_simp
  refine wpAny_done (by kernel_rfl) ?_ _
  have b2 : Blk (((W.setCell ⟨gl9, 0, none⟩ (.string w1)).setCell ⟨gl9, 1, none⟩ (.int .i64 (-1))).setCell ⟨gl9, 2, none⟩ (.int .i64 (((numP w3).getD 0 : Nat) : Int))) gl9 68 #[.string w1, .int .i64 (-1), .int .i64 (((numP w3).getD 0 : Nat) : Int)] := ((hi9.k.store 0 _).store 1 _).store 2 _
  have hs : Keep (fun q => q = gl9) W (((W.setCell ⟨gl9, 0, none⟩ (.string w1)).setCell ⟨gl9, 1, none⟩ (.int .i64 (-1))).setCell ⟨gl9, 2, none⟩ (.int .i64 (((numP w3).getD 0 : Nat) : Int))) := ((Keep.setCell _ _ _ (fun q => q = gl9) rfl).trans (Keep.setCell _ _ _ (fun q => q = gl9) rfl)).trans (Keep.setCell _ _ _ (fun q => q = gl9) rfl)
  generalize ((W.setCell ⟨gl9, 0, none⟩ (.string w1)).setCell ⟨gl9, 1, none⟩ (.int .i64 (-1))).setCell ⟨gl9, 2, none⟩ (.int .i64 (((numP w3).getD 0 : Nat) : Int)) = V at *
  have hge := hi9.ge
  have hbV : Below W0.heap.size W0 V := ((hk.mono (S' := fun q => q = gl9) (fun k _ h => h.elim)).trans hs).below (B := W0.heap.size) (fun k h => by omega) (Nat.le_refl _)
  have HRV := hide (HR.out.next hbV)
  have HWV := hide (HW.out.next hbV)
  have HQV := hide b2
  have HKV := hide (Keep.of_below' hbV (fun k => k = rb ∨ k = mb))
  have hgl : gl9 ≠ rb ∧ gl9 ≠ mb := by have := HR.out.k.lt; have := HR.out.m.lt; omega
  obtain ⟨nv, hnv⟩ := Option.isSome_iff_exists.1 hp7
  rw [hnv] at HQV
  change Hid (Blk V gl9 68 #[.string w1, .int .i64 (-1), .int .i64 (nv : Int)]) at HQV
  simp only [hnv, Option.getD_some]
  have HBV := hide hbV
  clear hk hkm hs hbV b2 hi9 c0 c1 c2 f0 f1 f2 y1 y2 y3 n0 hzq hz2 hp7 W
  generalize gl9 = gl at *
  have y2 := HWV.out.kw.at_ 2
  simp only [List.getElem?_toArray, List.getElem?_cons_zero, List.getElem?_cons_succ] at y2
  have hzq := HWV.out.kw.lt
  by_cases hd : w2 = wDash
  · have HD := hide hd
    have hdl : (w2.toList == [45]) = true := by rw [hd, Lib.toList_data]; rfl
    clear hd
    go_upto_region 3 with fail
    have HS := hide (show stepP b w1 w2 w3 = some ⟨b.steps ++ [⟨w1, -1, (nv : Int)⟩], b.tallies⟩ by rw [stepP, hnv]; simp only; rw [if_pos HD.out])
    clear hdl y2 hzq
    have z0 := HWV.out.k1.at_ 0
    have r0 := HRV.out.k.at_ 0
    have r2 := HRV.out.k.at_ 2
    have y1 := HWV.out.kw.at_ 1
    simp only [List.getElem?_toArray, List.getElem?_cons_zero, List.getElem?_cons_succ] at z0 r0 r2 y1
    have hz1 := HWV.out.k1.lt
    have hzr := HRV.out.k.lt
    have hzq := HWV.out.kw.lt
    refine wp_region_rel4 (dst := fun oi => [24, 25, 26, 27, 28, 29, 30, 31, 32, 33, 34, 35, 36, 3].getD oi 0) (mono := fun oi => decide (oi < 13)) (pre := fun oi => decide (oi < 13)) (R := LKeep (fun _ => False) (fun _ => True))
     (Pv := fun oi v W => match oi with
      | 0 => v = .pointer (some ⟨rb, 0, none⟩)
      | 1 => v = .pointer (some ⟨rb, 0, none⟩)
      | 2 => v = .pointer (some ⟨rb, 2, none⟩)
      | 3 => v = .map (some mb)
      | 4 => v = .slice (some ⟨q, 0, none⟩) 4 cq
      | 5 => v = .pointer (some ⟨q, 1, none⟩)
      | 6 => v = .string w1
      | 7 => v = .pointer (some ⟨rb, 0, none⟩)
      | 8 => v = .pointer (some ⟨rb, 0, none⟩)
      | 9 => v = .pointer (some ⟨rb, 0, none⟩)
      | 10 => v = .pointer (some ⟨rb, 0, none⟩)
      | 11 => v = .slice a.A1 b.steps.length a.c1
      | 12 => v = .int .i64 (b.steps.length : Nat)
      | _ => True) (by kernel_rfl) (by kernel_rfl) (LKeep.refl _ _) (fun _ _ _ h h' => h.trans h') ?hstc3 ?hstepc3 ?hendc3
    case hstc3 =>
     intro oi v W W' h hk
     match oi, h with
     | 0, h => exact h
     | 1, h => exact h
     | 2, h => exact h
     | 3, h => exact h
     | 4, h => exact h
     | 5, h => exact h
     | 6, h => exact h
     | 7, h => exact h
     | 8, h => exact h
     | 9, h => exact h
     | 10, h => exact h
     | 11, h => exact h
     | 12, h => exact h
     | oi + 13, h => exact trivial
    case hstepc3 =>
     intro oi hoi hom listed vs ao W hU hk0 hpv haft Ko hK
     have hkk := (LKeep.drew (fun _ => False) (M := fun _ => True) V (fun h => h)).trans hk0
     have hk := hkk.1
     have hkm := hkk.2
     clear hkk
     match oi, hoi, hom with
     | 0, hoi, hom =>
      have z2 : ao.tmps[2]?.getD undef = .pointer (some ⟨z1, 0, none⟩) := hU.same 2 (by decide)
      have y0 := (hk.cell (b := z1) (o := 0) (hz1) (fun h => h)).trans (z0)
      refine wpOp_value (v := .pointer (some ⟨rb, 0, none⟩)) (W' := W) rfl rfl ?_ (hK _ _ (LKeep.refl _ _ _) rfl)
      go_simp
     | 1, hoi, hom =>
      have l0 := haft _ rfl ⟨0, .data⟩ (by simp) rfl
      have s0 : ao.tmps[24]?.getD undef = .pointer (some ⟨rb, 0, none⟩) := (hU.slot 0 (by decide) l0).trans (hpv 0 l0)
      refine wpOp_value (v := .pointer (some ⟨rb, 0, none⟩)) (W' := W) rfl rfl ?_ (hK _ _ (LKeep.refl _ _ _) rfl)
      go_simp
     | 2, hoi, hom =>
      have l1 := haft _ rfl ⟨1, .data⟩ (by simp) rfl
      have s1 : ao.tmps[25]?.getD undef = .pointer (some ⟨rb, 0, none⟩) := (hU.slot 1 (by decide) l1).trans (hpv 1 l1)
      refine wpOp_value (v := .pointer (some ⟨rb, 2, none⟩)) (W' := W) rfl rfl ?_ (hK _ _ (LKeep.refl _ _ _) rfl)
      go_simp
     | 3, hoi, hom =>
      have l2 := haft _ rfl ⟨2, .data⟩ (by simp) rfl
      have s2 : ao.tmps[26]?.getD undef = .pointer (some ⟨rb, 2, none⟩) := (hU.slot 2 (by decide) l2).trans (hpv 2 l2)
      have y0 := (hk.cell (b := rb) (o := 2) (hzr) (fun h => h)).trans (r2)
      refine wpOp_value (v := .map (some mb)) (W' := W) rfl rfl ?_ (hK _ _ (LKeep.refl _ _ _) rfl)
      go_simp
     | 4, hoi, hom =>
      have z0 : ao.tmps[0]?.getD undef = .slice (some ⟨q, 0, none⟩) 4 cq := hU.same 0 (by decide)
      refine wpOp_value (v := .slice (some ⟨q, 0, none⟩) 4 cq) (W' := W) rfl rfl ?_ (hK _ _ (LKeep.refl _ _ _) rfl)
      go_simp
     | 5, hoi, hom =>
      have l4 := haft _ rfl ⟨4, .data⟩ (by simp) rfl
      have s4 : ao.tmps[28]?.getD undef = .slice (some ⟨q, 0, none⟩) 4 cq := (hU.slot 4 (by decide) l4).trans (hpv 4 l4)
      refine wpOp_value (v := .pointer (some ⟨q, 1, none⟩)) (W' := W) rfl rfl ?_ (hK _ _ (LKeep.refl _ _ _) rfl)
      go_simp
     | 6, hoi, hom =>
      have l5 := haft _ rfl ⟨5, .data⟩ (by simp) rfl
      have s5 : ao.tmps[29]?.getD undef = .pointer (some ⟨q, 1, none⟩) := (hU.slot 5 (by decide) l5).trans (hpv 5 l5)
      have y0 := (hk.cell (b := q) (o := 1) (hzq) (fun h => h)).trans (y1)
      refine wpOp_value (v := .string w1) (W' := W) rfl rfl ?_ (hK _ _ (LKeep.refl _ _ _) rfl)
      go_simp
     | 7, hoi, hom =>
      have z2 : ao.tmps[2]?.getD undef = .pointer (some ⟨z1, 0, none⟩) := hU.same 2 (by decide)
      have y0 := (hk.cell (b := z1) (o := 0) (hz1) (fun h => h)).trans (z0)
      refine wpOp_value (v := .pointer (some ⟨rb, 0, none⟩)) (W' := W) rfl rfl ?_ (hK _ _ (LKeep.refl _ _ _) rfl)
      go_simp
     | 8, hoi, hom =>
      have l7 := haft _ rfl ⟨7, .data⟩ (by simp) rfl
      have s7 : ao.tmps[31]?.getD undef = .pointer (some ⟨rb, 0, none⟩) := (hU.slot 7 (by decide) l7).trans (hpv 7 l7)
      refine wpOp_value (v := .pointer (some ⟨rb, 0, none⟩)) (W' := W) rfl rfl ?_ (hK _ _ (LKeep.refl _ _ _) rfl)
      go_simp
     | 9, hoi, hom =>
      have l8 := haft _ rfl ⟨8, .data⟩ (by simp) rfl
      have s8 : ao.tmps[32]?.getD undef = .pointer (some ⟨rb, 0, none⟩) := (hU.slot 8 (by decide) l8).trans (hpv 8 l8)
      refine wpOp_value (v := .pointer (some ⟨rb, 0, none⟩)) (W' := W) rfl rfl ?_ (hK _ _ (LKeep.refl _ _ _) rfl)
      go_simp
     | 10, hoi, hom =>
      have l9 := haft _ rfl ⟨9, .data⟩ (by simp) rfl
      have s9 : ao.tmps[33]?.getD undef = .pointer (some ⟨rb, 0, none⟩) := (hU.slot 9 (by decide) l9).trans (hpv 9 l9)
      refine wpOp_value (v := .pointer (some ⟨rb, 0, none⟩)) (W' := W) rfl rfl ?_ (hK _ _ (LKeep.refl _ _ _) rfl)
      go_simp
     | 11, hoi, hom =>
      have l10 := haft _ rfl ⟨10, .data⟩ (by simp) rfl
      have s10 : ao.tmps[34]?.getD undef = .pointer (some ⟨rb, 0, none⟩) := (hU.slot 10 (by decide) l10).trans (hpv 10 l10)
      have y0 := (hk.cell (b := rb) (o := 0) (hzr) (fun h => h)).trans (r0)
      refine wpOp_value (v := .slice a.A1 b.steps.length a.c1) (W' := W) rfl rfl ?_ (hK _ _ (LKeep.refl _ _ _) rfl)
      go_simp
     | 12, hoi, hom =>
      have l11 := haft _ rfl ⟨11, .data⟩ (by simp) rfl
      have s11 : ao.tmps[35]?.getD undef = .slice a.A1 b.steps.length a.c1 := (hU.slot 11 (by decide) l11).trans (hpv 11 l11)
      refine wpOp_value (v := .int .i64 (b.steps.length : Nat)) (W' := W) rfl rfl ?_ (hK _ _ (LKeep.refl _ _ _) rfl)
      go_simp
     | oi + 13, hoi, hom => exact absurd (of_decide_eq_true hom) (by omega)
    case hendc3 =>
     intro listed vs ao W hG hk0 hpv hpre
     have hkk := (LKeep.drew (fun _ => False) (M := fun _ => True) V (fun h => h)).trans hk0
     have hk := hkk.1
     have hkm := hkk.2
     clear hkk
     have hact := hG.act
     have hT := hG.lst hpre 0 #[true, true, true, true, true, true, true, true, true, true, true, true, true, false] rfl (by kernel_rfl) (hpre 0 (by decide) (by decide))
     rw [hG.ix hT (l := [0, 1, 2, 3, 4, 5, 6, 7, 8, 9, 10, 11, 12]) (by kernel_rfl)] at hact
     rw [hG.lo hT (k := 1) (by kernel_rfl)]
     have hv0 : vs 0 = .pointer (some ⟨rb, 0, none⟩) := hpv 0 (hpre 0 (by decide) (by decide))
     have hv1 : vs 1 = .pointer (some ⟨rb, 0, none⟩) := hpv 1 (hpre 1 (by decide) (by decide))
     have hv2 : vs 2 = .pointer (some ⟨rb, 2, none⟩) := hpv 2 (hpre 2 (by decide) (by decide))
     have hv3 : vs 3 = .map (some mb) := hpv 3 (hpre 3 (by decide) (by decide))
     have hv4 : vs 4 = .slice (some ⟨q, 0, none⟩) 4 cq := hpv 4 (hpre 4 (by decide) (by decide))
     have hv5 : vs 5 = .pointer (some ⟨q, 1, none⟩) := hpv 5 (hpre 5 (by decide) (by decide))
     have hv6 : vs 6 = .string w1 := hpv 6 (hpre 6 (by decide) (by decide))
     have hv7 : vs 7 = .pointer (some ⟨rb, 0, none⟩) := hpv 7 (hpre 7 (by decide) (by decide))
     have hv8 : vs 8 = .pointer (some ⟨rb, 0, none⟩) := hpv 8 (hpre 8 (by decide) (by decide))
     have hv9 : vs 9 = .pointer (some ⟨rb, 0, none⟩) := hpv 9 (hpre 9 (by decide) (by decide))
     have hv10 : vs 10 = .pointer (some ⟨rb, 0, none⟩) := hpv 10 (hpre 10 (by decide) (by decide))
     have hv11 : vs 11 = .slice a.A1 b.steps.length a.c1 := hpv 11 (hpre 11 (by decide) (by decide))
     have hv12 : vs 12 = .int .i64 (b.steps.length : Nat) := hpv 12 (hpre 12 (by decide) (by decide))
     clear hpv hpre hG hk0
     obtain rfl : ao = _ := hact
     subst hT
     simp only [setAll, List.setIfInBounds_toArray, List.set_cons_succ, List.set_cons_zero, List.getD_cons_succ, List.getD_cons_zero]
     simp only [hv0, hv1, hv2, hv3, hv4, hv5, hv6, hv7, hv8, hv9, hv10, hv11, hv12]
     clear hv0 hv1 hv2 hv3 hv4 hv5 hv6 hv7 hv8 hv9 hv10 hv11 hv12
     obtain ⟨V2, hrun, hm2, hgr⟩ := (HRV.out.m.block (hk.block _ HRV.out.m.lt (fun h => h))).store w1 b.steps.length (by unfold maxLen; omega)
     refine wpAny_all (rs := [13]) (by kernel_rfl) (by simp) ?_
     intro i2 hi2
     obtain rfl : i2 = 13 := by simpa using hi2
     refine wpOp_skip (W' := V2) rfl rfl ?_ ?_
     · go_simp
     refine wpAny_done (by kernel_rfl) ?_ _
     have hkU := Keep.of_grown hgr
     have hKU : Keep (fun k => k = rb ∨ k = mb) V V2 := (hk.mono (fun k _ h => h.elim)).trans (hkU.mono (fun k _ h => .inr (Option.some.inj h)))
     have hmne : ∀ k, k ≠ mb → ¬ some k = some mb := fun k h e => h (Option.some.inj e)
     have HU := hide ((HRV.out.k.keep hk (fun h => h)).keep hkU (hmne _ HRV.out.d))
     have HUZ := hide ((HWV.out.k1.keep hk (fun h => h)).keep hkU (hmne _ HWV.out.n1.2))
     have HUQ := hide ((HQV.out.keep hk (fun h => h)).keep hkU (hmne _ hgl.2))
     have HUB := hide (HRV.out.book hKU)
     have HUM := hide hm2
     have HUK := hide (HKV.out.trans hKU)
     clear hk hkm hgr hm2 hkU hKU hmne hrun z0 r0 r2 y1 hz1 hzr hzq
     have z0 := HUZ.out.at_ 0
     have r0 := HU.out.at_ 0
     have q0 := HUQ.out.at_ 0
     have q1 := HUQ.out.at_ 1
     have q2 := HUQ.out.at_ 2
     simp only [List.getElem?_toArray, List.getElem?_cons_zero, List.getElem?_cons_succ] at z0 r0 q0 q1 q2
     have hz1 := HUZ.out.lt
     have hzr := HU.out.lt
     have hzl := HUQ.out.lt
     go_upto_region 4 with fail
     refine wp_region_rel4 (dst := fun oi => [37, 38, 39, 40, 41, 42, 43, 44, 45, 46, 47, 48, 49, 3].getD oi 0) (mono := fun oi => decide (oi < 13)) (pre := fun oi => decide (oi < 13)) (R := LKeep (fun _ => False) (fun _ => True))
      (Pv := fun oi v W => match oi with
       | 0 => v = .pointer (some ⟨rb, 0, none⟩)
       | 1 => v = .pointer (some ⟨rb, 0, none⟩)
       | 2 => v = .pointer (some ⟨rb, 0, none⟩)
       | 3 => v = .pointer (some ⟨rb, 0, none⟩)
       | 4 => v = .pointer (some ⟨rb, 0, none⟩)
       | 5 => v = .slice a.A1 b.steps.length a.c1
       | 6 => v = .slice a.A1 b.steps.length b.steps.length
       | 7 => v = .agg #[.string w1, .int .i64 (-1), .int .i64 (nv : Int)]
       | 8 => ∃ gl cp, v = .slice (some ⟨gl, 0, none⟩) 1 1 ∧ MadeB W V2.heap.size gl cp 68 #[.string w1, .int .i64 (-1), .int .i64 (nv : Int)]
       | 9 => ∃ gl cp, v = .slice (some ⟨gl, 0, none⟩) (b.steps.length + 1) cp ∧ NewRow W V2.heap.size gl cp (b.steps.length + 1) (stepsF (b.steps ++ [(⟨w1, (-1), (nv : Int)⟩ : Step)]))
       | 10 => v = .pointer (some ⟨rb, 0, none⟩)
       | 11 => v = .pointer (some ⟨rb, 0, none⟩)
       | 12 => v = .pointer (some ⟨rb, 0, none⟩)
       | _ => True) (by kernel_rfl) (by kernel_rfl) (LKeep.refl _ _) (fun _ _ _ h h' => h.trans h') ?hstc4 ?hstepc4 ?hendc4
     case hstc4 =>
      intro oi v W W' h hk
      match oi, h with
      | 0, h => exact h
      | 1, h => exact h
      | 2, h => exact h
      | 3, h => exact h
      | 4, h => exact h
      | 5, h => exact h
      | 6, h => exact h
      | 7, h => exact h
      | 8, h => obtain ⟨gl, cp, h1, h2⟩ := h; exact ⟨gl, cp, h1, h2.next (hk.1.below (B := W.heap.size) (fun k h => h.elim) (Nat.le_refl _))⟩
      | 9, h => obtain ⟨gl, cp, h1, h2⟩ := h; exact ⟨gl, cp, h1, h2.next (hk.1.below (B := W.heap.size) (fun k h => h.elim) (Nat.le_refl _))⟩
      | 10, h => exact h
      | 11, h => exact h
      | 12, h => exact h
      | oi + 13, h => exact trivial
     case hstepc4 =>
      intro oi hoi hom listed vs ao W hU hk0 hpv haft Ko hK
      have hkk := (LKeep.drew (fun _ => False) (M := fun _ => True) V2 (fun h => h)).trans hk0
      have hk := hkk.1
      have hkm := hkk.2
      clear hkk
      match oi, hoi, hom with
      | 0, hoi, hom =>
       have z2 : ao.tmps[2]?.getD undef = .pointer (some ⟨z1, 0, none⟩) := hU.same 2 (by decide)
       have y0 := (hk.cell (b := z1) (o := 0) (hz1) (fun h => h)).trans (z0)
       refine wpOp_value (v := .pointer (some ⟨rb, 0, none⟩)) (W' := W) rfl rfl ?_ (hK _ _ (LKeep.refl _ _ _) rfl)
       go_simp
      | 1, hoi, hom =>
       have z2 : ao.tmps[2]?.getD undef = .pointer (some ⟨z1, 0, none⟩) := hU.same 2 (by decide)
       have y0 := (hk.cell (b := z1) (o := 0) (hz1) (fun h => h)).trans (z0)
       refine wpOp_value (v := .pointer (some ⟨rb, 0, none⟩)) (W' := W) rfl rfl ?_ (hK _ _ (LKeep.refl _ _ _) rfl)
       go_simp
      | 2, hoi, hom =>
       have l1 := haft _ rfl ⟨1, .data⟩ (by simp) rfl
       have s1 : ao.tmps[38]?.getD undef = .pointer (some ⟨rb, 0, none⟩) := (hU.slot 1 (by decide) l1).trans (hpv 1 l1)
       refine wpOp_value (v := .pointer (some ⟨rb, 0, none⟩)) (W' := W) rfl rfl ?_ (hK _ _ (LKeep.refl _ _ _) rfl)
       go_simp
      | 3, hoi, hom =>
       have l2 := haft _ rfl ⟨2, .data⟩ (by simp) rfl
       have s2 : ao.tmps[39]?.getD undef = .pointer (some ⟨rb, 0, none⟩) := (hU.slot 2 (by decide) l2).trans (hpv 2 l2)
       refine wpOp_value (v := .pointer (some ⟨rb, 0, none⟩)) (W' := W) rfl rfl ?_ (hK _ _ (LKeep.refl _ _ _) rfl)
       go_simp
      | 4, hoi, hom =>
       have l3 := haft _ rfl ⟨3, .data⟩ (by simp) rfl
       have s3 : ao.tmps[40]?.getD undef = .pointer (some ⟨rb, 0, none⟩) := (hU.slot 3 (by decide) l3).trans (hpv 3 l3)
       refine wpOp_value (v := .pointer (some ⟨rb, 0, none⟩)) (W' := W) rfl rfl ?_ (hK _ _ (LKeep.refl _ _ _) rfl)
       go_simp
      | 5, hoi, hom =>
       have l4 := haft _ rfl ⟨4, .data⟩ (by simp) rfl
       have s4 : ao.tmps[41]?.getD undef = .pointer (some ⟨rb, 0, none⟩) := (hU.slot 4 (by decide) l4).trans (hpv 4 l4)
       have y0 := (hk.cell (b := rb) (o := 0) (hzr) (fun h => h)).trans (r0)
       refine wpOp_value (v := .slice a.A1 b.steps.length a.c1) (W' := W) rfl rfl ?_ (hK _ _ (LKeep.refl _ _ _) rfl)
       go_simp
      | 6, hoi, hom =>
       have l5 := haft _ rfl ⟨5, .data⟩ (by simp) rfl
       have s5 : ao.tmps[42]?.getD undef = .slice a.A1 b.steps.length a.c1 := (hU.slot 5 (by decide) l5).trans (hpv 5 l5)
       refine wpOp_enter (f := 122) (args := #[.slice a.A1 b.steps.length a.c1]) (W' := W) rfl rfl ?_ ((clipS_any a.A1 b.steps.length a.c1 W HUB.out.m1 (none_or HR.out.n1).1).mono (fun e w'' h => ?_))
       · go_simp
       · obtain ⟨he, rfl⟩ := h
         exact ⟨_, he, hK _ _ (LKeep.refl _ _ _) rfl⟩
      | 7, hoi, hom =>
       have z4 : ao.tmps[4]?.getD undef = .pointer (some ⟨gl, 0, none⟩) := hU.same 4 (by decide)
       have y0 := (hk.cell (b := gl) (o := 0) (hzl) (fun h => h)).trans (q0)
       have y1 := (hk.cell (b := gl) (o := 1) (hzl) (fun h => h)).trans (q1)
       have y2 := (hk.cell (b := gl) (o := 2) (hzl) (fun h => h)).trans (q2)
       refine wpOp_value (v := .agg #[.string w1, .int .i64 (-1), .int .i64 (nv : Int)]) (W' := W) rfl rfl ?_ (hK _ _ (LKeep.refl _ _ _) rfl)
       go_simp
      | 8, hoi, hom =>
       have l7 := haft _ rfl ⟨7, .data⟩ (by simp) rfl
       have s7 : ao.tmps[44]?.getD undef = .agg #[.string w1, .int .i64 (-1), .int .i64 (nv : Int)] := (hU.slot 7 (by decide) l7).trans (hpv 7 l7)
       refine wpOp_value (v := .slice (some ⟨W.heap.size, 0, none⟩) 1 1) (W' := (W.alloc (.cells #[.string w1, .int .i64 (-1), .int .i64 (nv : Int)] 68))) rfl rfl ?_ (hK _ _ (LKeep.below ((Below.refl _ _).alloc (Nat.le_refl _) _) (fun h => h)) ⟨_, 0, rfl, ⟨Blk.made, hk.size⟩⟩)
       go_simp
      | 9, hoi, hom =>
       have l6 := haft _ rfl ⟨6, .data⟩ (by simp) rfl
       have s6 : ao.tmps[43]?.getD undef = .slice a.A1 b.steps.length b.steps.length := (hU.slot 6 (by decide) l6).trans (hpv 6 l6)
       have l8 := haft _ rfl { on := 8, ground := .data } (by simp) rfl
       obtain ⟨gl8, cp8, hv8, hi8⟩ := hpv 8 l8
       have s8 : ao.tmps[45]?.getD undef = vs 8 := hU.slot 8 (by decide) l8
       rw [hv8] at s8
       obtain ⟨si, hinf, hz0, hsz1, hsz2⟩ := info_parts Tryz.infoStep
       have hsn := stepsF_new b.steps ⟨w1, (-1), (nv : Int)⟩
       obtain ⟨g9, c9, w9, hrun, hnew, hgr⟩ := app_new (P := Tryz.prog) (W := W) (ty := 22) (f' := stepsF (b.steps ++ [(⟨w1, (-1), (nv : Int)⟩ : Step)])) Tryz.underlying22 hinf hz0 hsz1 hsz2 rfl ((HUB.out.steps.below (hk.below (B := V2.heap.size) (fun k h => h.elim) (Nat.le_refl _))).more hk.size) (none_or HR.out.n1).1 (none_or HR.out.n1).2 hi8.k ⟨rfl, rfl, rfl⟩ (fun j hj => stepsF_app _ _ hj) hsn.1 hsn.2.1 hsn.2.2 hl (by decide)
       have hgb := (Keep.of_grown hgr).below (B := W.heap.size) (fun k h => by cases h) (Nat.le_refl _)
       refine wpOp_append (W' := w9) rfl rfl rfl s6 s8 hrun (hK _ _ (LKeep.below hgb (fun h => h)) ⟨g9, c9, rfl, hnew.row, Nat.le_trans hk.size hnew.ge, hnew.cap⟩)
      | 10, hoi, hom =>
       have l0 := haft _ rfl ⟨0, .data⟩ (by simp) rfl
       have s0 : ao.tmps[37]?.getD undef = .pointer (some ⟨rb, 0, none⟩) := (hU.slot 0 (by decide) l0).trans (hpv 0 l0)
       refine wpOp_value (v := .pointer (some ⟨rb, 0, none⟩)) (W' := W) rfl rfl ?_ (hK _ _ (LKeep.refl _ _ _) rfl)
       go_simp
      | 11, hoi, hom =>
       have l10 := haft _ rfl ⟨10, .data⟩ (by simp) rfl
       have s10 : ao.tmps[47]?.getD undef = .pointer (some ⟨rb, 0, none⟩) := (hU.slot 10 (by decide) l10).trans (hpv 10 l10)
       refine wpOp_value (v := .pointer (some ⟨rb, 0, none⟩)) (W' := W) rfl rfl ?_ (hK _ _ (LKeep.refl _ _ _) rfl)
       go_simp
      | 12, hoi, hom =>
       have l11 := haft _ rfl ⟨11, .data⟩ (by simp) rfl
       have s11 : ao.tmps[48]?.getD undef = .pointer (some ⟨rb, 0, none⟩) := (hU.slot 11 (by decide) l11).trans (hpv 11 l11)
       refine wpOp_value (v := .pointer (some ⟨rb, 0, none⟩)) (W' := W) rfl rfl ?_ (hK _ _ (LKeep.refl _ _ _) rfl)
       go_simp
      | oi + 13, hoi, hom => exact absurd (of_decide_eq_true hom) (by omega)
     case hendc4 =>
      intro listed vs ao W hG hk0 hpv hpre
      have hkk := (LKeep.drew (fun _ => False) (M := fun _ => True) V2 (fun h => h)).trans hk0
      have hk := hkk.1
      have hkm := hkk.2
      clear hkk
      have hact := hG.act
      have hT := hG.lst hpre 0 #[true, true, true, true, true, true, true, true, true, true, true, true, true, false] rfl (by kernel_rfl) (hpre 0 (by decide) (by decide))
      rw [hG.ix hT (l := [0, 1, 2, 3, 4, 5, 6, 7, 8, 9, 10, 11, 12]) (by kernel_rfl)] at hact
      rw [hG.lo hT (k := 1) (by kernel_rfl)]
      have hv0 : vs 0 = .pointer (some ⟨rb, 0, none⟩) := hpv 0 (hpre 0 (by decide) (by decide))
      have hv1 : vs 1 = .pointer (some ⟨rb, 0, none⟩) := hpv 1 (hpre 1 (by decide) (by decide))
      have hv2 : vs 2 = .pointer (some ⟨rb, 0, none⟩) := hpv 2 (hpre 2 (by decide) (by decide))
      have hv3 : vs 3 = .pointer (some ⟨rb, 0, none⟩) := hpv 3 (hpre 3 (by decide) (by decide))
      have hv4 : vs 4 = .pointer (some ⟨rb, 0, none⟩) := hpv 4 (hpre 4 (by decide) (by decide))
      have hv5 : vs 5 = .slice a.A1 b.steps.length a.c1 := hpv 5 (hpre 5 (by decide) (by decide))
      have hv6 : vs 6 = .slice a.A1 b.steps.length b.steps.length := hpv 6 (hpre 6 (by decide) (by decide))
      have hv7 : vs 7 = .agg #[.string w1, .int .i64 (-1), .int .i64 (nv : Int)] := hpv 7 (hpre 7 (by decide) (by decide))
      obtain ⟨gl8, cp8, hv8, hi8⟩ := hpv 8 (hpre 8 (by decide) (by decide))
      obtain ⟨gl9, cp9, hv9, hi9⟩ := hpv 9 (hpre 9 (by decide) (by decide))
      have hv10 : vs 10 = .pointer (some ⟨rb, 0, none⟩) := hpv 10 (hpre 10 (by decide) (by decide))
      have hv11 : vs 11 = .pointer (some ⟨rb, 0, none⟩) := hpv 11 (hpre 11 (by decide) (by decide))
      have hv12 : vs 12 = .pointer (some ⟨rb, 0, none⟩) := hpv 12 (hpre 12 (by decide) (by decide))
      clear hpv hpre hG hk0
      obtain rfl : ao = _ := hact
      subst hT
      simp only [setAll, List.setIfInBounds_toArray, List.set_cons_succ, List.set_cons_zero, List.getD_cons_succ, List.getD_cons_zero]
      simp only [hv0, hv1, hv2, hv3, hv4, hv5, hv6, hv7, hv8, hv9, hv10, hv11, hv12]
      clear hv0 hv1 hv2 hv3 hv4 hv5 hv6 hv7 hv8 hv9 hv10 hv11 hv12
      have n9 := HU.out.keep hk (fun h => h)
      have c0 := n9.at_ 0
      have f0 := n9.free 0
      simp only [List.getElem?_toArray, List.getElem?_cons_zero, List.getElem?_cons_succ] at c0
      refine wpAny_all (rs := [13]) (by kernel_rfl) (by simp) ?_
      intro i2 hi2
      obtain rfl : i2 = 13 := by simpa using hi2
      refine wpOp_skip (W' := W.setCell ⟨rb, 0, none⟩ (.slice (some ⟨gl9, 0, none⟩) (b.steps.length + 1) cp9)) rfl rfl ?_ ?_
      · go_simp
      refine wpAny_done (by kernel_rfl) ?_ _
      have hs : Keep (fun q => q = rb) W (W.setCell ⟨rb, 0, none⟩ (.slice (some ⟨gl9, 0, none⟩) (b.steps.length + 1) cp9)) := Keep.setCell _ _ _ (fun q => q = rb) rfl
      have b2 := n9.store 0 (.slice (some ⟨gl9, 0, none⟩) (b.steps.length + 1) cp9)
      generalize W.setCell ⟨rb, 0, none⟩ (.slice (some ⟨gl9, 0, none⟩) (b.steps.length + 1) cp9) = X at *
      have hge9 := hi9.ge
      have hrne : gl9 ≠ rb ∧ gl9 ≠ mb := by have := HUM.out.lt; omega
      have hKX : Keep (fun k => k = rb ∨ k = mb) V2 X := (hk.mono (fun k _ h => h.elim)).trans (hs.mono (fun k _ h => .inl h))
      have hKall := HUK.out.trans hKX
      have hlen : (b.steps ++ [⟨w1, (-1), (nv : Int)⟩] : List Step).length = b.steps.length + 1 := by simp
      have hfin : RdI X rb mb ⟨(b.steps ++ [(⟨w1, (-1), (nv : Int)⟩ : Step)]), b.tallies⟩ ⟨some ⟨gl9, 0, none⟩, a.A2, cp9, a.c2⟩ := ⟨⟨?r1, ?r2, ?r3, ?r4, HUB.out.m2⟩, ?r5, ?r6, ?r7, HR.out.ne2, .inr ⟨gl9, rfl⟩, HR.out.n2, HR.out.d⟩
      case r1 => show Row X X.heap.size _ (_ * 3) _; rw [hlen]; exact hi9.row.stab hs.size (fun g o hg e _ => hs.block g hg (fun hh => hrne.1 (by simp only [Option.some.injEq, Addr.mk.injEq] at e; omega)))
      case r2 => exact (HR.out.book hKall).tallies
      case r3 =>
       intro j hj
       replace hj : j < ((b.steps ++ [(⟨w1, (-1), (nv : Int)⟩ : Step)])).length := hj
       rw [hlen] at hj
       show (nth (b.steps ++ [(⟨w1, (-1), (nv : Int)⟩ : Step)]) j).name.size ≤ maxLen
       by_cases hlt : j < b.steps.length
       · rw [nth_app', if_pos hlt]; exact HR.out.v.small j hlt
       · rw [nth_app', if_neg hlt, show j - b.steps.length = 0 by omega]; show w1.size ≤ maxLen; unfold maxLen; omega
      case r4 => show ((b.steps ++ [(⟨w1, (-1), (nv : Int)⟩ : Step)])).length ≤ cp9 ∧ cp9 ≤ maxLen; rw [hlen]; exact hi9.cap
      case r5 => show Blk X rb _ #[.slice (some ⟨gl9, 0, none⟩) ((b.steps ++ [(⟨w1, (-1), (nv : Int)⟩ : Step)])).length cp9, _, _]; rw [hlen]; exact b2
      case r6 => exact ((HUM.out.block (hk.block _ HUM.out.lt (fun h => h))).block (hs.block _ (by have := HUM.out.lt; have := hk.size; omega) (fun h => HR.out.d h.symm))).ext (fun k => (ixOf_snoc b.steps ⟨w1, (-1), (nv : Int)⟩ k).symm)
      case r7 => intro g o p e; simp only [Option.some.injEq, Addr.mk.injEq] at e; rw [← e.1]; exact hrne
      have HNA := hide (show NewA a ⟨some ⟨gl9, 0, none⟩, a.A2, cp9, a.c2⟩ W0.heap.size from ⟨fun g o p e => .inr (by simp only [Option.some.injEq, Addr.mk.injEq] at e; have := HUK.out.size; omega), fun g o p e => .inl e⟩)
      have HF := hide hfin
      have HKA := hide hKall
      clear hfin hKall hKX hs b2 n9 c0 f0 hi9 hi8 hk hkm z0 r0 q0 q1 q2 hlen
      go_wp2_with fail
      go_end0
      exact ⟨HKA.out, .inl ⟨_, _, HS.out, rfl, HF.out, HNA.out⟩⟩
  · have HD := hide hd
    have hdl : (w2.toList == [45]) = false := by rw [beq_eq_false_iff_ne]; exact fun h => hd (by rw [Lib.toList_data] at h; exact ByteArray.ext (Array.ext' h))
    clear hd
    go_upto_region 2 with fail
    have z0 := HWV.out.k1.at_ 0
    have r0 := HRV.out.k.at_ 0
    have r2 := HRV.out.k.at_ 2
    have y1 := HWV.out.kw.at_ 1
    simp only [List.getElem?_toArray, List.getElem?_cons_zero, List.getElem?_cons_succ] at z0 r0 r2 y1
    have hz1 := HWV.out.k1.lt
    have hzr := HRV.out.k.lt
    have hzq := HWV.out.kw.lt
    refine wp_region_rel5 (dst := fun oi => [18, 19, 20, 21, 22, 23, 3].getD oi 0) (mono := fun oi => decide (oi < 6)) (pre := fun oi => decide (oi < 6)) (R := LKeep (fun _ => False) (fun _ => True))
     (Pv := fun oi v W => match oi with
      | 0 => v = .pointer (some ⟨rb, 0, none⟩)
      | 1 => v = .slice (some ⟨q, 0, none⟩) 4 cq
      | 2 => v = .pointer (some ⟨q, 2, none⟩)
      | 3 => v = .string w2
      | 4 => v = .int .i64 (((ixOf b.steps w2).getD 0 : Nat) : Int) ∧ (ixOf b.steps w2).isSome = true
      | 5 => v = .pointer (some ⟨gl, 1, none⟩)
      | _ => True) (by kernel_rfl) (by kernel_rfl) (LKeep.refl _ _) (fun _ _ _ h h' => h.trans h') ?hstb ?hstepb ?hendb
    case hstb =>
     intro oi v W W' h hk
     match oi, h with
     | 0, h => exact h
     | 1, h => exact h
     | 2, h => exact h
     | 3, h => exact h
     | 4, h => exact h
     | 5, h => exact h
     | oi + 6, h => exact trivial
    case hstepb =>
     intro oi hoi hom listed vs ao W hU hk0 hpv haft Ko hK
     have hkk := (LKeep.drew (fun _ => False) (M := fun _ => True) V (fun h => h)).trans hk0
     have hk := hkk.1
     have hkm := hkk.2
     clear hkk
     match oi, hoi, hom with
     | 0, hoi, hom =>
      have z2 : ao.tmps[2]?.getD undef = .pointer (some ⟨z1, 0, none⟩) := hU.same 2 (by decide)
      have y0 := (hk.cell (b := z1) (o := 0) (hz1) (fun h => h)).trans (z0)
      refine wpOp_value (v := .pointer (some ⟨rb, 0, none⟩)) (W' := W) rfl rfl ?_ (hK _ _ (LKeep.refl _ _ _) rfl)
      go_simp
     | 1, hoi, hom =>
      have z0 : ao.tmps[0]?.getD undef = .slice (some ⟨q, 0, none⟩) 4 cq := hU.same 0 (by decide)
      refine wpOp_value (v := .slice (some ⟨q, 0, none⟩) 4 cq) (W' := W) rfl rfl ?_ (hK _ _ (LKeep.refl _ _ _) rfl)
      go_simp
     | 2, hoi, hom =>
      have l1 := haft _ rfl ⟨1, .data⟩ (by simp) rfl
      have s1 : ao.tmps[19]?.getD undef = .slice (some ⟨q, 0, none⟩) 4 cq := (hU.slot 1 (by decide) l1).trans (hpv 1 l1)
      refine wpOp_value (v := .pointer (some ⟨q, 2, none⟩)) (W' := W) rfl rfl ?_ (hK _ _ (LKeep.refl _ _ _) rfl)
      go_simp
     | 3, hoi, hom =>
      have l2 := haft _ rfl ⟨2, .data⟩ (by simp) rfl
      have s2 : ao.tmps[20]?.getD undef = .pointer (some ⟨q, 2, none⟩) := (hU.slot 2 (by decide) l2).trans (hpv 2 l2)
      have y0 := (hk.cell (b := q) (o := 2) (hzq) (fun h => h)).trans (y2)
      refine wpOp_value (v := .string w2) (W' := W) rfl rfl ?_ (hK _ _ (LKeep.refl _ _ _) rfl)
      go_simp
     | 4, hoi, hom =>
      have l0 := haft _ rfl ⟨0, .data⟩ (by simp) rfl
      have s0 : ao.tmps[18]?.getD undef = .pointer (some ⟨rb, 0, none⟩) := (hU.slot 0 (by decide) l0).trans (hpv 0 l0)
      have l3 := haft _ rfl ⟨3, .data⟩ (by simp) rfl
      have s3 : ao.tmps[21]?.getD undef = .string w2 := (hU.slot 3 (by decide) l3).trans (hpv 3 l3)
      refine wpOp_enterP (f := 121) (args := #[.pointer (some ⟨rb, 0, none⟩), .string w2]) (W' := W) rfl rfl ?_ ((rstep_any (HRV.out.k.keep hk (fun h => h)) (HRV.out.m.block (hk.block _ HRV.out.m.lt (fun h => h))) w2 (by unfold maxLen; omega)).mono (fun e w'' h => ?_))
      · go_simp
      · obtain ⟨hne, rfl⟩ := h
        rcases numE_cases hne with ⟨nn, ho, he⟩ | ⟨ho, he⟩
        · exact .inl ⟨_, he, hK _ _ (LKeep.refl _ _ _) ⟨by rw [ho]; rfl, by rw [ho]; rfl⟩⟩
        · refine .inr ⟨_, he, ?_⟩
          exact ⟨hU.defers, HKV.out.trans (hk.mono (fun k _ h => h.elim)), .inr ⟨by rw [stepP, hnv]; simp only; rw [if_neg HD.out, ho], rfl⟩⟩
     | 5, hoi, hom =>
      have z4 : ao.tmps[4]?.getD undef = .pointer (some ⟨gl, 0, none⟩) := hU.same 4 (by decide)
      refine wpOp_value (v := .pointer (some ⟨gl, 1, none⟩)) (W' := W) rfl rfl ?_ (hK _ _ (LKeep.refl _ _ _) rfl)
      go_simp
     | oi + 6, hoi, hom => exact absurd (of_decide_eq_true hom) (by omega)
    case hendb =>
     intro listed vs ao W hG hk0 hpv hpre
     have hkk := (LKeep.drew (fun _ => False) (M := fun _ => True) V (fun h => h)).trans hk0
     have hk := hkk.1
     have hkm := hkk.2
     clear hkk
     have hact := hG.act
     have hT := hG.lst hpre 0 #[true, true, true, true, true, true, false] rfl (by kernel_rfl) (hpre 0 (by decide) (by decide))
     rw [hG.ix hT (l := [0, 1, 2, 3, 4, 5]) (by kernel_rfl)] at hact
     rw [hG.lo hT (k := 1) (by kernel_rfl)]
     have hv0 : vs 0 = .pointer (some ⟨rb, 0, none⟩) := hpv 0 (hpre 0 (by decide) (by decide))
     have hv1 : vs 1 = .slice (some ⟨q, 0, none⟩) 4 cq := hpv 1 (hpre 1 (by decide) (by decide))
     have hv2 : vs 2 = .pointer (some ⟨q, 2, none⟩) := hpv 2 (hpre 2 (by decide) (by decide))
     have hv3 : vs 3 = .string w2 := hpv 3 (hpre 3 (by decide) (by decide))
     obtain ⟨hv4, hp4⟩ := hpv 4 (hpre 4 (by decide) (by decide))
     have hv5 : vs 5 = .pointer (some ⟨gl, 1, none⟩) := hpv 5 (hpre 5 (by decide) (by decide))
     clear hpv hpre hG hk0
     obtain rfl : ao = _ := hact
     subst hT
     simp only [setAll, List.setIfInBounds_toArray, List.set_cons_succ, List.set_cons_zero, List.getD_cons_succ, List.getD_cons_zero]
     simp only [hv0, hv1, hv2, hv3, hv4, hv5]
     clear hv0 hv1 hv2 hv3 hv4 hv5
     have n9 := HQV.out.keep hk (fun h => h)
     have c1 := n9.at_ 1
     have f1 := n9.free 1
     simp only [List.getElem?_toArray, List.getElem?_cons_zero, List.getElem?_cons_succ] at c1
     refine wpAny_all (rs := [6]) (by kernel_rfl) (by simp) ?_
     intro i2 hi2
     obtain rfl : i2 = 6 := by simpa using hi2
     refine wpOp_skip (W' := W.setCell ⟨gl, 1, none⟩ (.int .i64 (((ixOf b.steps w2).getD 0 : Nat) : Int))) rfl rfl ?_ ?_
     · go_simp
     refine wpAny_done (by kernel_rfl) ?_ _
     have hs : Keep (fun q => q = gl) W (W.setCell ⟨gl, 1, none⟩ (.int .i64 (((ixOf b.steps w2).getD 0 : Nat) : Int))) := Keep.setCell _ _ _ (fun q => q = gl) rfl
     have b2 := n9.store 1 (.int .i64 (((ixOf b.steps w2).getD 0 : Nat) : Int))
     generalize W.setCell ⟨gl, 1, none⟩ (.int .i64 (((ixOf b.steps w2).getD 0 : Nat) : Int)) = V3 at *
     obtain ⟨iv, hiv⟩ := Option.isSome_iff_exists.1 hp4
     rw [hiv] at b2
     simp only [hiv, Option.getD_some]
     have HS := hide (show stepP b w1 w2 w3 = some ⟨b.steps ++ [⟨w1, (iv : Int), (nv : Int)⟩], b.tallies⟩ by rw [stepP, hnv]; simp only; rw [if_neg HD.out, hiv])
     have hb3 : Below W0.heap.size W0 V3 := HBV.out.trans (((hk.mono (S' := fun q => q = gl) (fun k _ h => h.elim)).trans hs).below (B := W0.heap.size) (fun k h => by omega) HBV.out.size)
     have HKV' := hide (Keep.of_below' hb3 (fun k => k = rb ∨ k = mb))
     have HRV' := hide (HR.out.next hb3)
     have HWV' := hide (HW.out.next hb3)
     have HQV' : Hid (Blk V3 gl 68 #[.string w1, .int .i64 (iv : Int), .int .i64 (nv : Int)]) := hide b2
     clear hs b2 hb3 hk hkm hp4 n9 c1 f1 hdl y2 z0 r0 r2 y1 hz1 hzr hzq hiv HRV HWV HQV HKV
     clear HBV
     go_upto_region 3 with fail
     simp only [Act.put, List.getElem_toArray, List.getElem_cons_succ, List.getElem_cons_zero]
     have z0 := HWV'.out.k1.at_ 0
     have r0 := HRV'.out.k.at_ 0
     have r2 := HRV'.out.k.at_ 2
     have y1 := HWV'.out.kw.at_ 1
     simp only [List.getElem?_toArray, List.getElem?_cons_zero, List.getElem?_cons_succ] at z0 r0 r2 y1
     have hz1 := HWV'.out.k1.lt
     have hzr := HRV'.out.k.lt
     have hzq := HWV'.out.kw.lt
     refine wp_region_rel4 (dst := fun oi => [24, 25, 26, 27, 28, 29, 30, 31, 32, 33, 34, 35, 36, 3].getD oi 0) (mono := fun oi => decide (oi < 13)) (pre := fun oi => decide (oi < 13)) (R := LKeep (fun _ => False) (fun _ => True))
      (Pv := fun oi v W => match oi with
       | 0 => v = .pointer (some ⟨rb, 0, none⟩)
       | 1 => v = .pointer (some ⟨rb, 0, none⟩)
       | 2 => v = .pointer (some ⟨rb, 2, none⟩)
       | 3 => v = .map (some mb)
       | 4 => v = .slice (some ⟨q, 0, none⟩) 4 cq
       | 5 => v = .pointer (some ⟨q, 1, none⟩)
       | 6 => v = .string w1
       | 7 => v = .pointer (some ⟨rb, 0, none⟩)
       | 8 => v = .pointer (some ⟨rb, 0, none⟩)
       | 9 => v = .pointer (some ⟨rb, 0, none⟩)
       | 10 => v = .pointer (some ⟨rb, 0, none⟩)
       | 11 => v = .slice a.A1 b.steps.length a.c1
       | 12 => v = .int .i64 (b.steps.length : Nat)
       | _ => True) (by kernel_rfl) (by kernel_rfl) (LKeep.refl _ _) (fun _ _ _ h h' => h.trans h') ?hstd3 ?hstepd3 ?hendd3
     case hstd3 =>
      intro oi v W W' h hk
      match oi, h with
      | 0, h => exact h
      | 1, h => exact h
      | 2, h => exact h
      | 3, h => exact h
      | 4, h => exact h
      | 5, h => exact h
      | 6, h => exact h
      | 7, h => exact h
      | 8, h => exact h
      | 9, h => exact h
      | 10, h => exact h
      | 11, h => exact h
      | 12, h => exact h
      | oi + 13, h => exact trivial
     case hstepd3 =>
      intro oi hoi hom listed vs ao W hU hk0 hpv haft Ko hK
      have hkk := (LKeep.drew (fun _ => False) (M := fun _ => True) V3 (fun h => h)).trans hk0
      have hk := hkk.1
      have hkm := hkk.2
      clear hkk
      match oi, hoi, hom with
      | 0, hoi, hom =>
       have z2 : ao.tmps[2]?.getD undef = .pointer (some ⟨z1, 0, none⟩) := hU.same 2 (by decide)
       have y0 := (hk.cell (b := z1) (o := 0) (hz1) (fun h => h)).trans (z0)
       refine wpOp_value (v := .pointer (some ⟨rb, 0, none⟩)) (W' := W) rfl rfl ?_ (hK _ _ (LKeep.refl _ _ _) rfl)
       go_simp
      | 1, hoi, hom =>
       have l0 := haft _ rfl ⟨0, .data⟩ (by simp) rfl
       have s0 : ao.tmps[24]?.getD undef = .pointer (some ⟨rb, 0, none⟩) := (hU.slot 0 (by decide) l0).trans (hpv 0 l0)
       refine wpOp_value (v := .pointer (some ⟨rb, 0, none⟩)) (W' := W) rfl rfl ?_ (hK _ _ (LKeep.refl _ _ _) rfl)
       go_simp
      | 2, hoi, hom =>
       have l1 := haft _ rfl ⟨1, .data⟩ (by simp) rfl
       have s1 : ao.tmps[25]?.getD undef = .pointer (some ⟨rb, 0, none⟩) := (hU.slot 1 (by decide) l1).trans (hpv 1 l1)
       refine wpOp_value (v := .pointer (some ⟨rb, 2, none⟩)) (W' := W) rfl rfl ?_ (hK _ _ (LKeep.refl _ _ _) rfl)
       go_simp
      | 3, hoi, hom =>
       have l2 := haft _ rfl ⟨2, .data⟩ (by simp) rfl
       have s2 : ao.tmps[26]?.getD undef = .pointer (some ⟨rb, 2, none⟩) := (hU.slot 2 (by decide) l2).trans (hpv 2 l2)
       have y0 := (hk.cell (b := rb) (o := 2) (hzr) (fun h => h)).trans (r2)
       refine wpOp_value (v := .map (some mb)) (W' := W) rfl rfl ?_ (hK _ _ (LKeep.refl _ _ _) rfl)
       go_simp
      | 4, hoi, hom =>
       have z0 : ao.tmps[0]?.getD undef = .slice (some ⟨q, 0, none⟩) 4 cq := hU.same 0 (by decide)
       refine wpOp_value (v := .slice (some ⟨q, 0, none⟩) 4 cq) (W' := W) rfl rfl ?_ (hK _ _ (LKeep.refl _ _ _) rfl)
       go_simp
      | 5, hoi, hom =>
       have l4 := haft _ rfl ⟨4, .data⟩ (by simp) rfl
       have s4 : ao.tmps[28]?.getD undef = .slice (some ⟨q, 0, none⟩) 4 cq := (hU.slot 4 (by decide) l4).trans (hpv 4 l4)
       refine wpOp_value (v := .pointer (some ⟨q, 1, none⟩)) (W' := W) rfl rfl ?_ (hK _ _ (LKeep.refl _ _ _) rfl)
       go_simp
      | 6, hoi, hom =>
       have l5 := haft _ rfl ⟨5, .data⟩ (by simp) rfl
       have s5 : ao.tmps[29]?.getD undef = .pointer (some ⟨q, 1, none⟩) := (hU.slot 5 (by decide) l5).trans (hpv 5 l5)
       have y0 := (hk.cell (b := q) (o := 1) (hzq) (fun h => h)).trans (y1)
       refine wpOp_value (v := .string w1) (W' := W) rfl rfl ?_ (hK _ _ (LKeep.refl _ _ _) rfl)
       go_simp
      | 7, hoi, hom =>
       have z2 : ao.tmps[2]?.getD undef = .pointer (some ⟨z1, 0, none⟩) := hU.same 2 (by decide)
       have y0 := (hk.cell (b := z1) (o := 0) (hz1) (fun h => h)).trans (z0)
       refine wpOp_value (v := .pointer (some ⟨rb, 0, none⟩)) (W' := W) rfl rfl ?_ (hK _ _ (LKeep.refl _ _ _) rfl)
       go_simp
      | 8, hoi, hom =>
       have l7 := haft _ rfl ⟨7, .data⟩ (by simp) rfl
       have s7 : ao.tmps[31]?.getD undef = .pointer (some ⟨rb, 0, none⟩) := (hU.slot 7 (by decide) l7).trans (hpv 7 l7)
       refine wpOp_value (v := .pointer (some ⟨rb, 0, none⟩)) (W' := W) rfl rfl ?_ (hK _ _ (LKeep.refl _ _ _) rfl)
       go_simp
      | 9, hoi, hom =>
       have l8 := haft _ rfl ⟨8, .data⟩ (by simp) rfl
       have s8 : ao.tmps[32]?.getD undef = .pointer (some ⟨rb, 0, none⟩) := (hU.slot 8 (by decide) l8).trans (hpv 8 l8)
       refine wpOp_value (v := .pointer (some ⟨rb, 0, none⟩)) (W' := W) rfl rfl ?_ (hK _ _ (LKeep.refl _ _ _) rfl)
       go_simp
      | 10, hoi, hom =>
       have l9 := haft _ rfl ⟨9, .data⟩ (by simp) rfl
       have s9 : ao.tmps[33]?.getD undef = .pointer (some ⟨rb, 0, none⟩) := (hU.slot 9 (by decide) l9).trans (hpv 9 l9)
       refine wpOp_value (v := .pointer (some ⟨rb, 0, none⟩)) (W' := W) rfl rfl ?_ (hK _ _ (LKeep.refl _ _ _) rfl)
       go_simp
      | 11, hoi, hom =>
       have l10 := haft _ rfl ⟨10, .data⟩ (by simp) rfl
       have s10 : ao.tmps[34]?.getD undef = .pointer (some ⟨rb, 0, none⟩) := (hU.slot 10 (by decide) l10).trans (hpv 10 l10)
       have y0 := (hk.cell (b := rb) (o := 0) (hzr) (fun h => h)).trans (r0)
       refine wpOp_value (v := .slice a.A1 b.steps.length a.c1) (W' := W) rfl rfl ?_ (hK _ _ (LKeep.refl _ _ _) rfl)
       go_simp
      | 12, hoi, hom =>
       have l11 := haft _ rfl ⟨11, .data⟩ (by simp) rfl
       have s11 : ao.tmps[35]?.getD undef = .slice a.A1 b.steps.length a.c1 := (hU.slot 11 (by decide) l11).trans (hpv 11 l11)
       refine wpOp_value (v := .int .i64 (b.steps.length : Nat)) (W' := W) rfl rfl ?_ (hK _ _ (LKeep.refl _ _ _) rfl)
       go_simp
      | oi + 13, hoi, hom => exact absurd (of_decide_eq_true hom) (by omega)
     case hendd3 =>
      intro listed vs ao W hG hk0 hpv hpre
      have hkk := (LKeep.drew (fun _ => False) (M := fun _ => True) V3 (fun h => h)).trans hk0
      have hk := hkk.1
      have hkm := hkk.2
      clear hkk
      have hact := hG.act
      have hT := hG.lst hpre 0 #[true, true, true, true, true, true, true, true, true, true, true, true, true, false] rfl (by kernel_rfl) (hpre 0 (by decide) (by decide))
      rw [hG.ix hT (l := [0, 1, 2, 3, 4, 5, 6, 7, 8, 9, 10, 11, 12]) (by kernel_rfl)] at hact
      rw [hG.lo hT (k := 1) (by kernel_rfl)]
      have hv0 : vs 0 = .pointer (some ⟨rb, 0, none⟩) := hpv 0 (hpre 0 (by decide) (by decide))
      have hv1 : vs 1 = .pointer (some ⟨rb, 0, none⟩) := hpv 1 (hpre 1 (by decide) (by decide))
      have hv2 : vs 2 = .pointer (some ⟨rb, 2, none⟩) := hpv 2 (hpre 2 (by decide) (by decide))
      have hv3 : vs 3 = .map (some mb) := hpv 3 (hpre 3 (by decide) (by decide))
      have hv4 : vs 4 = .slice (some ⟨q, 0, none⟩) 4 cq := hpv 4 (hpre 4 (by decide) (by decide))
      have hv5 : vs 5 = .pointer (some ⟨q, 1, none⟩) := hpv 5 (hpre 5 (by decide) (by decide))
      have hv6 : vs 6 = .string w1 := hpv 6 (hpre 6 (by decide) (by decide))
      have hv7 : vs 7 = .pointer (some ⟨rb, 0, none⟩) := hpv 7 (hpre 7 (by decide) (by decide))
      have hv8 : vs 8 = .pointer (some ⟨rb, 0, none⟩) := hpv 8 (hpre 8 (by decide) (by decide))
      have hv9 : vs 9 = .pointer (some ⟨rb, 0, none⟩) := hpv 9 (hpre 9 (by decide) (by decide))
      have hv10 : vs 10 = .pointer (some ⟨rb, 0, none⟩) := hpv 10 (hpre 10 (by decide) (by decide))
      have hv11 : vs 11 = .slice a.A1 b.steps.length a.c1 := hpv 11 (hpre 11 (by decide) (by decide))
      have hv12 : vs 12 = .int .i64 (b.steps.length : Nat) := hpv 12 (hpre 12 (by decide) (by decide))
      clear hpv hpre hG hk0
      obtain rfl : ao = _ := hact
      subst hT
      simp only [setAll, List.setIfInBounds_toArray, List.set_cons_succ, List.set_cons_zero, List.getD_cons_succ, List.getD_cons_zero]
      simp only [hv0, hv1, hv2, hv3, hv4, hv5, hv6, hv7, hv8, hv9, hv10, hv11, hv12]
      clear hv0 hv1 hv2 hv3 hv4 hv5 hv6 hv7 hv8 hv9 hv10 hv11 hv12
      obtain ⟨V2, hrun, hm2, hgr⟩ := (HRV'.out.m.block (hk.block _ HRV'.out.m.lt (fun h => h))).store w1 b.steps.length (by unfold maxLen; omega)
      refine wpAny_all (rs := [13]) (by kernel_rfl) (by simp) ?_
      intro i2 hi2
      obtain rfl : i2 = 13 := by simpa using hi2
      refine wpOp_skip (W' := V2) rfl rfl ?_ ?_
      · go_simp
      refine wpAny_done (by kernel_rfl) ?_ _
      have hkU := Keep.of_grown hgr
      have hKU : Keep (fun k => k = rb ∨ k = mb) V3 V2 := (hk.mono (fun k _ h => h.elim)).trans (hkU.mono (fun k _ h => .inr (Option.some.inj h)))
      have hmne : ∀ k, k ≠ mb → ¬ some k = some mb := fun k h e => h (Option.some.inj e)
      have HU := hide ((HRV'.out.k.keep hk (fun h => h)).keep hkU (hmne _ HRV'.out.d))
      have HUZ := hide ((HWV'.out.k1.keep hk (fun h => h)).keep hkU (hmne _ HWV'.out.n1.2))
      have HUQ := hide ((HQV'.out.keep hk (fun h => h)).keep hkU (hmne _ hgl.2))
      have HUB := hide (HRV'.out.book hKU)
      have HUM := hide hm2
      have HUK := hide (HKV'.out.trans hKU)
      clear hk hkm hgr hm2 hkU hKU hmne hrun z0 r0 r2 y1 hz1 hzr hzq
      have z0 := HUZ.out.at_ 0
      have r0 := HU.out.at_ 0
      have q0 := HUQ.out.at_ 0
      have q1 := HUQ.out.at_ 1
      have q2 := HUQ.out.at_ 2
      simp only [List.getElem?_toArray, List.getElem?_cons_zero, List.getElem?_cons_succ] at z0 r0 q0 q1 q2
      have hz1 := HUZ.out.lt
      have hzr := HU.out.lt
      have hzl := HUQ.out.lt
      go_upto_region 4 with fail
      refine wp_region_rel4 (dst := fun oi => [37, 38, 39, 40, 41, 42, 43, 44, 45, 46, 47, 48, 49, 3].getD oi 0) (mono := fun oi => decide (oi < 13)) (pre := fun oi => decide (oi < 13)) (R := LKeep (fun _ => False) (fun _ => True))
       (Pv := fun oi v W => match oi with
        | 0 => v = .pointer (some ⟨rb, 0, none⟩)
        | 1 => v = .pointer (some ⟨rb, 0, none⟩)
        | 2 => v = .pointer (some ⟨rb, 0, none⟩)
        | 3 => v = .pointer (some ⟨rb, 0, none⟩)
        | 4 => v = .pointer (some ⟨rb, 0, none⟩)
        | 5 => v = .slice a.A1 b.steps.length a.c1
        | 6 => v = .slice a.A1 b.steps.length b.steps.length
        | 7 => v = .agg #[.string w1, .int .i64 (iv : Int), .int .i64 (nv : Int)]
        | 8 => ∃ gl cp, v = .slice (some ⟨gl, 0, none⟩) 1 1 ∧ MadeB W V2.heap.size gl cp 68 #[.string w1, .int .i64 (iv : Int), .int .i64 (nv : Int)]
        | 9 => ∃ gl cp, v = .slice (some ⟨gl, 0, none⟩) (b.steps.length + 1) cp ∧ NewRow W V2.heap.size gl cp (b.steps.length + 1) (stepsF (b.steps ++ [(⟨w1, (iv : Int), (nv : Int)⟩ : Step)]))
        | 10 => v = .pointer (some ⟨rb, 0, none⟩)
        | 11 => v = .pointer (some ⟨rb, 0, none⟩)
        | 12 => v = .pointer (some ⟨rb, 0, none⟩)
        | _ => True) (by kernel_rfl) (by kernel_rfl) (LKeep.refl _ _) (fun _ _ _ h h' => h.trans h') ?hstd4 ?hstepd4 ?hendd4
      case hstd4 =>
       intro oi v W W' h hk
       match oi, h with
       | 0, h => exact h
       | 1, h => exact h
       | 2, h => exact h
       | 3, h => exact h
       | 4, h => exact h
       | 5, h => exact h
       | 6, h => exact h
       | 7, h => exact h
       | 8, h => obtain ⟨gl, cp, h1, h2⟩ := h; exact ⟨gl, cp, h1, h2.next (hk.1.below (B := W.heap.size) (fun k h => h.elim) (Nat.le_refl _))⟩
       | 9, h => obtain ⟨gl, cp, h1, h2⟩ := h; exact ⟨gl, cp, h1, h2.next (hk.1.below (B := W.heap.size) (fun k h => h.elim) (Nat.le_refl _))⟩
       | 10, h => exact h
       | 11, h => exact h
       | 12, h => exact h
       | oi + 13, h => exact trivial
      case hstepd4 =>
       intro oi hoi hom listed vs ao W hU hk0 hpv haft Ko hK
       have hkk := (LKeep.drew (fun _ => False) (M := fun _ => True) V2 (fun h => h)).trans hk0
       have hk := hkk.1
       have hkm := hkk.2
       clear hkk
       match oi, hoi, hom with
       | 0, hoi, hom =>
        have z2 : ao.tmps[2]?.getD undef = .pointer (some ⟨z1, 0, none⟩) := hU.same 2 (by decide)
        have y0 := (hk.cell (b := z1) (o := 0) (hz1) (fun h => h)).trans (z0)
        refine wpOp_value (v := .pointer (some ⟨rb, 0, none⟩)) (W' := W) rfl rfl ?_ (hK _ _ (LKeep.refl _ _ _) rfl)
        go_simp
       | 1, hoi, hom =>
        have z2 : ao.tmps[2]?.getD undef = .pointer (some ⟨z1, 0, none⟩) := hU.same 2 (by decide)
        have y0 := (hk.cell (b := z1) (o := 0) (hz1) (fun h => h)).trans (z0)
        refine wpOp_value (v := .pointer (some ⟨rb, 0, none⟩)) (W' := W) rfl rfl ?_ (hK _ _ (LKeep.refl _ _ _) rfl)
        go_simp
       | 2, hoi, hom =>
        have l1 := haft _ rfl ⟨1, .data⟩ (by simp) rfl
        have s1 : ao.tmps[38]?.getD undef = .pointer (some ⟨rb, 0, none⟩) := (hU.slot 1 (by decide) l1).trans (hpv 1 l1)
        refine wpOp_value (v := .pointer (some ⟨rb, 0, none⟩)) (W' := W) rfl rfl ?_ (hK _ _ (LKeep.refl _ _ _) rfl)
        go_simp
       | 3, hoi, hom =>
        have l2 := haft _ rfl ⟨2, .data⟩ (by simp) rfl
        have s2 : ao.tmps[39]?.getD undef = .pointer (some ⟨rb, 0, none⟩) := (hU.slot 2 (by decide) l2).trans (hpv 2 l2)
        refine wpOp_value (v := .pointer (some ⟨rb, 0, none⟩)) (W' := W) rfl rfl ?_ (hK _ _ (LKeep.refl _ _ _) rfl)
        go_simp
       | 4, hoi, hom =>
        have l3 := haft _ rfl ⟨3, .data⟩ (by simp) rfl
        have s3 : ao.tmps[40]?.getD undef = .pointer (some ⟨rb, 0, none⟩) := (hU.slot 3 (by decide) l3).trans (hpv 3 l3)
        refine wpOp_value (v := .pointer (some ⟨rb, 0, none⟩)) (W' := W) rfl rfl ?_ (hK _ _ (LKeep.refl _ _ _) rfl)
        go_simp
       | 5, hoi, hom =>
        have l4 := haft _ rfl ⟨4, .data⟩ (by simp) rfl
        have s4 : ao.tmps[41]?.getD undef = .pointer (some ⟨rb, 0, none⟩) := (hU.slot 4 (by decide) l4).trans (hpv 4 l4)
        have y0 := (hk.cell (b := rb) (o := 0) (hzr) (fun h => h)).trans (r0)
        refine wpOp_value (v := .slice a.A1 b.steps.length a.c1) (W' := W) rfl rfl ?_ (hK _ _ (LKeep.refl _ _ _) rfl)
        go_simp
       | 6, hoi, hom =>
        have l5 := haft _ rfl ⟨5, .data⟩ (by simp) rfl
        have s5 : ao.tmps[42]?.getD undef = .slice a.A1 b.steps.length a.c1 := (hU.slot 5 (by decide) l5).trans (hpv 5 l5)
        refine wpOp_enter (f := 122) (args := #[.slice a.A1 b.steps.length a.c1]) (W' := W) rfl rfl ?_ ((clipS_any a.A1 b.steps.length a.c1 W HUB.out.m1 (none_or HR.out.n1).1).mono (fun e w'' h => ?_))
        · go_simp
        · obtain ⟨he, rfl⟩ := h
          exact ⟨_, he, hK _ _ (LKeep.refl _ _ _) rfl⟩
       | 7, hoi, hom =>
        have z4 : ao.tmps[4]?.getD undef = .pointer (some ⟨gl, 0, none⟩) := hU.same 4 (by decide)
        have y0 := (hk.cell (b := gl) (o := 0) (hzl) (fun h => h)).trans (q0)
        have y1 := (hk.cell (b := gl) (o := 1) (hzl) (fun h => h)).trans (q1)
        have y2 := (hk.cell (b := gl) (o := 2) (hzl) (fun h => h)).trans (q2)
        refine wpOp_value (v := .agg #[.string w1, .int .i64 (iv : Int), .int .i64 (nv : Int)]) (W' := W) rfl rfl ?_ (hK _ _ (LKeep.refl _ _ _) rfl)
        go_simp
       | 8, hoi, hom =>
        have l7 := haft _ rfl ⟨7, .data⟩ (by simp) rfl
        have s7 : ao.tmps[44]?.getD undef = .agg #[.string w1, .int .i64 (iv : Int), .int .i64 (nv : Int)] := (hU.slot 7 (by decide) l7).trans (hpv 7 l7)
        refine wpOp_value (v := .slice (some ⟨W.heap.size, 0, none⟩) 1 1) (W' := (W.alloc (.cells #[.string w1, .int .i64 (iv : Int), .int .i64 (nv : Int)] 68))) rfl rfl ?_ (hK _ _ (LKeep.below ((Below.refl _ _).alloc (Nat.le_refl _) _) (fun h => h)) ⟨_, 0, rfl, ⟨Blk.made, hk.size⟩⟩)
        go_simp
       | 9, hoi, hom =>
        have l6 := haft _ rfl ⟨6, .data⟩ (by simp) rfl
        have s6 : ao.tmps[43]?.getD undef = .slice a.A1 b.steps.length b.steps.length := (hU.slot 6 (by decide) l6).trans (hpv 6 l6)
        have l8 := haft _ rfl { on := 8, ground := .data } (by simp) rfl
        obtain ⟨gl8, cp8, hv8, hi8⟩ := hpv 8 l8
        have s8 : ao.tmps[45]?.getD undef = vs 8 := hU.slot 8 (by decide) l8
        rw [hv8] at s8
        obtain ⟨si, hinf, hz0, hsz1, hsz2⟩ := info_parts Tryz.infoStep
        have hsn := stepsF_new b.steps ⟨w1, (iv : Int), (nv : Int)⟩
        obtain ⟨g9, c9, w9, hrun, hnew, hgr⟩ := app_new (P := Tryz.prog) (W := W) (ty := 22) (f' := stepsF (b.steps ++ [(⟨w1, (iv : Int), (nv : Int)⟩ : Step)])) Tryz.underlying22 hinf hz0 hsz1 hsz2 rfl ((HUB.out.steps.below (hk.below (B := V2.heap.size) (fun k h => h.elim) (Nat.le_refl _))).more hk.size) (none_or HR.out.n1).1 (none_or HR.out.n1).2 hi8.k ⟨rfl, rfl, rfl⟩ (fun j hj => stepsF_app _ _ hj) hsn.1 hsn.2.1 hsn.2.2 hl (by decide)
        have hgb := (Keep.of_grown hgr).below (B := W.heap.size) (fun k h => by cases h) (Nat.le_refl _)
        refine wpOp_append (W' := w9) rfl rfl rfl s6 s8 hrun (hK _ _ (LKeep.below hgb (fun h => h)) ⟨g9, c9, rfl, hnew.row, Nat.le_trans hk.size hnew.ge, hnew.cap⟩)
       | 10, hoi, hom =>
        have l0 := haft _ rfl ⟨0, .data⟩ (by simp) rfl
        have s0 : ao.tmps[37]?.getD undef = .pointer (some ⟨rb, 0, none⟩) := (hU.slot 0 (by decide) l0).trans (hpv 0 l0)
        refine wpOp_value (v := .pointer (some ⟨rb, 0, none⟩)) (W' := W) rfl rfl ?_ (hK _ _ (LKeep.refl _ _ _) rfl)
        go_simp
       | 11, hoi, hom =>
        have l10 := haft _ rfl ⟨10, .data⟩ (by simp) rfl
        have s10 : ao.tmps[47]?.getD undef = .pointer (some ⟨rb, 0, none⟩) := (hU.slot 10 (by decide) l10).trans (hpv 10 l10)
        refine wpOp_value (v := .pointer (some ⟨rb, 0, none⟩)) (W' := W) rfl rfl ?_ (hK _ _ (LKeep.refl _ _ _) rfl)
        go_simp
       | 12, hoi, hom =>
        have l11 := haft _ rfl ⟨11, .data⟩ (by simp) rfl
        have s11 : ao.tmps[48]?.getD undef = .pointer (some ⟨rb, 0, none⟩) := (hU.slot 11 (by decide) l11).trans (hpv 11 l11)
        refine wpOp_value (v := .pointer (some ⟨rb, 0, none⟩)) (W' := W) rfl rfl ?_ (hK _ _ (LKeep.refl _ _ _) rfl)
        go_simp
       | oi + 13, hoi, hom => exact absurd (of_decide_eq_true hom) (by omega)
      case hendd4 =>
       intro listed vs ao W hG hk0 hpv hpre
       have hkk := (LKeep.drew (fun _ => False) (M := fun _ => True) V2 (fun h => h)).trans hk0
       have hk := hkk.1
       have hkm := hkk.2
       clear hkk
       have hact := hG.act
       have hT := hG.lst hpre 0 #[true, true, true, true, true, true, true, true, true, true, true, true, true, false] rfl (by kernel_rfl) (hpre 0 (by decide) (by decide))
       rw [hG.ix hT (l := [0, 1, 2, 3, 4, 5, 6, 7, 8, 9, 10, 11, 12]) (by kernel_rfl)] at hact
       rw [hG.lo hT (k := 1) (by kernel_rfl)]
       have hv0 : vs 0 = .pointer (some ⟨rb, 0, none⟩) := hpv 0 (hpre 0 (by decide) (by decide))
       have hv1 : vs 1 = .pointer (some ⟨rb, 0, none⟩) := hpv 1 (hpre 1 (by decide) (by decide))
       have hv2 : vs 2 = .pointer (some ⟨rb, 0, none⟩) := hpv 2 (hpre 2 (by decide) (by decide))
       have hv3 : vs 3 = .pointer (some ⟨rb, 0, none⟩) := hpv 3 (hpre 3 (by decide) (by decide))
       have hv4 : vs 4 = .pointer (some ⟨rb, 0, none⟩) := hpv 4 (hpre 4 (by decide) (by decide))
       have hv5 : vs 5 = .slice a.A1 b.steps.length a.c1 := hpv 5 (hpre 5 (by decide) (by decide))
       have hv6 : vs 6 = .slice a.A1 b.steps.length b.steps.length := hpv 6 (hpre 6 (by decide) (by decide))
       have hv7 : vs 7 = .agg #[.string w1, .int .i64 (iv : Int), .int .i64 (nv : Int)] := hpv 7 (hpre 7 (by decide) (by decide))
       obtain ⟨gl8, cp8, hv8, hi8⟩ := hpv 8 (hpre 8 (by decide) (by decide))
       obtain ⟨gl9, cp9, hv9, hi9⟩ := hpv 9 (hpre 9 (by decide) (by decide))
       have hv10 : vs 10 = .pointer (some ⟨rb, 0, none⟩) := hpv 10 (hpre 10 (by decide) (by decide))
       have hv11 : vs 11 = .pointer (some ⟨rb, 0, none⟩) := hpv 11 (hpre 11 (by decide) (by decide))
       have hv12 : vs 12 = .pointer (some ⟨rb, 0, none⟩) := hpv 12 (hpre 12 (by decide) (by decide))
       clear hpv hpre hG hk0
       obtain rfl : ao = _ := hact
       subst hT
       simp only [setAll, List.setIfInBounds_toArray, List.set_cons_succ, List.set_cons_zero, List.getD_cons_succ, List.getD_cons_zero]
       simp only [hv0, hv1, hv2, hv3, hv4, hv5, hv6, hv7, hv8, hv9, hv10, hv11, hv12]
       clear hv0 hv1 hv2 hv3 hv4 hv5 hv6 hv7 hv8 hv9 hv10 hv11 hv12
       have n9 := HU.out.keep hk (fun h => h)
       have c0 := n9.at_ 0
       have f0 := n9.free 0
       simp only [List.getElem?_toArray, List.getElem?_cons_zero, List.getElem?_cons_succ] at c0
       refine wpAny_all (rs := [13]) (by kernel_rfl) (by simp) ?_
       intro i2 hi2
       obtain rfl : i2 = 13 := by simpa using hi2
       refine wpOp_skip (W' := W.setCell ⟨rb, 0, none⟩ (.slice (some ⟨gl9, 0, none⟩) (b.steps.length + 1) cp9)) rfl rfl ?_ ?_
       · go_simp
       refine wpAny_done (by kernel_rfl) ?_ _
       have hs : Keep (fun q => q = rb) W (W.setCell ⟨rb, 0, none⟩ (.slice (some ⟨gl9, 0, none⟩) (b.steps.length + 1) cp9)) := Keep.setCell _ _ _ (fun q => q = rb) rfl
       have b2 := n9.store 0 (.slice (some ⟨gl9, 0, none⟩) (b.steps.length + 1) cp9)
       generalize W.setCell ⟨rb, 0, none⟩ (.slice (some ⟨gl9, 0, none⟩) (b.steps.length + 1) cp9) = X at *
       have hge9 := hi9.ge
       have hrne : gl9 ≠ rb ∧ gl9 ≠ mb := by have := HUM.out.lt; omega
       have hKX : Keep (fun k => k = rb ∨ k = mb) V2 X := (hk.mono (fun k _ h => h.elim)).trans (hs.mono (fun k _ h => .inl h))
       have hKall := HUK.out.trans hKX
       have hlen : (b.steps ++ [⟨w1, (iv : Int), (nv : Int)⟩] : List Step).length = b.steps.length + 1 := by simp
       have hfin : RdI X rb mb ⟨(b.steps ++ [(⟨w1, (iv : Int), (nv : Int)⟩ : Step)]), b.tallies⟩ ⟨some ⟨gl9, 0, none⟩, a.A2, cp9, a.c2⟩ := ⟨⟨?r1, ?r2, ?r3, ?r4, HUB.out.m2⟩, ?r5, ?r6, ?r7, HR.out.ne2, .inr ⟨gl9, rfl⟩, HR.out.n2, HR.out.d⟩
       case r1 => show Row X X.heap.size _ (_ * 3) _; rw [hlen]; exact hi9.row.stab hs.size (fun g o hg e _ => hs.block g hg (fun hh => hrne.1 (by simp only [Option.some.injEq, Addr.mk.injEq] at e; omega)))
       case r2 => exact (HR.out.book hKall).tallies
       case r3 =>
        intro j hj
        replace hj : j < ((b.steps ++ [(⟨w1, (iv : Int), (nv : Int)⟩ : Step)])).length := hj
        rw [hlen] at hj
        show (nth (b.steps ++ [(⟨w1, (iv : Int), (nv : Int)⟩ : Step)]) j).name.size ≤ maxLen
        by_cases hlt : j < b.steps.length
        · rw [nth_app', if_pos hlt]; exact HR.out.v.small j hlt
        · rw [nth_app', if_neg hlt, show j - b.steps.length = 0 by omega]; show w1.size ≤ maxLen; unfold maxLen; omega
       case r4 => show ((b.steps ++ [(⟨w1, (iv : Int), (nv : Int)⟩ : Step)])).length ≤ cp9 ∧ cp9 ≤ maxLen; rw [hlen]; exact hi9.cap
       case r5 => show Blk X rb _ #[.slice (some ⟨gl9, 0, none⟩) ((b.steps ++ [(⟨w1, (iv : Int), (nv : Int)⟩ : Step)])).length cp9, _, _]; rw [hlen]; exact b2
       case r6 => exact ((HUM.out.block (hk.block _ HUM.out.lt (fun h => h))).block (hs.block _ (by have := HUM.out.lt; have := hk.size; omega) (fun h => HR.out.d h.symm))).ext (fun k => (ixOf_snoc b.steps ⟨w1, (iv : Int), (nv : Int)⟩ k).symm)
       case r7 => intro g o p e; simp only [Option.some.injEq, Addr.mk.injEq] at e; rw [← e.1]; exact hrne
       have HNA := hide (show NewA a ⟨some ⟨gl9, 0, none⟩, a.A2, cp9, a.c2⟩ W0.heap.size from ⟨fun g o p e => .inr (by simp only [Option.some.injEq, Addr.mk.injEq] at e; have := HUK.out.size; omega), fun g o p e => .inl e⟩)
       have HF := hide hfin
       have HKA := hide hKall
       clear hfin hKall hKX hs b2 n9 c0 f0 hi9 hi8 hk hkm z0 r0 q0 q1 q2 hlen
       go_wp2_with fail
       go_end0
       exact ⟨HKA.out, .inl ⟨_, _, HS.out, rfl, HF.out, HNA.out⟩⟩
end Go.Proofs.YtocdmkilnbpkdaaGreatDoor
