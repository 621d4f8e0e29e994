/- An evaluator of calls, and its soundness (EG). -/
import Derived.Test.YtkaahiddngmdbaaGreatDoorEE
import Derived.Test.YtkaahiddngmdbaaGreatDoorDL
import Derived.Test.YtkaahiddngmdbaaGreatDoorEF
import Derived.Test.YtkaahiddngmdbaaGreatDoorAG
set_option linter.unusedVariables false
set_option linter.unusedSimpArgs false
namespace Go.Ev
open Go.Proofs Go.Proofs.YtkaahiddngmdbaaGreatDoor
theorem Rel.below {e : Env} {s : St} {M : Nat → Prop} {w W : World} (hr : Rel e s M w) (hb : RowKit.Below w.heap.size w W) : Rel e s M W :=
 ⟨fun b B hM hB => by obtain ⟨p, hp, h⟩ := hr.blk b B hM hB; exact ⟨p, hp, h.keep e.le_refl (hb.block _ h.lt)⟩, hr.inj, hr.new, hr.one, hr.glob.step rfl (fun _ _ h => .inl h) (fun i hi => hb.block i (Nat.lt_of_lt_of_le hi hr.glob.size)) hb.size⟩
theorem Trans.below {e e' : Env} {s s' : St} {w w' : World} (h : Trans e s w e' s' w') (hW : ∀ i, s'.W.testBit i = false) : RowKit.Below w.heap.size w w' :=
 ⟨h.same.os, h.same.tape, h.same.output, h.size, fun k hk => h.keep k hk fun b p hb => by rw [hW b] at hb; cases hb⟩
section
variable {e : Env} {w : World} {p : Nat × Nat}
theorem row_rel {row : List AV} {ex : Bool} {f : Nat → Value} {n : Nat} (h : BRel e w p (.cells row ex)) (hn : n = row.length) (hf : ∀ j v x, row[j]? = some v → VRel e v x → x = f j) : Row w w.heap.size (some ⟨p.1, 0, none⟩) n f := fun _ => by
 refine ⟨p.1, 0, rfl, h.lt, fun j hj => ?_⟩
 subst hn
 obtain ⟨x, hx, hv⟩ := h.cell (o := j) (List.getElem?_eq_getElem hj)
 rw [Nat.zero_add, hx, hf j _ x (List.getElem?_eq_getElem hj) hv]
theorem ints_rel {xs : List Int} {ex : Bool} {c : Nat} (h : BRel e w p (.cells (xs.map (AV.int .i64)) ex)) (hc : xs.length ≤ c) (hm : xs.length ≤ maxLen) : IntsS w w.heap.size (some ⟨p.1, 0, none⟩) xs.length c xs :=
 ⟨rfl, hc, hm, row_rel h (by simp) (fun j v x hj hv => by
  rw [List.getElem?_map] at hj
  obtain ⟨n, hn, rfl⟩ := Option.map_eq_some_iff.1 hj
  simp only [VRel] at hv
  rw [hv, intsF]
  simp [nth, hn])⟩
theorem slice_rel {b l es : Nat} {o : Option Nat} {x : Value} (h : VRel e (.slice b 0 l o es) x) {q : Nat × Nat} (hq : e.at_ b = some q) : ∃ m, x = .slice (some ⟨q.1, 0, none⟩) l m ∧ l ≤ m := by
 simp only [VRel] at h
 obtain ⟨p, m, hp, rfl, h1, _⟩ := h
 rw [hq] at hp; cases hp
 exact ⟨m, rfl, h1⟩
end
/-- A board of three hours and two counters, as the evaluator has it. -/
theorem brd_rel {e : Env} {s : St} {M : Nat → Prop} {w : World} (hr : Rel e s M w) (hM : ∀ i, i < 6 → M i) {H : Int} {a0 a1 a2 : Hour} {n0 n1 : List Nat} {s0 t0 r0 s1 t1 r1 : Int} {z0 v0 z1 v1 : List Int} {o0 o1 o2 o3 o4 o5 : Option Nat} {f0 f1 f2 f3 f4 f5 : Bool}
 (g0 : s.mem.get 0 = some (.cells [.int .i64 a0.hold, .int .i64 a0.load.lo, .int .i64 a0.load.hi, .int .i64 a1.hold, .int .i64 a1.load.lo, .int .i64 a1.load.hi, .int .i64 a2.hold, .int .i64 a2.load.lo, .int .i64 a2.load.hi] f0))
 (g1 : s.mem.get 1 = some (.cells [.str n0, .int .i64 s0, .int .i64 t0, .int .i64 r0, .slice 2 0 z0.length o2 1, .slice 3 0 v0.length o3 1, .str n1, .int .i64 s1, .int .i64 t1, .int .i64 r1, .slice 4 0 z1.length o4 1, .slice 5 0 v1.length o5 1] f1))
 (g2 : s.mem.get 2 = some (.cells (z0.map (AV.int .i64)) f2)) (g3 : s.mem.get 3 = some (.cells (v0.map (AV.int .i64)) f3)) (g4 : s.mem.get 4 = some (.cells (z1.map (AV.int .i64)) f4)) (g5 : s.mem.get 5 = some (.cells (v1.map (AV.int .i64)) f5))
 (hz : z0.length ≤ 4 ∧ v0.length ≤ 4 ∧ z1.length ≤ 4 ∧ v1.length ≤ 4) {y : Value} (hy : VRel e (.agg [.int .i64 H, .slice 0 0 3 o0 3, .slice 1 0 2 o1 6]) y) :
 ∃ a, y = brdVal ⟨H, [a0, a1, a2], [⟨bytes n0, s0, t0, r0, z0, v0⟩, ⟨bytes n1, s1, t1, r1, z1, v1⟩]⟩ a ∧ BrdV w w.heap.size ⟨H, [a0, a1, a2], [⟨bytes n0, s0, t0, r0, z0, v0⟩, ⟨bytes n1, s1, t1, r1, z1, v1⟩]⟩ a := by
 obtain ⟨p0, q0, b0⟩ := hr.blk 0 _ (hM 0 (by omega)) g0
 obtain ⟨p1, q1, b1⟩ := hr.blk 1 _ (hM 1 (by omega)) g1
 obtain ⟨p2, q2, b2⟩ := hr.blk 2 _ (hM 2 (by omega)) g2
 obtain ⟨p3, q3, b3⟩ := hr.blk 3 _ (hM 3 (by omega)) g3
 obtain ⟨p4, q4, b4⟩ := hr.blk 4 _ (hM 4 (by omega)) g4
 obtain ⟨p5, q5, b5⟩ := hr.blk 5 _ (hM 5 (by omega)) g5
 simp only [VRel] at hy
 obtain ⟨xs, rfl, hl⟩ := hy
 obtain ⟨x0, xs, rfl, h0, hl⟩ := hl.of_cons
 obtain ⟨x1, xs, rfl, h1, hl⟩ := hl.of_cons
 obtain ⟨x2, xs, rfl, h2, hl⟩ := hl.of_cons
 obtain rfl := hl.of_nil
 obtain ⟨m1, rfl, k1⟩ := slice_rel h1 q0
 obtain ⟨m2, rfl, k2⟩ := slice_rel h2 q1
 simp only [VRel] at h0
 subst h0
 obtain ⟨y4, c4, d4⟩ := b1.cell (o := 4) (v := .slice 2 0 z0.length o2 1) rfl
 obtain ⟨y5, c5, d5⟩ := b1.cell (o := 5) (v := .slice 3 0 v0.length o3 1) rfl
 obtain ⟨y10, c10, d10⟩ := b1.cell (o := 10) (v := .slice 4 0 z1.length o4 1) rfl
 obtain ⟨y11, c11, d11⟩ := b1.cell (o := 11) (v := .slice 5 0 v1.length o5 1) rfl
 obtain ⟨u2, rfl, k4⟩ := slice_rel d4 q2
 obtain ⟨u3, rfl, k5⟩ := slice_rel d5 q3
 obtain ⟨u4, rfl, k10⟩ := slice_rel d10 q4
 obtain ⟨u5, rfl, k11⟩ := slice_rel d11 q5
 have hmx : ∀ n, n ≤ 4 → n ≤ maxLen := fun n h => by unfold maxLen; omega
 refine ⟨⟨some ⟨p0.1, 0, none⟩, some ⟨p1.1, 0, none⟩, m1, m2, [⟨some ⟨p2.1, 0, none⟩, u2, some ⟨p3.1, 0, none⟩, u3⟩, ⟨some ⟨p4.1, 0, none⟩, u4, some ⟨p5.1, 0, none⟩, u5⟩]⟩, rfl, ?_, ?_, ?_, ?_, ⟨k1, hmx _ (by simp)⟩, ⟨k2, hmx _ (by simp)⟩⟩
 · refine row_rel b0 rfl fun j v x hj hv => ?_
   rcases j with _ | _ | _ | _ | _ | _ | _ | _ | _ | j <;> first | (cases hj; simp only [VRel] at hv; rw [hv]; rfl) | cases hj
 · intro hm
   refine ⟨p1.1, 0, rfl, b1.lt, fun j hj => ?_⟩
   have hj : j < 12 := hj
   rw [Nat.zero_add]
   have go : ∀ (o : Nat) (v : AV) (x : Value), ([.str n0, .int .i64 s0, .int .i64 t0, .int .i64 r0, .slice 2 0 z0.length o2 1, .slice 3 0 v0.length o3 1, .str n1, .int .i64 s1, .int .i64 t1, .int .i64 r1, .slice 4 0 z1.length o4 1, .slice 5 0 v1.length o5 1] : List AV)[o]? = some v → (∀ y, VRel e v y → y = x) → w.cell? ⟨p1.1, o, none⟩ = some x := fun o v x ho hx => by
    obtain ⟨y, hy, hv⟩ := b1.cell ho
    rw [hy, hx y hv]
   have is_ : ∀ (n : Int) (y : Value), VRel e (.int .i64 n) y → y = .int .i64 n := fun n y h => by simpa only [VRel] using h
   have st_ : ∀ (n : List Nat) (y : Value), VRel e (.str n) y → y = .string (bytes n) := fun n y h => by simpa only [VRel] using h
   rcases j with _ | _ | _ | _ | _ | _ | _ | _ | _ | _ | _ | _ | j
   · exact go 0 _ _ rfl (st_ n0)
   · exact go 1 _ _ rfl (is_ _)
   · exact go 2 _ _ rfl (is_ _)
   · exact go 3 _ _ rfl (is_ _)
   · exact c4
   · exact c5
   · exact go 6 _ _ rfl (st_ n1)
   · exact go 7 _ _ rfl (is_ _)
   · exact go 8 _ _ rfl (is_ _)
   · exact go 9 _ _ rfl (is_ _)
   · exact c10
   · exact c11
   · omega
 · intro i hi
   have hi : i < 2 := hi
   rcases i with _ | _ | i
   · exact ints_rel b2 k4 (hmx _ hz.1)
   · exact ints_rel b4 k10 (hmx _ hz.2.2.1)
   · omega
 · intro i hi
   have hi : i < 2 := hi
   rcases i with _ | _ | i
   · exact ints_rel b3 k5 (hmx _ hz.2.1)
   · exact ints_rel b5 k11 (hmx _ hz.2.2.2)
   · omega
def brdO : Board := ⟨2, [⟨0, ⟨10, 13⟩⟩, ⟨0, ⟨8, 11⟩⟩, ⟨1, ⟨10, 12⟩⟩], [⟨bytes [115, 104, 105, 112], 1, 0, 90, [0, 0, 0], [1, -1, 22]⟩, ⟨bytes [115, 104, 111, 114, 101], 0, 2, 0, [0, 2, 0], [13, 10, -1]⟩]⟩
theorem brdO_some : someB brdO = true := by kernel_rfl
theorem brdO_hull : hullM (fun l => inM brdO l 0) (truthsL brdO) = ⟨20, 22⟩ := by kernel_rfl
theorem brdO_valid : ValidB brdO := by
 refine ⟨by decide, by decide, ?_, ?_, ?_, ?_, ?_, ?_, ?_⟩
 all_goals
  intro i hi
  simp only [brdO, List.length_cons, List.length_nil, Nat.zero_add, Nat.reduceAdd] at hi
  rcases i with _ | _ | _ | i <;> first | omega | (simp [brdO, nth]; done) | rfl

theorem hold_val (e : Env) (a b c : Int) : VRel e (.tuple [.agg [.int .i64 a, .int .i64 b], .int .i64 c]) (.tuple #[.agg #[.int .i64 a, .int .i64 b], .int .i64 c]) := by
 simp only [VRel]
 refine ⟨[.agg #[.int .i64 a, .int .i64 b], .int .i64 c], rfl, .cons_ ?_ (.cons_ (by simp only [VRel]) .nil_)⟩
 simp only [VRel]
 exact ⟨[.int .i64 a, .int .i64 b], rfl, .cons_ (by simp only [VRel]) (.cons_ (by simp only [VRel]) .nil_)⟩
theorem val3 {e : Env} {a b c : Int} {x : Value} (h : VRel e (.tuple [.int .i64 a, .int .i64 b, .int .i64 c]) x) : x = .tuple #[.int .i64 a, .int .i64 b, .int .i64 c] := by
 simp only [VRel] at h
 obtain ⟨xs, rfl, hl⟩ := h
 obtain ⟨x0, xs, rfl, h0, hl⟩ := hl.of_cons
 obtain ⟨x1, xs, rfl, h1, hl⟩ := hl.of_cons
 obtain ⟨x2, xs, rfl, h2, hl⟩ := hl.of_cons
 obtain rfl := hl.of_nil
 simp only [VRel] at h0 h1 h2
 rw [h0, h1, h2]
noncomputable def brdAV : AV := .agg [.int .i64 2, .slice 0 0 3 (some 3) 3, .slice 1 0 2 (some 2) 6]
noncomputable def ρB : List (Nat × Nat) := walkL (walk (rowsS k_board.rows) (rowsS k_hold.rows) 8) k_board.args [brdAV] []
theorem board_call : CallOkR Tryz.prog 60 [brdAV] (rowsS k_hold.rows) (.ret k_board.v (touches ρB (rowsS k_hold.rows))) := tryK_ok k_board_ok (by kernel_rfl)
theorem touched (i : Nat) (hi : i < 6) : (touches ρB (rowsS k_hold.rows)).X.testBit i = true := by
 have h : ((List.range 6).all fun i => (touches ρB (rowsS k_hold.rows)).X.testBit i) = true := by kernel_rfl
 exact List.all_eq_true.1 h i (List.mem_range.2 hi)
theorem untold (i : Nat) : (touches ρB (rowsS k_hold.rows)).W.testBit i = false := Nat.zero_testBit i
theorem k_hold_ok : KnownOk Tryz.prog k_hold := by
 refine ⟨k_hold.v, touches ρB (rowsS k_hold.rows), ?_, by kernel_rfl, fun i _ => untold i⟩
 refine plain_call (board_call _ rfl).1 rfl rfl fun M e w xs hr hM hl => ?_
 obtain ⟨y, ys, rfl, h1, h2⟩ := LRel.of_cons (v := brdAV) (l := [.int .i64 0]) hl
 obtain ⟨z, zs, rfl, h3, h4⟩ := h2.of_cons
 obtain rfl := h4.of_nil
 simp only [VRel] at h3
 subst h3
 have hbl := h1
 obtain ⟨a, rfl, hB⟩ := brd_rel hr (fun i hi => hM i (touched i hi)) (a0 := ⟨0, ⟨10, 13⟩⟩) (a1 := ⟨0, ⟨8, 11⟩⟩) (a2 := ⟨1, ⟨10, 12⟩⟩) (z0 := [0, 0, 0]) (v0 := [1, -1, 22]) (z1 := [0, 2, 0]) (v1 := [13, 10, -1]) rfl rfl rfl rfl rfl rfl (by decide) h1
 refine ⟨.tuple #[.agg #[.int .i64 20, .int .i64 22], .int .i64 0], hold_val e 20 22 0, (hold_any (b := brdO) hB brdO_valid (fun W hW => ?_) (by decide) (by decide)).mono ?_⟩
 · refine callsIn_wide.1 (((board_call _ rfl).2 M e W [_] (rowsS_wf _) (hr.below hW) hM (.cons_ hbl .nil_)).mono ?_)
   intro en W' hen
   cases en with
   | panicked c => exact hen.elim
   | outgrown => exact hen.elim
   | returned x =>
    obtain ⟨e', hv, _, ht⟩ := hen
    exact ⟨by rw [val3 (a := 0) (b := 0) (c := 0) hv], ht.below untold⟩
 · rintro en w' ⟨hb, rfl⟩
   refine ⟨?_, hb⟩
   rw [brdO_some, brdO_hull]
   rfl
end Go.Ev
namespace Go.Ev
open Go.Proofs Go.Proofs.YtkaahiddngmdbaaGreatDoor
theorem true_of {P : Program} {f : Nat} {r : RV} (hc : CallOkR P f [] ⟨.leaf, 0, 0, 0⟩ r) (ht : chkT r = true) {W : World} (h2 : 2 ≤ W.heap.size) (h0 : ∃ elem fr, W.heap[0]? = some (.cells ((List.range 20).map fun i => Value.int .u64 ((10 ^ i : Nat) : Int)).toArray elem fr))
 (h1 : ∃ m elem fr, W.heap[1]? = some (.cells #[.int .i64 m] elem fr)) : Calls P f #[] W fun e W' => e = .returned (.bool true) ∧ RowKit.Below W.heap.size W W' := by
 unfold chkT at ht
 split at ht
 · rename_i s'
   have hg : GOk ⟨fun _ => none, fun _ => .bool false, gS⟩ W := by
    refine ⟨rfl, fun b p hp => (by cases hp), h2, fun i hi => ?_⟩
    have hi : i < 2 := hi
    rcases i with _ | _ | i
    · exact h0
    · exact h1
    · omega
   have hr : Rel ⟨fun _ => none, fun _ => .bool false, gS⟩ ⟨.leaf, 0, 0, 0⟩ (fun _ => True) W := ⟨fun b B _ h => (by rw [T.get_leaf] at h; cases h), fun b b' B B' p p' _ _ h => (by rw [T.get_leaf] at h; cases h), fun _ _ _ => rfl, fun _ => rfl, hg⟩
   have hw : Wf ⟨.leaf, 0, 0, 0⟩ := wf0 fun b B h => by rw [T.get_leaf] at h; cases h
   refine callsIn_wide.1 (((hc _ rfl).2 (fun _ => True) _ W [] hw hr (fun _ _ => trivial) .nil_).mono ?_)
   intro en W' hen
   cases en with
   | panicked c => exact hen.elim
   | outgrown => exact hen.elim
   | returned x =>
    obtain ⟨e', hv, _, ht⟩ := hen
    simp only [VRel] at hv
    exact ⟨by rw [hv], ht.same.os, ht.same.tape, ht.same.output, ht.size, fun k hk => ht.keep k hk fun b p _ hp => (by cases hp)⟩
 · cases ht
theorem EA_ok : IhOk Tryz.prog EA := E_ok (KA_ok k_hold_ok) 3000
theorem awakeOk {w : World} (h2 : 2 ≤ w.heap.size) (h0 : ∃ elem fr, w.heap[0]? = some (.cells ((List.range 20).map fun i => Value.int .u64 ((10 ^ i : Nat) : Int)).toArray elem fr))
 (h1 : ∃ m elem fr, w.heap[1]? = some (.cells #[.int .i64 m] elem fr)) : AwakeOk w := fun W hW => by
 have e0 := hW.block 0 (by omega)
 have e1 := hW.block 1 (by omega)
 exact true_of (EA_ok.call 17 [] ⟨.leaf, 0, 0, 0⟩) awake_true (Nat.le_trans h2 hW.size) (by rw [e0]; exact h0) (by rw [e1]; exact h1)
end Go.Ev
