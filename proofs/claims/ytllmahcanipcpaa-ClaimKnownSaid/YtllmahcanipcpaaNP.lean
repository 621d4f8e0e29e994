/- The contract of claim's Open: the lots that can stay unpaid. -/
import Derived.Test.YtllmahcanipcpaaNO
import Derived.Maps.AppendAt
import Derived.OwnWalkIn
import Derived.TacticsInMore
import Derived.Deep.DeepCutAuto
set_option linter.unusedVariables false
set_option linter.unusedSimpArgs false
namespace Go.Proofs.Ytllmahcanipcpaa
open Go.RowKit
attribute [local go_sem ↓] Go.wp_at_zero Go.wp_at_succ
attribute [local go_sem] Oper.semAt_some

/-- The first lots that can stay unpaid. -/
def openTo (f : File) (j : Nat) : List Nat := (List.range j).filter fun i => !(truthsB f 0).all fun p => paysB f p i
def openV (f : File) : List Nat × Int := if enterE f 0 1 0 = 0 then (openTo f f.lots.length, 0) else ([], enterE f 0 1 0)
theorem openTo_succ (f : File) (j : Nat) : openTo f (j + 1) = openTo f j ++ if (truthsB f 0).all (fun p => paysB f p j) then [] else [j] := by
  rw [openTo, List.range_succ, List.filter_append]
  congr 1
  cases h : (truthsB f 0).all fun p => paysB f p j <;> simp [List.filter_cons, h]
theorem openTo_le (f : File) (j : Nat) : (openTo f j).length ≤ j := by
  have := List.length_filter_le (fun i : Nat => !(truthsB f 0).all fun p => paysB f p (i : Int)) (List.range j)
  simpa [openTo] using this
/-- What lies in cells is no mark's. -/
theorem marks_cell {B : Nat} {ds : List Deferred} {w w' : World} (h : MarksOk B ds w) (hk : Keep (fun k => ({ target := .collected k, args := #[] } : Deferred) ∈ ds) w w') {b o : Nat} {v : Value} (hc : w.cell? ⟨b, o, none⟩ = some v) : w'.cell? ⟨b, o, none⟩ = some v := by
  refine (hk.cell (cell_lt hc) (fun hm => ?_)).trans hc
  have key : ∀ {ds : List Deferred}, MarksOk B ds w → ∀ d ∈ ds, d = ({ target := .collected b, args := #[] } : Deferred) → w.heap[b]? = some (.deferred (some [])) := by
    intro ds
    induction ds with
    | nil => intro _ d hd; cases hd
    | cons d ds ih =>
      rintro ⟨⟨D, h1, h2, h3, h4⟩, h5⟩ e he he2
      rcases List.mem_cons.1 he with rfl | he
      · rw [h2] at he2; cases he2; exact h3
      · exact ih h5 e he he2
  have hb := key h _ hm rfl
  simp [World.cell?, hb] at hc
theorem marks_ints {B : Nat} {ds : List Deferred} {w w' : World} (h : MarksOk B ds w) (hk : Keep (fun k => ({ target := .collected k, args := #[] } : Deferred) ∈ ds) w w') {A : Option Addr} {n c : Nat} {xs : List Int} (hi : IntsS w w.heap.size A n c xs) : IntsS w' w'.heap.size A n c xs := by
  refine ⟨hi.len, hi.cap, hi.max, fun hn => ?_⟩
  obtain ⟨b, off, e, hb, hc⟩ := hi.row hn
  exact ⟨b, off, e, Nat.lt_of_lt_of_le hb hk.size, fun j hj => marks_cell h hk (hc j hj)⟩
theorem MarksOk.keepO {B : Nat} {S : Nat → Prop} {w w' : World} (hk : Keep S w w') (hS : ∀ k, S k → w.heap[k]? ≠ some (.deferred (some []))) : ∀ {ds : List Deferred}, MarksOk B ds w → MarksOk B ds w'
  | [], _ => trivial
  | d :: ds, ⟨⟨D, h1, h2, h3, h4⟩, h5⟩ => ⟨⟨D, h1, h2, (hk.block D (Array.getElem?_eq_some_iff.1 h3).1 (fun hs => hS D hs h3)).trans h3, h4⟩, h5.keepO hk hS⟩
theorem own_not {w : World} {base n size k : Nat} {v : Value} {xs : List Value} {e : TypeId} (h : w.ownsRow base e size v n xs) (hk : v.ownBlock = some k) : w.heap[k]? ≠ some (.deferred (some [])) := by
  obtain ⟨h1, h2⟩ := h
  rcases h2 with h' | ⟨g, cap, cur, h', hb, hg, r⟩
  · rw [h'.1] at hk; cases hk
  · rw [h'] at hk
    have : g = k := own_new hk
    subst this
    rw [hg]; intro e; cases e
theorem MarksOk.ge {B : Nat} {w : World} : ∀ {ds : List Deferred} {D : Nat}, MarksOk B ds w → ({ target := .collected D, args := #[] } : Deferred) ∈ ds → B ≤ D
  | d :: ds, D, ⟨⟨D', h1, h2, h3, h4⟩, h5⟩, hm => by
    rcases List.mem_cons.1 hm with e | hm
    · rw [h2] at e
      have e' : D = D' := by injection e with e1 e2; injection e1
      rw [e']; exact h1
    · exact h5.ge hm
theorem Known.not_mark {w : World} {b : Nat} {V : List Int → Int} (h : Known w b V) : w.heap[b]? ≠ some (.deferred (some [])) := by
  obtain ⟨es, c, hb, _⟩ := h
  rw [hb]; intro e; cases e
theorem Blk.not_mark {w : World} {g : Nat} {T : TypeId} {vs : Array Value} (h : Blk w g T vs) : w.heap[g]? ≠ some (.deferred (some [])) := by
  rw [show w.heap[g]? = _ from h]; intro e; cases e
theorem wpListIn_append_at {F : Fence} {nF : Nat} {P : Program} {ops : Array Oper} {rest : List Oper} {o : Oper} {a : Act} {Q : Exit → Act → World → Prop} (w : World) (hgd : o.guard = none) (s x : Operand) (t : TypeId)
    (ho : o.op = .call { callee := .builtin .append, args := #[s, x], argTypes := #[t, t] }) (base : Nat) (e : TypeId) (i : TypeInfo) (z : Value) (size bytes : Nat) (ht : P.underlying t = some (.slice e)) (hi : P.info? e = some i) (hz : i.zero = some z)
    (hsize : i.size = size) (hby : i.bytes = bytes) (hzs : z.cells.size = size) (hsz : 0 < size) (v : Value) (n : Nat) (xs : List Value) (hs : a.eval s = v) (hown : w.ownsRow base e size v n xs)
    (ad : Addr) (m c : Nat) (news : List Value) (hx : a.eval x = .slice (some ad) m c) (hn : news.length = m * size)
    (hc : ∀ j u, news[j]? = some u → w.cell? (ad.add j) = some u) (h1c : ∀ u ∈ news, u.oneCell' = true) (b1 : n + m ≤ maxLen) (b2 : (n + m) * bytes ≤ 140737488355328) (b3 : base ≤ w.heap.size)
    (hK : ∀ v' w', w'.ownsRow base e size v' (n + m) (xs ++ news) → w.grownBy w' v.ownBlock → (v'.ownBlock = v.ownBlock ∨ v'.ownBlock = some w.heap.size) → wpListIn F nF P ops Q rest (a.put o.dst v') w') :
    wpListIn F nF P ops Q (o :: rest) a w := by
  refine wpListIn_plain hgd fun K hK' => ?_
  obtain ⟨v', w', hrun, h2, h3, _, h5⟩ := run_append_own_at (P := P) w base t o.type e i z size bytes ht hi hz hsize hby hzs hsz v n xs hown ad m c news hn hc h1c b1 b2 b3
  unfold Oper.wpIn
  refine ⟨?_, ?_⟩
  · simp [Oper.about, ho, resolve, Target.leads, Sem.run_pure]
  · rw [Oper.semAt_plain F _ _ (by rw [ho]; intro c hc'; cases hc')]
    simp [execOp, ho, resolve, invoke, builtin, hs, hx, hrun, Result.andThen]
    exact hK' _ _ (hK v' w' h2 h3 h5)
set_option maxHeartbeats 4000000 in
set_option maxRecDepth 100000 in
theorem open_any {w : World} {f : File} {fa : FA} (h : FileV w w.heap.size f fa) :
    Calls Try.prog 19 #[fileVal f fa] w fun e w' => ∃ A cp, e = .returned (.tuple #[.slice A (openV f).1.length cp, .int .i64 (openV f).2]) ∧ IntsS w' w'.heap.size A (openV f).1.length cp (natInts (openV f).1) ∧ Below w.heap.size w w' := by
  have hB0 : Below w.heap.size w ((w.alloc (.cells (fileCells f fa) 28)).alloc (.cells #[.slice none 0 0] 23)) := ((Below.refl _ _).alloc (Nat.le_refl _) _).alloc (by simp) _
  have q1 : Blk ((w.alloc (.cells (fileCells f fa) 28)).alloc (.cells #[.slice none 0 0] 23)) w.heap.size 28 (fileCells f fa) := Blk.made.alloc _
  have q2 : Blk ((w.alloc (.cells (fileCells f fa) 28)).alloc (.cells #[.slice none 0 0] 23)) (w.heap.size + 1) 23 #[.slice none 0 0] := Blk.made' (by simp)
  have HC0 := hide (h.next hB0)
  have H00 := hide h
  have HQ1 := hide q1
  have HQ2 := hide q2
  have HB0 := hide hB0
  clear h hB0 q1 q2
  refine (callsIn_wide (n := 0)).1 (callsIn_of_wp_marks Try.func19 rfl trivial ?_ rfl)
  refine (wpIn_wide (n := 0)).2 ?_
  simp only [Try.ntmps19, List.size_toArray, List.length_cons, List.length_nil, Nat.reduceAdd, Nat.reduceSub, Array.replicate_succ, Array.replicate_zero, List.push_toArray, List.append_toArray, List.nil_append, List.cons_append]
  go_wp2_with fail
  go_step3
  go_wp2_with fail
  generalize ((w.alloc (.cells (fileCells f fa) 28)).alloc (.cells #[.slice none 0 0] 23)) = w0 at *
  have hz00 := HQ2.out.lt
  refine (enter_any HC0.out 0 1 0 (by omega)).mono ?_
  rintro e w1 (⟨hE, hv, b, bm, rfl, hbb, hbm, hL, hB1⟩ | ⟨hE, rfl, hB1⟩)
  · have HX := hide (show openV f = (openTo f f.lots.length, 0) by rw [openV, if_pos hE])
    have hz01 := hB1.size
    have hB2 : Below w1.heap.size w1 (w1.alloc (.cells #[.pointer (some ⟨b, 0, none⟩)] 79)) := (Below.refl _ _).alloc (Nat.le_refl _) _
    have HV := hide hv
    have HB1 := hide (HB0.out.trans (hB1.mono HB0.out.size))
    have HR1 := hide ((HQ1.out.next hB1).next hB2)
    have HR2 := hide ((HQ2.out.next hB1).next hB2)
    have HR3 : Hid (Blk (w1.alloc (.cells #[.pointer (some ⟨b, 0, none⟩)] 79)) w1.heap.size 79 #[.pointer (some ⟨b, 0, none⟩)]) := hide Blk.made
    have HL := hide ((hL.less (H00.out.below HB1.out) HB1.out.size).still hB2)
    have HB2 := hide hB2
    have hll := hv.lots
    have hm3 := HC0.out.m3
    have hb1 := hL.hb
    have hbm1 := hL.hm
    have r2 := (HR1.out).at_ 2
    simp only [fileCells, List.getElem?_toArray, List.getElem?_cons_zero, List.getElem?_cons_succ] at r2
    clear hE hv hL hB1 hB2
    go_wp2_with fail
    go_step3
    go_wp2_with fail
    generalize (w1.alloc (.cells #[.pointer (some ⟨b, 0, none⟩)] 79)) = w2 at *
    have hz2 := HR3.out.lt
    obtain ⟨Inv, hInv⟩ : ∃ Inv : Act → World → Prop, Inv = (fun a W => ∃ (j : Nat) (v5 v19 v20 v21 v22 v33 v : Value) (ds : List Deferred), a = { tmps := #[fileVal f fa, .pointer (some ⟨w.heap.size, 0, none⟩), .pointer (some ⟨w.heap.size + 1, 0, none⟩), .int .i64 (0), .pointer (some ⟨w1.heap.size, 0, none⟩), v5, undef, .tuple #[.pointer (some ⟨b, 0, none⟩), .int .i64 (0)], fileVal f fa, .tuple #[.pointer (some ⟨b, 0, none⟩), .int .i64 (0)], .pointer (some ⟨b, 0, none⟩), .int .i64 (0), .int .i64 (0), .bool false, undef, .pointer (some ⟨w.heap.size, 2, none⟩), .slice fa.A3 f.lots.length fa.c3, .int .i64 (f.lots.length : Nat), .int .i64 (j : Nat), v19, v20, v21, v22, undef, undef, undef, undef, undef, undef, undef, undef, undef, undef, v33, undef], defers := ds } ∧ j ≤ f.lots.length ∧ Blk W w.heap.size 28 (fileCells f fa) ∧ Blk W (w.heap.size + 1) 23 #[v] ∧ Blk W w1.heap.size 79 #[.pointer (some ⟨b, 0, none⟩)] ∧
      W.ownsRow w2.heap.size 3 1 v (openTo f j).length ((natInts (openTo f j)).map (Value.int .i64)) ∧ LookG W w.heap.size b bm f fa (0 : Nat) (paidV f) ∧ MarksOk w.heap.size ds W ∧ Below w.heap.size w W ∧ w2.heap.size ≤ W.heap.size) := ⟨_, rfl⟩
    obtain ⟨mu, hmu⟩ : ∃ mu : Act → World → Nat, mu = (fun a _ => f.lots.length - (intOf (a.tmps.getD 18 undef)).toNat) := ⟨_, rfl⟩
    have HIN := hide hInv
    have HMU := hide hmu
    clear hInv hmu
    refine wp_loop Inv mu ?start ?round
    case start => rw [HIN.out]; exact ⟨0, _, _, _, _, _, _, _, _, rfl, Nat.zero_le _, HR1.out, HR2.out, HR3.out, ⟨rfl, .inl ⟨rfl, rfl⟩⟩, HL.out, trivial, HB1.out.trans (HB2.out.mono HB1.out.size), Nat.le_refl _⟩
    case round =>
      intro a W hI
      rw [HIN.out] at hI
      obtain ⟨j, v5, v19, v20, v21, v22, v33, v, ds, rfl, hj, i1, i2, i3, i4, i5, i6, i7, i8⟩ := hI
      have hj0 : (0 : Int) ≤ (j : Int) := Int.natCast_nonneg _
      have r3 := i3.at_ 0
      simp only [List.getElem?_toArray, List.getElem?_cons_zero] at r3
      by_cases hlt : j < f.lots.length
      · have hj1 : (j : Int) < (f.lots.length : Int) := by omega
        have I1 := hide i1
        have I2 := hide i2
        have I3 := hide i3
        have I4 := hide i4
        have I5 := hide i5
        have I6 := hide i6
        have I7 := hide i7
        have hzw := i3.lt
        have HME := hide (show mu { tmps := #[fileVal f fa, .pointer (some ⟨w.heap.size, 0, none⟩), .pointer (some ⟨w.heap.size + 1, 0, none⟩), .int .i64 (0), .pointer (some ⟨w1.heap.size, 0, none⟩), v5, undef, .tuple #[.pointer (some ⟨b, 0, none⟩), .int .i64 (0)], fileVal f fa, .tuple #[.pointer (some ⟨b, 0, none⟩), .int .i64 (0)], .pointer (some ⟨b, 0, none⟩), .int .i64 (0), .int .i64 (0), .bool false, undef, .pointer (some ⟨w.heap.size, 2, none⟩), .slice fa.A3 f.lots.length fa.c3, .int .i64 (f.lots.length : Nat), .int .i64 (j : Nat), v19, v20, v21, v22, undef, undef, undef, undef, undef, undef, undef, undef, undef, undef, v33, undef], defers := ds } W = f.lots.length - j by rw [HMU.out]; simp [intOf])
        rw [HME.out]
        clear i1 i2 i3 i4 i5 i6 i7
        go_wp2_with fail
        have q5 : Blk (W.alloc (.cells #[.int .i64 (j : Int)] 3)) W.heap.size 3 #[.int .i64 (j : Int)] := Blk.made
        have hba : Below W.heap.size W (W.alloc (.cells #[.int .i64 (j : Int)] 3)) := (Below.refl _ _).alloc (Nat.le_refl _) _
        generalize W.alloc (.cells #[.int .i64 (j : Int)] 3) = wa at *
        refine truths_any.mono ?_
        rintro e wb ⟨p1, rfl, hp1, hp1', e1, hbb2⟩
        have hbab := hba.trans (hbb2.mono hba.size)
        have hza := q5.lt
        have hzb := hbb2.size
        have n1 := I1.out.next hbab
        have n2 := I2.out.next hbab
        have n3 := I3.out.next hbab
        have n4 := own_stab I4.out (fun k hk _ => hbab.block k hk)
        have n5 := q5.next hbb2
        have HL5 := hide (I5.out.still hbab)
        have M6 := hide (I6.out.keep (Keep.of_below' hbab (fun _ => False)) (fun _ h => h.elim))
        have HB7 := hide (I7.out.trans (hbab.mono I7.out.size))
        have hvb : ∀ k, v.ownBlock = some k → w2.heap.size ≤ k ∧ k < W.heap.size := fun k hk => World.ownsRow.lt I4.out k hk
        have HVB := hide hvb
        have HGE : Hid (∀ k, (k = bm ∨ k = w.heap.size + 1 ∨ v.ownBlock = some k) → w.heap.size ≤ k) := fun k h => by
          rcases h with h | h | h
          · omega
          · omega
          · have := hvb k h; omega
        clear hba hbab hbb2 q5 hvb
        go_wp2_with fail
        refine range_truths (f := f) (A := fun x g => { tmps := #[fileVal f fa, .pointer (some ⟨w.heap.size, 0, none⟩), .pointer (some ⟨w.heap.size + 1, 0, none⟩), .int .i64 (0), .pointer (some ⟨w1.heap.size, 0, none⟩), .pointer (some ⟨W.heap.size, 0, none⟩), .pointer (some ⟨g, 0, none⟩), .tuple #[.pointer (some ⟨b, 0, none⟩), .int .i64 (0)], fileVal f fa, .tuple #[.pointer (some ⟨b, 0, none⟩), .int .i64 (0)], .pointer (some ⟨b, 0, none⟩), .int .i64 (0), .int .i64 (0), .bool false, undef, .pointer (some ⟨w.heap.size, 2, none⟩), .slice fa.A3 f.lots.length fa.c3, .int .i64 (f.lots.length : Nat), .int .i64 (j : Nat), .bool true, .int .i64 (j : Nat), .pointer (some ⟨b, 0, none⟩), .func (.func 77) #[] #[.pointer (some ⟨p1, 0, none⟩)], plVal x, undef, undef, undef, undef, undef, undef, undef, undef, undef, v33, undef], defers := [] }) rfl rfl HL5.out HV.out (by omega : 0 < 32) e1
          (fun k => k = w.heap.size + 1 ∨ v.ownBlock = some k) (fun k hk => by rcases hk with hk | hk; · omega
                                                                               · have := HVB.out k hk; omega)
          (fun pre W' => Blk W' w.heap.size 28 (fileCells f fa) ∧ Blk W' (w.heap.size + 1) 23 #[v] ∧ Blk W' w1.heap.size 79 #[.pointer (some ⟨b, 0, none⟩)] ∧ Blk W' W.heap.size 3 #[.int .i64 (j : Int)] ∧
            W'.ownsRow w2.heap.size 3 1 v (openTo f j).length ((natInts (openTo f j)).map (Value.int .i64)) ∧ pre.all (fun p => paysB f p j) = true)
          (fun cd pre W' => cd = .exit 1 ∧ pre.all (fun p => paysB f p j) = false ∧ Blk W' w.heap.size 28 (fileCells f fa) ∧ Blk W' w1.heap.size 79 #[.pointer (some ⟨b, 0, none⟩)] ∧
            ∃ v', Blk W' (w.heap.size + 1) 23 #[v'] ∧ W'.ownsRow w2.heap.size 3 1 v' (openTo f j ++ [j]).length ((natInts (openTo f j ++ [j])).map (Value.int .i64)) ∧ v'.ownBlock ≠ some (wb.heap.size + 1)) ?hI ?hIx ?h0 ?hass ?body ?done ?stop
        case hI =>
          rintro pre V V' ⟨i1, i2, i3, i4, i5, i6⟩ hk
          exact ⟨i1.keep hk (by omega), i2.keep hk (by omega), i3.keep hk (by omega), i4.keep hk (by omega), own_stab i5 (fun k hkl e => hk.block k hkl (by have := HVB.out k e; omega)), i6⟩
        case hIx =>
          rintro cd pre V V' ⟨i1, i2, i3, i4, v', i5, i6, i7⟩ hk
          exact ⟨i1, i2, i3.keep hk (by omega), i4.keep hk (by omega), v', i5.keep hk (by omega), own_stab i6 (fun k hkl e => hk.block k hkl (fun h => i7 (by rw [e, h]))), i7⟩
        case h0 => exact ⟨n1, n2, n3, n5, n4, rfl⟩
        case hass =>
          intro l x W1
          simp only [plVal, iv]
          gi_wp2
        case body =>
          rintro l pre x W3 g hg hl hx0 hx ⟨i1, i2, i3, i4, i5, i6⟩ hLW hp hz4
          have hgz := hp.lt
          have r1 := i3.at_ 0
          have r5 := i4.at_ 0
          have x0 := hp.at_ 0
          have x1 := hp.at_ 1
          have x2 := hp.at_ 2
          have x3 := hp.at_ 3
          simp only [List.getElem?_toArray, List.getElem?_cons_zero, List.getElem?_cons_succ] at r1 r5 x0 x1 x2 x3
          have hzj := i4.lt
          have hz31 := i3.lt
          have HP := hide (pays_any2 hLW HV.out hx (j : Int))
          have HLW := hide hLW
          have HI1 := hide i1
          have HI2 := hide i2
          have HI3 := hide i3
          have HI4 := hide i4
          have HI5 := hide i5
          have HI6 := hide i6
          clear i1 i2 i3 i4 i5 i6 hLW hp
          refine wpIn_block ?_
          simp only [plVal, iv]
          gi_wp2_with fail
          refine ⟨trivial, rfl, CallsIn.inRound _ (callsIn_wide.2 (HP.out.mono ?_))⟩
          rintro e w5 ⟨rfl, hk5, hn5⟩
          have HK5 := hide hk5
          have HN5 := hide hn5
          have m2 := HI2.out.keep hk5 (by omega)
          have m4 := HI4.out.keep hk5 (by omega)
          have m5 := own_stab HI5.out (fun k hkl e => hk5.block k hkl (by have := HVB.out k e; omega))
          have r2 := m2.at_ 0
          have f2 := m2.free 0
          have r5 := m4.at_ 0
          simp only [List.getElem?_toArray, List.getElem?_cons_zero] at r2 r5
          have hz5 := hk5.size
          have h2z := m2.lt
          have h4z := m4.lt
          have HM5 := hide m5
          have HM2 := hide m2
          clear hk5 hn5 x0 x1 x2 x3 r1 m2 m4 m5
          cases hpb : paysB f x (j : Int) with
          | true =>
            have HPB := hide hpb
            clear hpb
            gi_wp2_with fail
            exact ⟨HK5.out.mono (fun k _ h => .inl h), HN5.out, HI1.out.keep HK5.out (by omega), HM2.out, HI3.out.keep HK5.out (by omega), HI4.out.keep HK5.out (by omega), HM5.out, by rw [List.all_append, HI6.out, List.all_cons, HPB.out]; rfl⟩
          | false =>
            have HPB := hide hpb
            have hle := openTo_le f j
            obtain ⟨i0, hi, hz0', hz1', hz2'⟩ := info_parts Try.infoInt
            clear hpb
            gi_wp2_with (gi_at_builtin; refine wpListIn_append_at _ rfl _ _ 23 rfl w2.heap.size 3 i0 (.int .i64 0) 1 8 Try.underlying23 hi hz0' hz1' hz2' rfl (by decide) _ _ _ rfl (HM5.out.alloc _) ⟨w5.heap.size, 0, none⟩ 1 1 [.int .i64 (j : Int)] rfl rfl (cell_one_new _ _ _) (by simp [Value.oneCell']) (by unfold maxLen; omega) (by omega) (by simp; omega) ?_; intro v' w6 hown' hgrow hnew; obtain ⟨g', cap', rfl⟩ := ownsRow_succ hown'; have hb6 := (HM2.out.alloc (.cells #[.int .i64 (j : Int)] 3)).keep (Keep.of_grown hgrow) (fun e => by have := HVB.out _ e.symm; omega); have c6 := hb6.at_ 0; have f6 := hb6.free 0)
            have hsnoc : (natInts (openTo f j)).map (Value.int .i64) ++ [.int .i64 (j : Int)] = (natInts (openTo f j ++ [j])).map (Value.int .i64) := by simp [natInts]
            rw [hsnoc] at hown'
            have hg' : g' ≠ wb.heap.size + 1 ∧ g' ≠ w.heap.size + 1 := by
              have hlt := World.ownsRow.lt hown' g' rfl
              rcases hnew with hnew | hnew
              · have := HVB.out g' hnew.symm; omega
              · have : g' = w5.heap.size + 1 := by simpa [Value.ownBlock] using hnew
                omega
            have hkC : Keep (fun k => k = bm ∨ k = w.heap.size + 1 ∨ v.ownBlock = some k) W3 w6 := (HK5.out.mono (fun k _ h => .inl h)).trans ((Keep.alloc w5 _ _).trans ((Keep.of_grown hgrow).mono (fun k _ h => .inr (.inr h.symm))))
            have hkS := Keep.setCell w6 ⟨w.heap.size + 1, 0, none⟩ (.slice (some ⟨g', 0, none⟩) ((openTo f j).length + 1) cap') (fun k => k = w.heap.size + 1) rfl
            have hkx : Keep (fun k => v.ownBlock = some k) w5 w6 := (Keep.alloc w5 _ _).trans ((Keep.of_grown hgrow).mono (fun k _ h => h.symm))
            have hbm5 : ¬ v.ownBlock = some bm := fun h => by have := HVB.out bm h; omega
            refine ⟨hkC.trans (hkS.mono (fun k _ h => .inr (.inl h))), (HN5.out.keep hkx hbm5).keep hkS (by omega), rfl, by rw [List.all_append, HI6.out, List.all_cons, HPB.out]; rfl, ?_, ?_, _, hb6.store 0 _, ?_, ?_⟩
            · exact ((HI1.out.keep HK5.out (by omega)).keep hkx (fun h => by have := HVB.out _ h; omega)).keep hkS (by omega)
            · exact ((HI3.out.keep HK5.out (by omega)).keep hkx (fun h => by have := HVB.out _ h; omega)).keep hkS (by omega)
            · rw [List.length_append]
              exact own_stab hown' (fun k hk e => hkS.block k hk (by have : g' = k := own_new e; omega))
            · intro e; exact hg'.1 (own_new e)
        case done =>
          rintro D W' hD ⟨i1, i2, i3, i4, i5, i6⟩ hLW hk hd
          have hms : MarksOk w.heap.size ({ target := .collected D, args := #[] } :: ds) W' := M6.out.cons (MarksOk.keepO hk (fun k hk => by
            rcases hk with rfl | rfl | hk
            · exact HL5.out.k.not_mark
            · exact n2.not_mark
            · exact own_not n4 hk) M6.out) hD (by have := HB7.out.size; omega) hd
          have hbw : Below w.heap.size w W' := HB7.out.trans (hk.below HGE.out (by have := HB7.out.size; omega))
          have hz7 := hk.size
          have HFIN : Hid (∀ v5 v19 v20 v21 v22 v33, Inv { tmps := #[fileVal f fa, .pointer (some ⟨w.heap.size, 0, none⟩), .pointer (some ⟨w.heap.size + 1, 0, none⟩), .int .i64 (0), .pointer (some ⟨w1.heap.size, 0, none⟩), v5, undef, .tuple #[.pointer (some ⟨b, 0, none⟩), .int .i64 (0)], fileVal f fa, .tuple #[.pointer (some ⟨b, 0, none⟩), .int .i64 (0)], .pointer (some ⟨b, 0, none⟩), .int .i64 (0), .int .i64 (0), .bool false, undef, .pointer (some ⟨w.heap.size, 2, none⟩), .slice fa.A3 f.lots.length fa.c3, .int .i64 (f.lots.length : Nat), .int .i64 ((j + 1 : Nat) : Int), v19, v20, v21, v22, undef, undef, undef, undef, undef, undef, undef, undef, undef, undef, v33, undef], defers := { target := .collected D, args := #[] } :: ds } W' ∧ mu { tmps := #[fileVal f fa, .pointer (some ⟨w.heap.size, 0, none⟩), .pointer (some ⟨w.heap.size + 1, 0, none⟩), .int .i64 (0), .pointer (some ⟨w1.heap.size, 0, none⟩), v5, undef, .tuple #[.pointer (some ⟨b, 0, none⟩), .int .i64 (0)], fileVal f fa, .tuple #[.pointer (some ⟨b, 0, none⟩), .int .i64 (0)], .pointer (some ⟨b, 0, none⟩), .int .i64 (0), .int .i64 (0), .bool false, undef, .pointer (some ⟨w.heap.size, 2, none⟩), .slice fa.A3 f.lots.length fa.c3, .int .i64 (f.lots.length : Nat), .int .i64 ((j + 1 : Nat) : Int), v19, v20, v21, v22, undef, undef, undef, undef, undef, undef, undef, undef, undef, undef, v33, undef], defers := { target := .collected D, args := #[] } :: ds } W' < f.lots.length - j) := fun v5 v19 v20 v21 v22 v33 => by
            rw [HIN.out, HMU.out]
            refine ⟨⟨j + 1, v5, v19, v20, v21, v22, v33, v, { target := .collected D, args := #[] } :: ds, rfl, hlt, i1, i2, i3, ?_, hLW, hms, hbw, by omega⟩, by simp [intOf]; omega⟩
            rw [openTo_succ, i6, if_pos rfl, List.append_nil]; exact i5
          clear i1 i2 i3 i4 i5 i6 hLW hk hd hms hbw
          go_wp2_with fail
          exact HFIN.out _ _ _ _ _ _
        case stop =>
          rintro D cd q W' hD hq hqp ⟨rfl, i1, i2, i3, v', i4, i5, i6⟩ hLW hk hd
          have hms : MarksOk w.heap.size ({ target := .collected D, args := #[] } :: ds) W' := M6.out.cons (MarksOk.keepO hk (fun k hk => by
            rcases hk with rfl | rfl | hk
            · exact HL5.out.k.not_mark
            · exact n2.not_mark
            · exact own_not n4 hk) M6.out) hD (by have := HB7.out.size; omega) hd
          have hbw : Below w.heap.size w W' := HB7.out.trans (hk.below HGE.out (by have := HB7.out.size; omega))
          have hz7 := hk.size
          have HFIN : Hid (∀ v5 v19 v20 v21 v22 v33, Inv { tmps := #[fileVal f fa, .pointer (some ⟨w.heap.size, 0, none⟩), .pointer (some ⟨w.heap.size + 1, 0, none⟩), .int .i64 (0), .pointer (some ⟨w1.heap.size, 0, none⟩), v5, undef, .tuple #[.pointer (some ⟨b, 0, none⟩), .int .i64 (0)], fileVal f fa, .tuple #[.pointer (some ⟨b, 0, none⟩), .int .i64 (0)], .pointer (some ⟨b, 0, none⟩), .int .i64 (0), .int .i64 (0), .bool false, undef, .pointer (some ⟨w.heap.size, 2, none⟩), .slice fa.A3 f.lots.length fa.c3, .int .i64 (f.lots.length : Nat), .int .i64 ((j + 1 : Nat) : Int), v19, v20, v21, v22, undef, undef, undef, undef, undef, undef, undef, undef, undef, undef, v33, undef], defers := { target := .collected D, args := #[] } :: ds } W' ∧ mu { tmps := #[fileVal f fa, .pointer (some ⟨w.heap.size, 0, none⟩), .pointer (some ⟨w.heap.size + 1, 0, none⟩), .int .i64 (0), .pointer (some ⟨w1.heap.size, 0, none⟩), v5, undef, .tuple #[.pointer (some ⟨b, 0, none⟩), .int .i64 (0)], fileVal f fa, .tuple #[.pointer (some ⟨b, 0, none⟩), .int .i64 (0)], .pointer (some ⟨b, 0, none⟩), .int .i64 (0), .int .i64 (0), .bool false, undef, .pointer (some ⟨w.heap.size, 2, none⟩), .slice fa.A3 f.lots.length fa.c3, .int .i64 (f.lots.length : Nat), .int .i64 ((j + 1 : Nat) : Int), v19, v20, v21, v22, undef, undef, undef, undef, undef, undef, undef, undef, undef, undef, v33, undef], defers := { target := .collected D, args := #[] } :: ds } W' < f.lots.length - j) := fun v5 v19 v20 v21 v22 v33 => by
            rw [HIN.out, HMU.out]
            have hno : (truthsB f 0).all (fun p => paysB f p j) = false := by
              obtain ⟨r, hr⟩ := hqp
              rw [← hr, List.all_append, i1]; rfl
            refine ⟨⟨j + 1, v5, v19, v20, v21, v22, v33, v', { target := .collected D, args := #[] } :: ds, rfl, hlt, i2, i4, i3, ?_, hLW, hms, hbw, by omega⟩, by simp [intOf]; omega⟩
            rw [openTo_succ, hno]; exact i5
          clear i1 i2 i3 i4 i5 i6 hLW hk hd hms hbw hqp
          refine wpIn_exit ?_
          go_wp2_with fail
          exact HFIN.out _ _ _ _ _ _
      · obtain rfl : j = f.lots.length := by omega
        obtain ⟨A, cp, rfl, -⟩ := own_ex i4
        have r2' := i2.at_ 0
        have f2' := i2.free 0
        simp only [List.getElem?_toArray, List.getElem?_cons_zero] at r2'
        have hzw := i2.lt
        have I2 := hide i2
        have I4 := hide i4
        have I6 := hide i6
        have I7 := hide i7
        clear i1 i2 i3 i4 i5 i6 i7
        go_wp2_with fail
        have hs := Keep.setCell W ⟨w.heap.size + 1, 0, none⟩ (.slice A (openTo f f.lots.length).length cp) (fun k => k = w.heap.size + 1) rfl
        have b2 := I2.out.store 0 (.slice A (openTo f f.lots.length).length cp)
        have hi := ints_own (own_stab I4.out (fun k hk e => hs.block k hk (by have := (World.ownsRow.lt I4.out k e); omega)))
        have hbw := I7.out.trans (hs.below (fun k h => by omega) I7.out.size)
        have hms : MarksOk w.heap.size ds _ := MarksOk.keepO hs (fun k hk => by rw [hk]; exact I2.out.not_mark) I6.out
        generalize W.setCell ⟨w.heap.size + 1, 0, none⟩ (.slice A (openTo f f.lots.length).length cp) = wz at *
        refine leaves_marks2 hms (fun w' hkw' => ?_)
        have r2'' := marks_cell hms hkw' (b2.at_ 0)
        refine ⟨.tuple #[.slice A (openTo f f.lots.length).length cp, .int .i64 0], by simp [results, Try.results19, go_sem, r2''], A, cp, by rw [HX.out], ?_, ?_⟩
        · rw [HX.out]
          exact marks_ints hms hkw' hi
        · exact hbw.trans (hkw'.below (fun k h => hms.ge h) hbw.size)
  · have HX := hide (show openV f = ([], enterE f 0 1 0) by rw [openV, if_neg hE])
    generalize hEE : enterE f 0 1 0 = E at *
    have hnb : (E != 0) = true := by simpa using hE
    have HB1 := hide (HB0.out.trans (hB1.mono HB0.out.size))
    have q2 := HQ2.out.next hB1
    have g2 := q2.free 0
    have r2 := q2.at_ 0
    simp only [List.getElem?_toArray, List.getElem?_cons_zero] at r2
    have hz1 := q2.lt
    clear hEE hE hB1
    go_wp2_with fail
    rw [Exit.noGoto_ret]
    have hs := Keep.setCell w1 ⟨w.heap.size + 1, 0, none⟩ (.slice none 0 0) (fun k => k = w.heap.size + 1) rfl
    have b2 := (q2.store 0 (.slice none 0 0)).alloc (.cells #[.pointer none] 79)
    have hbe := (HB1.out.trans (hs.below (fun k h => by omega) HB1.out.size)).alloc (by have := HB1.out.size; have := hs.size; omega) (.cells #[.pointer none] 79)
    refine leaves_marks2 (B := 0) (ds := []) trivial (fun w' hkw' => ?_)
    have r2' := (b2.keep hkw' (by simp)).at_ 0
    simp only [List.setIfInBounds_toArray, List.set_cons_zero, List.getElem?_toArray, List.getElem?_cons_zero] at r2'
    refine ⟨.tuple #[.slice none 0 0, .int .i64 E], by simp [results, Try.results19, go_sem, r2'], none, 0, by rw [HX.out]; rfl, by rw [HX.out]; exact IntsS.nil_, ?_⟩
    exact hbe.trans (hkw'.below (fun k h => by simp at h) hbe.size)
end Go.Proofs.Ytllmahcanipcpaa
