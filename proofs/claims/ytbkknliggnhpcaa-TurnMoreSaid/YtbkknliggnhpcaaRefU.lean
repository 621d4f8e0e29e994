/- The contract of the law's Told of chapter 07: a cargo whose looks are such as a way makes them. -/
import Derived.Test.YtbkknliggnhpcaaRefT
import Derived.Test.YtbkknliggnhpcaaLawA
set_option linter.unusedVariables false
set_option linter.unusedSimpArgs false
namespace Go.Proofs.Ytbkknliggnhpcaa
open Go.RowKit
attribute [local go_sem ↓] Go.wp_at_zero Go.wp_at_succ

theorem wpList_app_row {P : Program} {ops : Array Oper} {rest : List Oper} {o : Oper} {a : Act} {Q : Exit → Act → World → Prop} (w : World) (hgd : o.guard = none) (s x : Operand) (t : TypeId)
    (ho : o.op = .call { callee := .builtin .append, args := #[s, x], argTypes := #[t, t] }) (base : Nat) (e : TypeId) (i : TypeInfo) (z : Value) (size bytes : Nat) (ht : P.underlying t = some (.slice e)) (hi : P.info? e = some i) (hz : i.zero = some z)
    (hsize : i.size = size) (hby : i.bytes = bytes) (hzs : z.cells.size = size) (hsz : 0 < size) (v : Value) (n : Nat) (xs : List Value) (hs : a.eval s = v) (hown : w.ownsRow base e size v n xs)
    (A : Option Addr) (m c B : Nat) (f : Nat → Value) (hx : a.eval x = .slice A m c) (h : Row w B A (m * size) f) (h1 : ∀ j, j < m * size → (f j).oneCell' = true)
    (h63 : n + m ≤ maxLen) (hbytes : (n + m) * bytes ≤ 140737488355328) (hbase : base ≤ w.heap.size)
    (hk : ∀ v' w', w'.ownsRow base e size v' (n + m) (xs ++ (List.range (m * size)).map f) → w.grownBy w' v.ownBlock → (v'.ownBlock = v.ownBlock ∨ v'.ownBlock = some w.heap.size) → wpList P ops Q rest (a.put o.dst v') w') : wpList P ops Q (o :: rest) a w := by
  obtain ⟨v', w', hrun, h2, h3, h4⟩ := run_app_row w base t o.type e i z size bytes ht hi hz hsize hby hzs hsz hown h h1 h63 hbytes hbase
  refine wpList_plain hgd fun K hK => ?_
  unfold Oper.wp execOp
  simp only [ho, resolve, invoke, builtin, Sem.run_bind, Sem.run_pure, Result.andThen_ok, List.map_toArray, List.map_cons, List.map_nil, hs, hx]
  rw [hrun]
  exact hK _ _ (hk v' w' h2 h3 h4)
theorem Try.infoSeen : (Try.prog.info? 80).map (fun i => (i.zero, i.size, i.bytes)) = some (some (.agg #[.int .i64 0, .int .i64 0, .bool false]), 3, 24) := by kernel_rfl
theorem seen_one (xs : List Seen) (j n : Nat) (_ : j < n) : (seenF xs j).oneCell' = true := by
  unfold seenF
  split <;> rfl
/-- A look as it is. -/
def toldS (T : List Int) (s : Seen) : Seen := { s with turned := decide (nth T s.lot.toNat ≤ s.hour) }
def toldC (c : Cargo) (l : List Int) : Cargo := { c with seen := c.seen.map (toldS (trulyM c l [])) }
def ToldM (T : List Int) (s : List Seen) (i : Nat) (xs : List Seen) : Prop := xs.length = s.length ∧ ∀ q, q < s.length → nth xs q = if q < i then toldS T (nth s q) else nth s q
theorem ToldM.put {T : List Int} {s xs : List Seen} {i : Nat} (h : ToldM T s i xs) (hi : i < s.length) : ToldM T s (i + 1) (xs.set i (toldS T (nth s i))) := by
  obtain ⟨h1, h2⟩ := h
  refine ⟨by rw [List.length_set]; exact h1, fun q hq => ?_⟩
  by_cases e : q = i
  · subst e; rw [if_pos (Nat.lt_succ_self _)]; simp [nth, h1, hq]
  · have : nth (xs.set i (toldS T (nth s i))) q = nth xs q := by simp [nth, List.getElem?_set, Ne.symm e]
    rw [this, h2 q hq]
    by_cases h3 : q < i
    · rw [if_pos h3, if_pos (by omega)]
    · rw [if_neg h3, if_neg (by omega)]
theorem ToldM.done {T : List Int} {s xs : List Seen} (h : ToldM T s s.length xs) : xs = s.map (toldS T) := by
  refine List.ext_getElem (by rw [h.1, List.length_map]) fun q h1 h2 => ?_
  have hq : q < s.length := by rw [← h.1]; exact h1
  have := h.2 q hq
  rw [if_pos hq, nth_eq h1, nth_eq hq] at this
  rw [this, List.getElem_map]
theorem range_set3 {n i : Nat} (hi : i < n) (xs : List Seen) (hx : xs.length = n) (s : Seen) :
    (((((List.range (n * 3)).map (seenF xs)).set (i * 3) (.int .i64 s.lot)).set (i * 3 + 1) (.int .i64 s.hour)).set (i * 3 + 2) (.bool s.turned)) = (List.range (n * 3)).map (seenF (xs.set i s)) := by
  apply List.ext_getElem (by simp)
  intro j h1 h2
  have hj : j < n * 3 := by simpa using h2
  have e0 : nth (xs.set i s) i = s := by simp [nth, hx, hi]
  have e1 : ∀ k, k ≠ i → nth (xs.set i s) k = nth xs k := fun k hk => by simp [nth, List.getElem?_set, Ne.symm hk]
  simp only [List.getElem_set, List.getElem_map, List.getElem_range]
  by_cases a : i * 3 + 2 = j
  · subst a; rw [if_pos rfl, seenF, show (i * 3 + 2) % 3 = 2 by omega, show (i * 3 + 2) / 3 = i by omega, e0]; rfl
  · rw [if_neg a]
    by_cases b : i * 3 + 1 = j
    · subst b; rw [if_pos rfl, seenF, show (i * 3 + 1) % 3 = 1 by omega, show (i * 3 + 1) / 3 = i by omega, e0]; rfl
    · rw [if_neg b]
      by_cases d : i * 3 = j
      · subst d; rw [if_pos rfl, seenF, show (i * 3) % 3 = 0 by omega, show (i * 3) / 3 = i by omega, e0]; rfl
      · rw [if_neg d, seenF, seenF, e1 (j / 3) (by omega)]
theorem own_set {w : World} {base g n cap : Nat} {T : TypeId} {size : Nat} {vs : List Value} (h : w.ownsRow base T size (.slice (some ⟨g, 0, none⟩) n cap) n vs) (i : Nat) (u : Value) : (w.setCell ⟨g, i, none⟩ u).ownsRow base T size (.slice (some ⟨g, 0, none⟩) n cap) n (vs.set i u) :=
  (World.ownsRow.stored h i u).1
theorem own_addr {w : World} {base n cap : Nat} {T : TypeId} {size : Nat} {A : Option Addr} {vs : List Value} (h : w.ownsRow base T size (.slice A n cap) n vs) (hn : 0 < n) : ∃ g, A = some ⟨g, 0, none⟩ ∧ base ≤ g ∧ g < w.heap.size := by
  rcases h.2 with ⟨e, h0⟩ | ⟨g, cap', cur, e, hb, hg, _⟩
  · omega
  · simp only [Value.slice.injEq] at e
    exact ⟨g, e.1, hb, (Array.getElem?_eq_some_iff.1 hg).1⟩

set_option maxHeartbeats 1000000 in
set_option maxRecDepth 100000 in
theorem told_any {A1 A2 A3 A4 : Option Addr} {c1 c2 c3 c4 : Nat} {c : Cargo} {w : World} (h : CargoV w w.heap.size c A1 A2 A3 A4 c1 c2 c3 c4) (hval : Valid c) {Ax : Option Addr} {cx : Nat} {l : List Int} (hx : BytesS w w.heap.size Ax cx l) :
    Calls Try.prog 36 #[cargoVal c A1 A2 A3 A4 c1 c2 c3 c4, .slice Ax l.length cx] w fun e w' => ∃ A cp At ct, e = .returned (.tuple #[cargoVal (toldC c l) A1 A2 A3 A c1 c2 c3 cp, .slice At c.lots.length ct]) ∧ CargoV w' w'.heap.size (toldC c l) A1 A2 A3 A c1 c2 c3 cp ∧ IntsS w' w'.heap.size At c.lots.length ct (trulyM c l []) ∧ Below w.heap.size w w' := by
  have hm3 := h.m3
  unfold maxLen at hm3
  have hsl := hval.seens
  have hll := hval.lots
  obtain ⟨i0, hI0, hz00, hz01, hz02⟩ := info_parts Try.infoSeen
  have hB1 : Below w.heap.size w (w.alloc (.cells #[.slice A1 c.heat.length c1, .int .i64 c.gas, .slice A2 c.holds.length c2, .slice A3 c.lots.length c3, .slice A4 c.seen.length c4] 27)) := (Below.refl _ _).alloc (Nat.le_refl _) _
  have hB2 : Below (w.alloc (.cells #[.slice A1 c.heat.length c1, .int .i64 c.gas, .slice A2 c.holds.length c2, .slice A3 c.lots.length c3, .slice A4 c.seen.length c4] 27)).heap.size (w.alloc (.cells #[.slice A1 c.heat.length c1, .int .i64 c.gas, .slice A2 c.holds.length c2, .slice A3 c.lots.length c3, .slice A4 c.seen.length c4] 27)) ((w.alloc (.cells #[.slice A1 c.heat.length c1, .int .i64 c.gas, .slice A2 c.holds.length c2, .slice A3 c.lots.length c3, .slice A4 c.seen.length c4] 27)).alloc (.cells #[.slice none 0 0, .int .i64 0, .slice none 0 0, .slice none 0 0, .slice none 0 0] 27)) := (Below.refl _ _).alloc (Nat.le_refl _) _
  have bb : Blk ((w.alloc (.cells #[.slice A1 c.heat.length c1, .int .i64 c.gas, .slice A2 c.holds.length c2, .slice A3 c.lots.length c3, .slice A4 c.seen.length c4] 27)).alloc (.cells #[.slice none 0 0, .int .i64 0, .slice none 0 0, .slice none 0 0, .slice none 0 0] 27)) w.heap.size 27 #[.slice A1 c.heat.length c1, .int .i64 c.gas, .slice A2 c.holds.length c2, .slice A3 c.lots.length c3, .slice A4 c.seen.length c4] := Blk.made.alloc _
  have br : Blk ((w.alloc (.cells #[.slice A1 c.heat.length c1, .int .i64 c.gas, .slice A2 c.holds.length c2, .slice A3 c.lots.length c3, .slice A4 c.seen.length c4] 27)).alloc (.cells #[.slice none 0 0, .int .i64 0, .slice none 0 0, .slice none 0 0, .slice none 0 0] 27)) (w.heap.size + 1) 27 #[.slice none 0 0, .int .i64 0, .slice none 0 0, .slice none 0 0, .slice none 0 0] := Blk.made' (by simp)
  have HK := hide ((BoxC.made h).next hB2)
  have HB := hide (hB1.trans (hB2.mono hB1.size))
  have HX := hide ((hx.next hB1).next hB2)
  have BB := hide bb
  have BR := hide br
  have HC := hide h
  have HVD := hide hval
  have hs0 : ((w.alloc (.cells #[.slice A1 c.heat.length c1, .int .i64 c.gas, .slice A2 c.holds.length c2, .slice A3 c.lots.length c3, .slice A4 c.seen.length c4] 27)).alloc (.cells #[.slice none 0 0, .int .i64 0, .slice none 0 0, .slice none 0 0, .slice none 0 0] 27)).heap.size = w.heap.size + 2 := by simp
  have HS0 := hide hs0
  clear hB1 hB2 bb br h hx hval hs0
  go_enter Try.func36, Try.ntmps36
  go_upto_region 1 with (fail)
  generalize ((w.alloc (.cells #[.slice A1 c.heat.length c1, .int .i64 c.gas, .slice A2 c.holds.length c2, .slice A3 c.lots.length c3, .slice A4 c.seen.length c4] 27)).alloc (.cells #[.slice none 0 0, .int .i64 0, .slice none 0 0, .slice none 0 0, .slice none 0 0] 27)) = v0 at *
  obtain ⟨hv, z, x0, x1, x2, x3, x4⟩ := HK.out
  have HV := hide hv
  clear hv
  go_upto_region 2 with (go_at_call 47; refine (truly_own HV.out HVD.out HX.out IntsS.nil_).mono ?_; rintro e v1 ⟨AT, cT, rfl, hT, hb⟩)
  have HTZ := hide (fun b hb => (hT.lt b hb).2)
  have HT := hide hT
  have HB1 := hide (HB.out.trans (hb.mono HB.out.size))
  have BB := hide (BB.out.next hb)
  have BR := hide (BR.out.next hb)
  have HSE := hide ((HV.out.next hb).seen)
  have hsv : w.heap.size + 2 ≤ v1.heap.size := by have := hb.size; have := HS0.out; omega
  have hsw : v0.heap.size = w.heap.size + 2 := HS0.out
  clear hb hT z x0 x1 x2 x3 x4 HV HK HX
  generalize hTT : trulyM c l [] = T at *
  have HTT := hide hTT
  clear hTT
  have hsw2 := hide hsw
  clear hsw
  have b4 : v1.cell? ⟨w.heap.size, 4, none⟩ = some (.slice A4 c.seen.length c4) := BB.out.at_ 4
  have g4 := BB.out.free 4
  have zb0 := BB.out.lt
  go_wp2_with (first
    | (at_builtin
       refine wpList_app_row _ rfl _ _ 25 rfl v1.heap.size 80 i0 (.agg #[.int .i64 0, .int .i64 0, .bool false]) 3 24 Try.underlying25 hI0 hz00 hz01 hz02 rfl (by decide) (.slice (some ⟨v1.heap.size, 0, none⟩) 0 0) 0 [] rfl (World.ownsRow_lit _ #[] 0 (Nat.le_refl _) (by simp [maxLen]) rfl) A4 c.seen.length c4 v1.heap.size (seenF c.seen) rfl (HSE.out.below ((Below.refl _ _).alloc (Nat.le_refl _) _)) (fun j hj => seen_one _ j _ hj) (by simp only [maxLen]; omega) (by omega) (by simp) ?_
       intro v' w1 hown hg hblk
       have hbA : Below v1.heap.size v1 w1 := ((Below.refl _ v1).alloc (Nat.le_refl _) (.cells #[] 80)).grown hg (by simp) (fun k hk => by simp [Value.ownBlock] at hk; omega)
       rw [Nat.zero_add, List.nil_append] at hown
       obtain ⟨AS, cS, rfl, hown⟩ := own_ex hown
       have b4' := (hbA.cell (p := ⟨w.heap.size, 4, none⟩) zb0).trans b4
       have g4' := (hbA.frozen (p := ⟨w.heap.size, 4, none⟩) zb0).trans g4
       have HBA := hide hbA
       have HOW := hide hown
       clear hg hblk hbA hown))
  have hk1 : Keep (fun q => q = w.heap.size) w1 (w1.setCell ⟨w.heap.size, 4, none⟩ (.slice AS c.seen.length cS)) := Keep.setCell _ _ _ (fun q => q = w.heap.size) rfl
  have bb2 : Blk (w1.setCell ⟨w.heap.size, 4, none⟩ (.slice AS c.seen.length cS)) w.heap.size 27 #[.slice A1 c.heat.length c1, .int .i64 c.gas, .slice A2 c.holds.length c2, .slice A3 c.lots.length c3, .slice AS c.seen.length cS] := (BB.out.next HBA.out).store 4 _
  have br2 : Blk (w1.setCell ⟨w.heap.size, 4, none⟩ (.slice AS c.seen.length cS)) (w.heap.size + 1) 27 #[.slice none 0 0, .int .i64 0, .slice none 0 0, .slice none 0 0, .slice none 0 0] := (BR.out.next HBA.out).else_ (p := ⟨w.heap.size, 4, none⟩) (Nat.succ_ne_self _) _
  have HOW := hide (own_kept HOW.out hk1 (fun b hb2 hS => by omega))
  have HT := hide (own_kept (own_stab HT.out (fun b hb2 _ => HBA.out.block b hb2)) hk1 (fun b hb2 hS => by have := hsw2.out; omega))
  have HB2 := hide ((HB1.out.trans (HBA.out.mono HB1.out.size)).setCell (p := ⟨w.heap.size, 4, none⟩) (Nat.le_refl _) (.slice AS c.seen.length cS))
  have BB := hide bb2
  have BR := hide br2
  clear hk1 bb2 br2 b4 g4 b4' g4' zb0 HBA hI0 hz00 hz01 hz02 HSE
  generalize w1.setCell ⟨w.heap.size, 4, none⟩ (.slice AS c.seen.length cS) = v2 at *
  go_wp2_with fail
  go_loopw [7, 8] (fun v7 _ wr => ∃ (i : Nat) (xs : List Seen), i ≤ c.seen.length ∧ v7 = .int .i64 i ∧ Keep (fun q => (.slice AS c.seen.length cS : Value).ownBlock = some q) v2 wr ∧ Below w.heap.size w wr ∧ wr.ownsRow v1.heap.size 80 3 (.slice AS c.seen.length cS) c.seen.length ((List.range (c.seen.length * 3)).map (seenF xs)) ∧ Hid (ToldM T c.seen i xs)) (fun v7 _ _ => c.seen.length - (intOf v7).toNat)
  case atStart => exact ⟨0, c.seen, Nat.zero_le _, rfl, Keep.refl _ _, HB2.out, HOW.out, hide ⟨rfl, fun q _ => by rw [if_neg (Nat.not_lt_zero _)]⟩⟩
  case round =>
    obtain ⟨i, xs, hi', rfl, hKp, hBw, hO, HTM⟩ := hrel
    have hi0' : (0 : Int) ≤ (i : Int) := Int.natCast_nonneg _
    have bbr := BB.out.keep hKp (fun e => by have := (HOW.out.lt _ e).1; omega)
    have HKP := hide hKp
    have HBW := hide hBw
    have BBR := hide bbr
    have HO := hide hO
    have d4 : wr.cell? ⟨w.heap.size, 4, none⟩ = some (.slice AS c.seen.length cS) := bbr.at_ 4
    have zr := bbr.lt
    clear hKp hBw bbr
    by_cases hli : i < c.seen.length
    · have hi1' : (i : Int) < (c.seen.length : Int) := by omega
      obtain ⟨gs, hAS, hgs, hgz⟩ := own_addr hO (by omega)
      subst hAS
      have HXL := hide (HTM.out.1)
      have HKS := hide (show ∀ (W : World) (o : Nat) (u : Value), Keep (fun q => (Value.slice (some ⟨gs, 0, none⟩) c.seen.length cS).ownBlock = some q) W (W.setCell ⟨gs, o, none⟩ u) from fun W o u => Keep.setCell _ _ _ _ rfl)
      have hxe : nth xs i = nth c.seen i := by have := HTM.out.2 i hli; rwa [if_neg (Nat.lt_irrefl _)] at this
      have hsn := HVD.out.seen i hli
      obtain ⟨q, hq⟩ : ∃ q : Nat, (nth c.seen i).lot = (q : Int) := ⟨(nth c.seen i).lot.toNat, by omega⟩
      have hql : q < c.lots.length := by omega
      have s0 : wr.cell? ⟨gs, i * 3, none⟩ = some (.int .i64 (q : Nat)) := by rw [World.ownsRow.cellAt hO (i * 3) (by omega)]; simp [show i * 3 < c.seen.length * 3 by omega, seenF, show i * 3 % 3 = 0 by omega, show i * 3 / 3 = i by omega, hxe, hq]
      have s1 : wr.cell? ⟨gs, i * 3 + 1, none⟩ = some (.int .i64 (nth c.seen i).hour) := by rw [World.ownsRow.cellAt hO (i * 3 + 1) (by omega)]; simp [show i * 3 + 1 < c.seen.length * 3 by omega, seenF, show (i * 3 + 1) % 3 = 1 by omega, show (i * 3 + 1) / 3 = i by omega, hxe]
      have s2 : wr.cell? ⟨gs, i * 3 + 2, none⟩ = some (.bool (nth c.seen i).turned) := by rw [World.ownsRow.cellAt hO (i * 3 + 2) (by omega)]; simp [show i * 3 + 2 < c.seen.length * 3 by omega, seenF, show (i * 3 + 2) % 3 = 2 by omega, show (i * 3 + 2) / 3 = i by omega, hxe]
      have HTS := hide (show toldS T (nth c.seen i) = ⟨(q : Int), (nth c.seen i).hour, decide (nth T q ≤ (nth c.seen i).hour)⟩ by simp [toldS, hq])
      have HPT := hide (HTM.out.put hli)
      have HTX := hide (ints_own (own_stab HT.out (fun b hb2 e => HKP.out.block b hb2 (fun hS => by have := HTZ.out b e; have := (HOW.out.lt _ hS).1; omega))))
      clear hxe hq hsn hO
      generalize (nth c.seen i).hour = hr at *
      generalize (nth c.seen i).turned = tu at *
      go_wp2_with fail
      have hbn : Below wr.heap.size wr (wr.alloc (.cells #[.int .i64 (q : Nat), .int .i64 hr, .bool tu] 80)) := (Below.refl _ _).alloc (Nat.le_refl _) _
      have bn : Blk (wr.alloc (.cells #[.int .i64 (q : Nat), .int .i64 hr, .bool tu] 80)) wr.heap.size 80 #[.int .i64 (q : Nat), .int .i64 hr, .bool tu] := Blk.made
      obtain ⟨bt, ot, rfl, hbt, htc⟩ := HTX.out.row (by omega)
      have yt := (hbn.cell (p := ⟨bt, ot + q, none⟩) hbt).trans (htc q hql)
      rw [intsF] at yt
      have zt : bt < (wr.alloc (.cells #[.int .i64 (q : Nat), .int .i64 hr, .bool tu] 80)).heap.size := by simp; omega
      have D4 := hide d4
      have S0 := hide s0
      have S1 := hide s1
      have S2 := hide s2
      have hq0 : (0 : Int) ≤ (q : Int) := Int.natCast_nonneg _
      have hq1 : (q : Int) < (c.lots.length : Int) := by omega
      clear d4 s0 s1 s2 htc
      generalize wr.alloc (.cells #[.int .i64 (q : Nat), .int .i64 hr, .bool tu] 80) = wc at *
      have yb0 : wc.cell? ⟨wr.heap.size, 0, none⟩ = some (.int .i64 (q : Nat)) := bn.at_ 0
      have yb1 : wc.cell? ⟨wr.heap.size, 1, none⟩ = some (.int .i64 hr) := bn.at_ 1
      have yb2 : wc.cell? ⟨wr.heap.size, 2, none⟩ = some (.bool tu) := bn.at_ 2
      have fb2 := bn.free 2
      have zb := bn.lt
      refine wp_post0 (fun act0 a W => ∃ vs : Nat → Value, a = { tmps := setAll (fun oi => [29, 30, 31, 32, 33, 34, 35, 36, 37, 0].getD oi 0) vs [0, 1, 2, 3, 4, 5, 6, 7, 8] act0.tmps, defers := act0.defers } ∧ ∃ W1 : World, W = W1.setCell ⟨wr.heap.size, 2, none⟩ (.bool (decide (nth T q ≤ hr))) ∧ Below wc.heap.size wc W1) ?reg ?imp
      case reg =>
        have hST : Stab wc.heap.size (fun oi v W => match oi with | 0 => v = .slice (some ⟨bt, ot, none⟩) c.lots.length cT | 1 => v = .pointer (some ⟨wr.heap.size, 0, none⟩) | 2 => v = .int .i64 (q : Nat) | 3 => v = .pointer (some ⟨bt, ot + q, none⟩) | 4 => v = .int .i64 (nth T q) | 5 => v = .pointer (some ⟨wr.heap.size, 1, none⟩) | 6 => v = .int .i64 hr | 7 => v = .bool (decide (nth T q ≤ hr)) | _ => True) (fun oi v b => match oi with  | _ => False) := by
          intro oi v W W' h hbs hz hk
          match oi, h, hk with
          | 0, h, hk => exact h
          | 1, h, hk => exact h
          | 2, h, hk => exact h
          | 3, h, hk => exact h
          | 4, h, hk => exact h
          | 5, h, hk => exact h
          | 6, h, hk => exact h
          | 7, h, hk => exact h
          | oi + 8, h, hk => exact trivial
        refine wp_region_inv (dst := fun oi => [29, 30, 31, 32, 33, 34, 35, 36, 37, 0].getD oi 0) (mono := fun oi => decide (oi < 8)) (pre := fun oi => decide (oi < 8)) (G := Loose 10 wc.heap.size (fun oi => match oi with  | _ => 10) (fun oi v W => match oi with | 0 => v = .slice (some ⟨bt, ot, none⟩) c.lots.length cT | 1 => v = .pointer (some ⟨wr.heap.size, 0, none⟩) | 2 => v = .int .i64 (q : Nat) | 3 => v = .pointer (some ⟨bt, ot + q, none⟩) | 4 => v = .int .i64 (nth T q) | 5 => v = .pointer (some ⟨wr.heap.size, 1, none⟩) | 6 => v = .int .i64 hr | 7 => v = .bool (decide (nth T q ≤ hr)) | _ => True) (fun oi v b => match oi with  | _ => False)) (by kernel_rfl) (by kernel_rfl) (Loose.start (Nat.le_refl _)) ?hstep ?hend
        case hstep =>
          intro oi hoi hom listed vs a W hU hsz hG hcl hl haft K hK
          have hb := ((Below.refl wc.heap.size wc).drew).trans hU.below
          have hF := Loose.stepF hU hG hST hoi hK
          match oi, hoi, hom with
          | 0, hoi, hom =>
            have z6 : a.tmps[6]?.getD undef = .slice (some ⟨bt, ot, none⟩) c.lots.length cT := hU.same 6 (by decide)
            refine wpOp_value (v := .slice (some ⟨bt, ot, none⟩) c.lots.length cT) (W' := W) rfl rfl ?_ (hF _ _ (Below.refl _ _) rfl (fun _ h => False.elim h))
            go_simp
          | 1, hoi, hom =>
            have z8 : a.tmps[8]?.getD undef = .pointer (some ⟨wr.heap.size, 0, none⟩) := hU.same 8 (by decide)
            refine wpOp_value (v := .pointer (some ⟨wr.heap.size, 0, none⟩)) (W' := W) rfl rfl ?_ (hF _ _ (Below.refl _ _) rfl (fun _ h => False.elim h))
            go_simp
          | 2, hoi, hom =>
            have l1 := haft _ rfl { on := 1, ground := .data } (by simp) rfl
            have p1 := hG.pv 1 (by decide) (live_end hsz rfl l1)
            have s1 : a.tmps[30]?.getD undef = vs 1 := hU.slot 1 (by decide) l1
            have hv1 : vs 1 = .pointer (some ⟨wr.heap.size, 0, none⟩) := p1
            rw [hv1] at s1
            have y0 := (hb.cell (p := ⟨wr.heap.size, 0, none⟩) (zb)).trans (yb0)
            refine wpOp_value (v := .int .i64 (q : Nat)) (W' := W) rfl rfl ?_ (hF _ _ (Below.refl _ _) rfl (fun _ h => False.elim h))
            go_simp
          | 3, hoi, hom =>
            have l0 := haft _ rfl { on := 0, ground := .data } (by simp) rfl
            have p0 := hG.pv 0 (by decide) (live_end hsz rfl l0)
            have s0 : a.tmps[29]?.getD undef = vs 0 := hU.slot 0 (by decide) l0
            have hv0 : vs 0 = .slice (some ⟨bt, ot, none⟩) c.lots.length cT := p0
            rw [hv0] at s0
            have l2 := haft _ rfl { on := 2, ground := .data } (by simp) rfl
            have p2 := hG.pv 2 (by decide) (live_end hsz rfl l2)
            have s2 : a.tmps[31]?.getD undef = vs 2 := hU.slot 2 (by decide) l2
            have hv2 : vs 2 = .int .i64 (q : Nat) := p2
            rw [hv2] at s2
            refine wpOp_value (v := .pointer (some ⟨bt, ot + q, none⟩)) (W' := W) rfl rfl ?_ (hF _ _ (Below.refl _ _) rfl (fun _ h => False.elim h))
            go_simp
          | 4, hoi, hom =>
            have l3 := haft _ rfl { on := 3, ground := .data } (by simp) rfl
            have p3 := hG.pv 3 (by decide) (live_end hsz rfl l3)
            have s3 : a.tmps[32]?.getD undef = vs 3 := hU.slot 3 (by decide) l3
            have hv3 : vs 3 = .pointer (some ⟨bt, ot + q, none⟩) := p3
            rw [hv3] at s3
            have y0 := (hb.cell (p := ⟨bt, ot + q, none⟩) (zt)).trans (yt)
            refine wpOp_value (v := .int .i64 (nth T q)) (W' := W) rfl rfl ?_ (hF _ _ (Below.refl _ _) rfl (fun _ h => False.elim h))
            go_simp
          | 5, hoi, hom =>
            have z8 : a.tmps[8]?.getD undef = .pointer (some ⟨wr.heap.size, 0, none⟩) := hU.same 8 (by decide)
            refine wpOp_value (v := .pointer (some ⟨wr.heap.size, 1, none⟩)) (W' := W) rfl rfl ?_ (hF _ _ (Below.refl _ _) rfl (fun _ h => False.elim h))
            go_simp
          | 6, hoi, hom =>
            have l5 := haft _ rfl { on := 5, ground := .data } (by simp) rfl
            have p5 := hG.pv 5 (by decide) (live_end hsz rfl l5)
            have s5 : a.tmps[34]?.getD undef = vs 5 := hU.slot 5 (by decide) l5
            have hv5 : vs 5 = .pointer (some ⟨wr.heap.size, 1, none⟩) := p5
            rw [hv5] at s5
            have y0 := (hb.cell (p := ⟨wr.heap.size, 1, none⟩) (zb)).trans (yb1)
            refine wpOp_value (v := .int .i64 hr) (W' := W) rfl rfl ?_ (hF _ _ (Below.refl _ _) rfl (fun _ h => False.elim h))
            go_simp
          | 7, hoi, hom =>
            have l4 := haft _ rfl { on := 4, ground := .data } (by simp) rfl
            have p4 := hG.pv 4 (by decide) (live_end hsz rfl l4)
            have s4 : a.tmps[33]?.getD undef = vs 4 := hU.slot 4 (by decide) l4
            have hv4 : vs 4 = .int .i64 (nth T q) := p4
            rw [hv4] at s4
            have l6 := haft _ rfl { on := 6, ground := .data } (by simp) rfl
            have p6 := hG.pv 6 (by decide) (live_end hsz rfl l6)
            have s6 : a.tmps[35]?.getD undef = vs 6 := hU.slot 6 (by decide) l6
            have hv6 : vs 6 = .int .i64 hr := p6
            rw [hv6] at s6
            refine wpOp_value (v := .bool (decide (nth T q ≤ hr))) (W' := W) rfl rfl ?_ (hF _ _ (Below.refl _ _) rfl (fun _ h => False.elim h))
            go_simp
          | oi + 8, hoi, hom => exact absurd (of_decide_eq_true hom) (by omega)
        case hend =>
          intro listed vs a W hG0 hG hpre
          have hb := ((Below.refl wc.heap.size wc).drew).trans hG0.below
          have hact := hG0.act
          have hT := hG0.lst hpre 0 #[true, true, true, true, true, true, true, true, false, false] rfl (by kernel_rfl) (hpre 0 (by decide) (by decide))
          rw [hG0.ix hT (l := [0, 1, 2, 3, 4, 5, 6, 7]) (by kernel_rfl)] at hact
          rw [hG0.lo hT (k := 2) (by kernel_rfl)]
          have p7 := hG.pv 7 (by decide) (live_end hG.size rfl (hpre 7 (by decide) (by decide)))
          clear hpre hG hST
          obtain rfl : a = _ := hact
          subst hT
          have hv7 : vs 7 = .bool (decide (nth T q ≤ hr)) := p7
          have y2 := (hb.cell (p := ⟨wr.heap.size, 2, none⟩) zb).trans yb2
          have f2 := (hb.frozen (p := ⟨wr.heap.size, 2, none⟩) zb).trans fb2
          simp only [setAll, List.setIfInBounds_toArray, List.set_cons_succ, List.set_cons_zero, List.getD_cons_succ, List.getD_cons_zero]
          refine wpAny_all (rs := [8]) (by kernel_rfl) (by simp) ?_
          intro i2 hi2
          obtain rfl : i2 = 8 := by simpa using hi2
          refine wpOp_value (v := .pointer (some ⟨wr.heap.size, 2, none⟩)) (W' := W) rfl rfl ?_ ?_
          · go_simp
          refine wpAny_all (rs := [9]) (by kernel_rfl) (by simp) ?_
          intro i2 hi2
          obtain rfl : i2 = 9 := by simpa using hi2
          refine wpOp_skip (W' := W.setCell ⟨wr.heap.size, 2, none⟩ (.bool (decide (nth T q ≤ hr)))) rfl rfl ?_ ?_
          · rw [hv7]; go_simp
          refine wpAny_done (by kernel_rfl) ?_ _
          exact ⟨rfl, fun q2 => if q2 = 8 then .pointer (some ⟨wr.heap.size, 2, none⟩) else vs q2, rfl, W, rfl, hb⟩
      case imp =>
      rintro a w5 ⟨vs, rfl, W1, rfl, hb7⟩
      simp only [setAll, List.setIfInBounds_toArray, List.set_cons_succ, List.set_cons_zero, List.getD_cons_succ, List.getD_cons_zero]
      have HB5 := hide ((hbn.trans (hb7.mono hbn.size)).setCell (p := ⟨wr.heap.size, 2, none⟩) (Nat.le_refl _) (.bool (decide (nth T q ≤ hr))))
      have bn5 := (bn.next hb7).store 2 (.bool (decide (nth T q ≤ hr)))
      have BN5 : Hid (Blk (W1.setCell ⟨wr.heap.size, 2, none⟩ (.bool (decide (nth T q ≤ hr)))) wr.heap.size 80 #[.int .i64 (q : Nat), .int .i64 hr, .bool (decide (nth T q ≤ hr))]) := hide bn5
      clear yb0 yb1 yb2 fb2 zb yt zt bn hb7 hbn bn5
      generalize (W1.setCell ⟨wr.heap.size, 2, none⟩ (.bool (decide (nth T q ≤ hr)))) = w5 at *
      have d4 := (HB5.out.cell (p := ⟨w.heap.size, 4, none⟩) zr).trans D4.out
      have s0 := (HB5.out.cell (p := ⟨gs, i * 3, none⟩) hgz).trans S0.out
      have s1 := (HB5.out.cell (p := ⟨gs, i * 3 + 1, none⟩) hgz).trans S1.out
      have s2 := (HB5.out.cell (p := ⟨gs, i * 3 + 2, none⟩) hgz).trans S2.out
      have HO5 := hide (own_stab HO.out (fun b hb2 _ => HB5.out.block b hb2))
      have u0 := World.ownsRow.frozenAt HO5.out (i * 3)
      have u1 := World.ownsRow.frozenAt HO5.out (i * 3 + 1)
      have u2 := World.ownsRow.frozenAt HO5.out (i * 3 + 2)
      have y0 : w5.cell? ⟨wr.heap.size, 0, none⟩ = some (.int .i64 (q : Nat)) := BN5.out.at_ 0
      have y1 : w5.cell? ⟨wr.heap.size, 1, none⟩ = some (.int .i64 hr) := BN5.out.at_ 1
      have y2 : w5.cell? ⟨wr.heap.size, 2, none⟩ = some (.bool (decide (nth T q ≤ hr))) := BN5.out.at_ 2
      go_wp2_with fail
      go_roundw
      case rel =>
        refine ⟨i + 1, xs.set i (toldS T (nth c.seen i)), by omega, by go_num, ?_, ?_, ?_, HPT⟩
        · exact ((((HKP.out.trans (Keep.of_below' HB5.out _)).trans (HKS.out _ _ _)).trans (HKS.out _ _ _)).trans (HKS.out _ _ _))
        · exact ((((HBW.out.trans (HB5.out.mono HBW.out.size)).setCell (p := ⟨gs, i * 3, none⟩) (by show _ ≤ gs; omega) _).setCell (p := ⟨gs, i * 3 + 1, none⟩) (by show _ ≤ gs; omega) _).setCell (p := ⟨gs, i * 3 + 2, none⟩) (by show _ ≤ gs; omega) _)
        · rw [← range_set3 hli xs HXL.out, HTS.out]
          exact own_set (own_set (own_set HO5.out _ _) _ _) _ _
      case measure => simp [intOf]; omega
    · have hii : i = c.seen.length := by omega
      have HXS := hide (show xs = c.seen.map (toldS T) from (hii ▸ HTM.out : ToldM T c.seen c.seen.length xs).done)
      have BRR := hide (BR.out.keep HKP.out (fun e => by have := (HOW.out.lt _ e).1; omega))
      have HTX := hide (own_stab HT.out (fun b hb2 e => HKP.out.block b hb2 (fun hS => by have := HTZ.out b e; have := (HOW.out.lt _ hS).1; omega)))
      have d0 : wr.cell? ⟨w.heap.size, 0, none⟩ = some _ := BBR.out.at_ 0
      have d1 : wr.cell? ⟨w.heap.size, 1, none⟩ = some _ := BBR.out.at_ 1
      have d2 : wr.cell? ⟨w.heap.size, 2, none⟩ = some _ := BBR.out.at_ 2
      have d3 : wr.cell? ⟨w.heap.size, 3, none⟩ = some _ := BBR.out.at_ 3
      have e0 : wr.cell? ⟨w.heap.size + 1, 0, none⟩ = some _ := BRR.out.at_ 0
      have e1 : wr.cell? ⟨w.heap.size + 1, 1, none⟩ = some _ := BRR.out.at_ 1
      have e2 : wr.cell? ⟨w.heap.size + 1, 2, none⟩ = some _ := BRR.out.at_ 2
      have e3 : wr.cell? ⟨w.heap.size + 1, 3, none⟩ = some _ := BRR.out.at_ 3
      have e4 : wr.cell? ⟨w.heap.size + 1, 4, none⟩ = some _ := BRR.out.at_ 4
      have f0 := BRR.out.free 0
      have f1 := BRR.out.free 1
      have f2 := BRR.out.free 2
      have f3 := BRR.out.free 3
      have f4 := BRR.out.free 4
      clear hii
      go_wp2_with fail
      have hkF := keep5 wr (w.heap.size + 1) (.slice A1 c.heat.length c1) (.int .i64 c.gas) (.slice A2 c.holds.length c2) (.slice A3 c.lots.length c3) (.slice AS c.seen.length cS)
      have hBF := ((((HBW.out.setCell (p := ⟨w.heap.size + 1, 0, none⟩) (Nat.le_succ _) (.slice A1 c.heat.length c1)).setCell (p := ⟨w.heap.size + 1, 1, none⟩) (Nat.le_succ _) (.int .i64 c.gas)).setCell (p := ⟨w.heap.size + 1, 2, none⟩) (Nat.le_succ _) (.slice A2 c.holds.length c2)).setCell (p := ⟨w.heap.size + 1, 3, none⟩) (Nat.le_succ _) (.slice A3 c.lots.length c3)).setCell (p := ⟨w.heap.size + 1, 4, none⟩) (Nat.le_succ _) (.slice AS c.seen.length cS)
      refine bodyPost_ret (v := .tuple #[.agg #[.slice A1 c.heat.length c1, .int .i64 c.gas, .slice A2 c.holds.length c2, .slice A3 c.lots.length c3, .slice AS c.seen.length cS], .slice AT c.lots.length cT]) ?_ rfl ?_
      · simp [results, Try.results36, go_sem, e0, e1, e2, e3, e4, f0, f1, f2, f3, f4]
      · have ho := own_kept HO.out hkF (fun b hb hS => by omega)
        have ht := own_kept HTX.out hkF (fun b hb hS => by have := hsw2.out; omega)
        obtain ⟨m1, m2, hr⟩ := row_fun ho
        have hz := hBF.size
        have hsl : (toldC c l).seen.length = c.seen.length := by simp [toldC]
        have hse : (toldC c l).seen = xs := by rw [HXS.out, ← HTT.out]; rfl
        refine ⟨AS, cS, AT, cT, ?_, ⟨(HC.out.heat.below hBF).more hz, (HC.out.holds.below hBF).more hz, (HC.out.lots.below hBF).more hz, ?_, HC.out.m1, HC.out.m2, HC.out.m3, ?_⟩, ?_, hBF⟩
        · rw [cargoVal, hsl]; rfl
        · rw [hsl, hse]; exact hr
        · rw [hsl]; exact ⟨m1, m2⟩
        · rw [HTT.out]; exact ints_own ht
end Go.Proofs.Ytbkknliggnhpcaa
