/- The contract of claim's pays: whether a lot is paid. -/
import Derived.Test.YtllmahcanipcpaaNN
import Derived.Shelf.Abstract
import Derived.Laws.EntriesVeiled
import Derived.OwnWalkIn
import Derived.TacticsInMore
import Derived.Deep.DeepCutAuto
set_option linter.unusedVariables false
set_option linter.unusedSimpArgs false
namespace Go.Proofs.Ytllmahcanipcpaa
open Go.RowKit
attribute [local go_sem ↓] Go.wp_at_zero Go.wp_at_succ
attribute [local go_sem] Oper.semAt_some
set_option maxHeartbeats 400000 in
set_option maxRecDepth 100000 in
theorem indexFuncIn_any {A : Option Addr} {n c B : Nat} {xs : List Int} {w : World} (h : IntsS w B A n c xs) (g : FuncId) (lb : Array Value) (p : Int → Bool) (hp : ∀ x ∈ xs, ∀ W, Below w.heap.size w W → Calls Try.prog g (#[.int .i64 x] ++ lb) W fun e w' => e = .returned (.bool (p x)) ∧ Below W.heap.size W w') (hB0 : B ≤ w.heap.size) (eg : Enters Try.prog g) :
    Calls Try.prog 85 #[.slice A n c, .func (.func g) #[] lb] w fun e w' => e = .returned (.int .i64 (idxOf p xs)) ∧ Below w.heap.size w w' := by
  have hm := h.bd
  have HL := hide h.len
  have eg' : ∀ (args : Array Value) (w : World), (callFunc g args).run Try.prog w = .ok (.enter g args) w := eg
  clear eg
  go_enter Try.func85, Try.ntmps85
  go_wp2_with fail
  go_loopw [5, 8] (fun _ i wr => ∃ j : Nat, j ≤ n ∧ i = .int .i64 j ∧ Hid (∀ k, k < j → p (nth xs k) = false) ∧ Below w.heap.size w wr) (fun _ i _ => n - (intOf i).toNat)
  case atStart => exact ⟨0, Nat.zero_le _, rfl, fun k hk => by omega, Below.refl _ _⟩
  case round =>
    obtain ⟨j, hj, rfl, H, hB⟩ := hrel
    have hz := hB.size
    by_cases hlt : j < n
    · obtain ⟨b, off, rfl, hb, hc⟩ := h.at_ hlt
      have hc' := (hB.cell (p := ⟨b, off + j, none⟩) (by show b < _; omega)).trans hc
      have hcall := hp (nth xs j) (by rw [nth_eq (by rw [HL.out]; exact hlt)]; exact List.getElem_mem _) wr hB
      have hbr : b < wr.heap.size := by omega
      clear hp hc
      cases hq : p (nth xs j) with
      | true =>
        rw [hq] at hcall
        have HQ := hide hq
        clear hq
        go_wp2_with (go_at_fn g; refine hcall.mono ?_; rintro e w' ⟨rfl, hb2⟩)
        go_ret
        exact ⟨ret_i (idxOf_hit (by rw [HL.out]; exact hlt) HQ.out H.out).symm, hB.trans (hb2.mono hz)⟩
      | false =>
        rw [hq] at hcall
        have HQ := hide hq
        clear hq
        go_wp2_with (go_at_fn g; refine hcall.mono ?_; rintro e w' ⟨rfl, hb2⟩)
        go_roundw
        case rel => exact ⟨j + 1, by omega, by go_num, fun k hk => by
          rcases Nat.lt_or_ge k j with h1 | h1
          · exact H.out k h1
          · rw [show k = j by omega]; exact HQ.out, hB.trans (hb2.mono hz)⟩
        case measure => simp [intOf]; omega
    · go_wp2
      go_ret
      exact ⟨ret_i (idxOf_miss (fun k hk => H.out k (by rw [HL.out] at hk; omega))).symm, hB⟩
set_option maxHeartbeats 400000 in
theorem containsFuncIn_any {A : Option Addr} {n c B : Nat} {xs : List Int} {w : World} (h : IntsS w B A n c xs) (g : FuncId) (lb : Array Value) (p : Int → Bool) (hp : ∀ x ∈ xs, ∀ W, Below w.heap.size w W → Calls Try.prog g (#[.int .i64 x] ++ lb) W fun e w' => e = .returned (.bool (p x)) ∧ Below W.heap.size W w') (hB0 : B ≤ w.heap.size) (eg : Enters Try.prog g) :
    Calls Try.prog 67 #[.slice A n c, .func (.func g) #[] lb] w fun e w' => e = .returned (.bool (xs.any p)) ∧ Below w.heap.size w w' := by
  have H := hide (indexFuncIn_any h g lb p hp hB0 eg)
  clear hp eg
  go_enter Try.func67, Try.ntmps67
  go_wp2_with (go_at_call 85; refine H.out.mono ?_; rintro e w' ⟨rfl, hb⟩)
  go_ret
  exact ⟨ret_b (idxOf_any _ _), hb⟩

/-- Whether a lot is paid. -/
def paysB (f : File) (s : List Int) (l : Int) : Bool := ((List.range f.claims.length).filter (paidB f s)).any fun i => (nth f.claims i).lot == l
theorem paysB_eq (f : File) (s : List Int) (l : Int) : paysB f s l = settlesB f s l := by
  rw [paysB, settlesB, List.any_filter]
  congr 1; funext i; exact Bool.and_comm _ _
theorem pays_list (f : File) (s : List Int) : listN (paidN f s f.claims.length) f.claims.length = (List.range f.claims.length).filter (paidB f s) := by rw [paidN_bits, listN_bits]
set_option maxHeartbeats 1600000 in
set_option maxRecDepth 100000 in
theorem pays1_any {w : World} {L b bm g3 g5 : Nat} {f : File} {a : FA} {but : Int} {V : List Int → Int} (h : LookG w L b bm f a but V) (e3 : w.cell? ⟨g3, 0, none⟩ = some (.pointer (some ⟨b, 0, none⟩))) {l : Int} (e5 : w.cell? ⟨g5, 0, none⟩ = some (.int .i64 l)) {i : Nat} (hi : i < f.claims.length) (hcl : f.claims.length ≤ 5) :
    Calls Try.prog 80 #[.int .i64 (i : Int), .pointer (some ⟨g3, 0, none⟩), .pointer (some ⟨g5, 0, none⟩)] w fun e w' => e = .returned (.bool ((nth f.claims i).lot == l)) ∧ Below w.heap.size w w' := by
  obtain ⟨A1, A2, A3, A4, A5, c1, c2, c3, c4, c5, R, K⟩ := a
  have q4 := h.q4
  have hm5 := h.v.m5
  obtain ⟨bc, oc, hA5, hbc, g0, g1, g2⟩ := h.v.claims.claims hi
  dsimp only at hA5 q4 hm5
  subst hA5
  have hi0 : (0 : Int) ≤ (i : Int) := Int.natCast_nonneg _
  have hi1 : (i : Int) < (f.claims.length : Int) := by omega
  have hbc' : bc < w.heap.size := by have := h.hL; omega
  have hb := h.hb
  unfold maxLen at hm5
  clear h g1 g2
  go_enter Try.func80, Try.ntmps80
  go_wp2_with fail
  go_quiet (fail)
  go_wp2_with fail
  go_ret
  exact ⟨rfl, below_drewN (Below.refl _ _) _⟩

set_option maxHeartbeats 4000000 in
set_option maxRecDepth 100000 in
theorem pays_any2 {w : World} {L b bm : Nat} {f : File} {fa : FA} {but : Int} (h : LookG w L b bm f fa but (paidV f)) (hv : Valid f) {s : List Int} (hs : PlB f s) (l : Int) :
    Calls Try.prog 60 #[.pointer (some ⟨b, 0, none⟩), .agg #[.int .i64 (nth s 0), .int .i64 (nth s 1), .int .i64 (nth s 2), .int .i64 (nth s 3)], .int .i64 l] w fun e w' => e = .returned (.bool (paysB f s l)) ∧ Keep (fun k => k = bm) w w' ∧ Known w' bm (paidV f) := by
  have hB0 : Below w.heap.size w (((w.alloc (.cells #[.pointer (some ⟨b, 0, none⟩)] 79)).alloc (.cells #[.int .i64 (nth s 0), .int .i64 (nth s 1), .int .i64 (nth s 2), .int .i64 (nth s 3)] 86)).alloc (.cells #[.int .i64 l] 3)) := (((Below.refl _ _).alloc (Nat.le_refl _) _).alloc (by simp) _).alloc (by simp; omega) _
  have q1 : Blk (((w.alloc (.cells #[.pointer (some ⟨b, 0, none⟩)] 79)).alloc (.cells #[.int .i64 (nth s 0), .int .i64 (nth s 1), .int .i64 (nth s 2), .int .i64 (nth s 3)] 86)).alloc (.cells #[.int .i64 l] 3)) w.heap.size 79 #[.pointer (some ⟨b, 0, none⟩)] := (Blk.made.alloc _).alloc _
  have q2 : Blk (((w.alloc (.cells #[.pointer (some ⟨b, 0, none⟩)] 79)).alloc (.cells #[.int .i64 (nth s 0), .int .i64 (nth s 1), .int .i64 (nth s 2), .int .i64 (nth s 3)] 86)).alloc (.cells #[.int .i64 l] 3)) (w.heap.size + 1) 86 (plCells s) := (Blk.made' (by simp)).alloc _
  have q3 : Blk (((w.alloc (.cells #[.pointer (some ⟨b, 0, none⟩)] 79)).alloc (.cells #[.int .i64 (nth s 0), .int .i64 (nth s 1), .int .i64 (nth s 2), .int .i64 (nth s 3)] 86)).alloc (.cells #[.int .i64 l] 3)) (w.heap.size + 1 + 1) 3 #[.int .i64 l] := Blk.made' (by simp)
  have HB0 := hide hB0
  have HL := hide (h.still hB0)
  have HV := hide hv
  have hx := hs
  have hcl := hv.claims
  have hbw := h.hb
  have hmw := h.hm
  clear h hB0 hv hs
  go_enter Try.func60, Try.ntmps60
  go_upto_region 1 with (fail)
  generalize (((w.alloc (.cells #[.pointer (some ⟨b, 0, none⟩)] 79)).alloc (.cells #[.int .i64 (nth s 0), .int .i64 (nth s 1), .int .i64 (nth s 2), .int .i64 (nth s 3)] 86)).alloc (.cells #[.int .i64 l] 3)) = w0 at *
  have r1 := q1.at_ 0
  have r2 := q3.at_ 0
  have x0 := q2.at_ 0
  have x1 := q2.at_ 1
  have x2 := q2.at_ 2
  have x3 := q2.at_ 3
  simp only [List.getElem?_toArray, List.getElem?_cons_zero, List.getElem?_cons_succ] at r1 r2 x0 x1 x2 x3
  have hgz := q2.lt
  have hwz := q3.lt
  have HQ1 := hide q1
  have HQ3 := hide q3
  have y4 := HL.out.q4
  have hbz := HL.out.hb
  have hmz := HL.out.hm
  clear q1 q2 q3
  have HNE := hide HL.out.ne
  have HCC : Hid (∀ gl cp W, IntsS W W.heap.size (some ⟨gl, 0, none⟩) ((List.range f.claims.length).filter (paidB f s)).length cp (natInts ((List.range f.claims.length).filter (paidB f s))) → Keep (fun k => k = bm) w0 W → Known W bm (paidV f) → Calls Try.prog 67 #[.slice (some ⟨gl, 0, none⟩) ((List.range f.claims.length).filter (paidB f s)).length cp, .func (.func 80) #[] #[.pointer (some ⟨w.heap.size, 0, none⟩), .pointer (some ⟨w.heap.size + 1 + 1, 0, none⟩)]] W fun e w' => e = .returned (.bool (paysB f s l)) ∧ Below W.heap.size W w') := fun gl cp W hi hk hn => by
    have hLW := HL.out.keep hk (fun k h => .inl h) hn
    have e3 := (HQ1.out.keep hk (by omega)).at_ 0
    have e5 := (HQ3.out.keep hk (by omega)).at_ 0
    have := containsFuncIn_any hi 80 #[.pointer (some ⟨w.heap.size, 0, none⟩), .pointer (some ⟨w.heap.size + 1 + 1, 0, none⟩)] (fun x => (nth f.claims x.toNat).lot == l) (fun x hx W2 hB2 => by
      simp only [natInts, List.mem_map, List.mem_filter, List.mem_range] at hx
      obtain ⟨i, ⟨hi2, -⟩, rfl⟩ := hx
      rw [Int.toNat_natCast]
      exact pays1_any (hLW.still hB2) ((hB2.cell (p := ⟨w.heap.size, 0, none⟩) (by have := hk.size; show w.heap.size < _; omega)).trans e3) ((hB2.cell (p := ⟨w.heap.size + 1 + 1, 0, none⟩) (by have := hk.size; show w.heap.size + 1 + 1 < _; omega)).trans e5) hi2 hcl) (Nat.le_refl _) (enters_of Try.func80 (by kernel_rfl) rfl)
    refine this.mono fun e w' ⟨h1, h2⟩ => ⟨?_, h2⟩
    rw [h1, paysB, natInts, List.any_map]
    rfl
  refine wp_region_rel (dst := fun i => [7, 8, 9, 10, 11, 12, 13, 14, 15, 16, 17, 18, 6].getD i 0) (mono := fun i => decide (i < 13)) (pre := fun i => decide (i < 13)) (R := LKeep (fun k => k = bm) (fun W => Known W bm (paidV f)))
    (Pv := fun i v W => match i with
      | 0 => v = .pointer (some ⟨b, 0, none⟩)
      | 1 => v = .agg #[.int .i64 (nth s 0), .int .i64 (nth s 1), .int .i64 (nth s 2), .int .i64 (nth s 3)]
      | 2 => v = .int .i64 (paidN f s f.claims.length : Nat)
      | 3 => v = .pointer (some ⟨b, 0, none⟩)
      | 4 => v = .pointer (some ⟨b, 0, none⟩)
      | 5 => v = .pointer (some ⟨b, 0, none⟩)
      | 6 => v = .pointer (some ⟨b, 4, none⟩)
      | 7 => v = .slice fa.A5 f.claims.length fa.c5
      | 8 => v = .int .i64 (f.claims.length : Nat)
      | 9 => ∃ gl cp, v = .slice (some ⟨gl, 0, none⟩) ((List.range f.claims.length).filter (paidB f s)).length cp ∧ w0.heap.size ≤ gl ∧ IntsS W W.heap.size (some ⟨gl, 0, none⟩) ((List.range f.claims.length).filter (paidB f s)).length cp (natInts ((List.range f.claims.length).filter (paidB f s)))
      | 10 => v = .func (.func 80) #[] #[.pointer (some ⟨w.heap.size, 0, none⟩), .pointer (some ⟨w.heap.size + 1 + 1, 0, none⟩)]
      | 11 => v = .bool (paysB f s l)
      | 12 => v = .bool (paysB f s l)
      | _ => True) (by kernel_rfl) (by kernel_rfl) (LKeep.refl _ _) (fun _ _ _ h h' => h.trans h') ?hst ?hstep ?hend
  case hst =>
    intro i v W W' h hk
    match i, h with
    | 0, h => exact h
    | 1, h => exact h
    | 2, h => exact h
    | 3, h => exact h
    | 4, h => exact h
    | 5, h => exact h
    | 6, h => exact h
    | 7, h => exact h
    | 8, h => exact h
    | 9, h => obtain ⟨gl, cp, h1, h2, h3⟩ := h; exact ⟨gl, cp, h1, h2, h3.stab hk.1.size (fun b o hb e _ => hk.1.block b hb (by simp only [Option.some.injEq, Addr.mk.injEq] at e; omega))⟩
    | 10, h => exact h
    | 11, h => exact h
    | 12, h => exact h
    | i + 13, h => exact trivial
  case hstep =>
    intro i hi hm listed vs a W hU hk0 hpv haft K hK
    have hkk := (LKeep.drew (fun k => k = bm) (M := fun W => Known W bm (paidV f)) w0 (fun h => h)).trans hk0
    have hk := hkk.1
    have hkm := hkk.2
    clear hkk
    match i, hi, hm with
    | 0, hi, hm =>
      have z3 : a.tmps[3]?.getD undef = .pointer (some ⟨w.heap.size, 0, none⟩) := hU.same 3 (by decide)
      have y0 := (hk.cell (b := w.heap.size) (o := 0) (by omega) (by omega)).trans (r1)
      refine wpOp_value (v := .pointer (some ⟨b, 0, none⟩)) (W' := W) rfl rfl ?_ (hK _ _ (LKeep.refl _ _ _) rfl)
      go_simp
    | 1, hi, hm =>
      have z4 : a.tmps[4]?.getD undef = .pointer (some ⟨w.heap.size + 1, 0, none⟩) := hU.same 4 (by decide)
      have y0 := (hk.cell (b := w.heap.size + 1) (o := 0) (hgz) (by omega)).trans (x0)
      have y1 := (hk.cell (b := w.heap.size + 1) (o := 1) (hgz) (by omega)).trans (x1)
      have y2 := (hk.cell (b := w.heap.size + 1) (o := 2) (hgz) (by omega)).trans (x2)
      have y3 := (hk.cell (b := w.heap.size + 1) (o := 3) (hgz) (by omega)).trans (x3)
      refine wpOp_value (v := .agg #[.int .i64 (nth s 0), .int .i64 (nth s 1), .int .i64 (nth s 2), .int .i64 (nth s 3)]) (W' := W) rfl rfl ?_ (hK _ _ (LKeep.refl _ _ _) rfl)
      go_simp
    | 2, hi, hm =>
      have l0 := haft _ rfl { on := 0, ground := .data } (by simp) rfl
      have hv0 : vs 0 = .pointer (some ⟨b, 0, none⟩) := hpv 0 l0
      have s0 : a.tmps[7]?.getD undef = vs 0 := hU.slot 0 (by decide) l0
      rw [hv0] at s0
      have l1 := haft _ rfl { on := 1, ground := .data } (by simp) rfl
      have hv1 : vs 1 = .agg #[.int .i64 (nth s 0), .int .i64 (nth s 1), .int .i64 (nth s 2), .int .i64 (nth s 3)] := hpv 1 l1
      have s1 : a.tmps[8]?.getD undef = vs 1 := hU.slot 1 (by decide) l1
      rw [hv1] at s1
      refine wpOp_enter (f := 59) (args := #[.pointer (some ⟨b, 0, none⟩), .agg #[.int .i64 (nth s 0), .int .i64 (nth s 1), .int .i64 (nth s 2), .int .i64 (nth s 3)]]) (W' := W) rfl rfl ?_ ((paid_any (HL.out.keep hk (fun k h => .inl h) (hkm HL.out.k)) HV.out hx).mono (fun e w'' h => ?_))
      · go_simp
      · obtain ⟨he, hkw, hn⟩ := h
        exact ⟨_, he, hK _ _ (⟨hkw, fun _ => hn⟩) rfl⟩
    | 3, hi, hm =>
      have z3 : a.tmps[3]?.getD undef = .pointer (some ⟨w.heap.size, 0, none⟩) := hU.same 3 (by decide)
      have y0 := (hk.cell (b := w.heap.size) (o := 0) (by omega) (by omega)).trans (r1)
      refine wpOp_value (v := .pointer (some ⟨b, 0, none⟩)) (W' := W) rfl rfl ?_ (hK _ _ (LKeep.refl _ _ _) rfl)
      go_simp
    | 4, hi, hm =>
      have l3 := haft _ rfl { on := 3, ground := .data } (by simp) rfl
      have hv3 : vs 3 = .pointer (some ⟨b, 0, none⟩) := hpv 3 l3
      have s3 : a.tmps[10]?.getD undef = vs 3 := hU.slot 3 (by decide) l3
      rw [hv3] at s3
      refine wpOp_value (v := .pointer (some ⟨b, 0, none⟩)) (W' := W) rfl rfl ?_ (hK _ _ (LKeep.refl _ _ _) rfl)
      go_simp
    | 5, hi, hm =>
      have l4 := haft _ rfl { on := 4, ground := .data } (by simp) rfl
      have hv4 : vs 4 = .pointer (some ⟨b, 0, none⟩) := hpv 4 l4
      have s4 : a.tmps[11]?.getD undef = vs 4 := hU.slot 4 (by decide) l4
      rw [hv4] at s4
      refine wpOp_value (v := .pointer (some ⟨b, 0, none⟩)) (W' := W) rfl rfl ?_ (hK _ _ (LKeep.refl _ _ _) rfl)
      go_simp
    | 6, hi, hm =>
      have l5 := haft _ rfl { on := 5, ground := .data } (by simp) rfl
      have hv5 : vs 5 = .pointer (some ⟨b, 0, none⟩) := hpv 5 l5
      have s5 : a.tmps[12]?.getD undef = vs 5 := hU.slot 5 (by decide) l5
      rw [hv5] at s5
      refine wpOp_value (v := .pointer (some ⟨b, 4, none⟩)) (W' := W) rfl rfl ?_ (hK _ _ (LKeep.refl _ _ _) rfl)
      go_simp
    | 7, hi, hm =>
      have l6 := haft _ rfl { on := 6, ground := .data } (by simp) rfl
      have hv6 : vs 6 = .pointer (some ⟨b, 4, none⟩) := hpv 6 l6
      have s6 : a.tmps[13]?.getD undef = vs 6 := hU.slot 6 (by decide) l6
      rw [hv6] at s6
      have y0 := (hk.cell (b := b) (o := 4) (hbz) (HNE.out)).trans (y4)
      refine wpOp_value (v := .slice fa.A5 f.claims.length fa.c5) (W' := W) rfl rfl ?_ (hK _ _ (LKeep.refl _ _ _) rfl)
      go_simp
    | 8, hi, hm =>
      have l7 := haft _ rfl { on := 7, ground := .data } (by simp) rfl
      have hv7 : vs 7 = .slice fa.A5 f.claims.length fa.c5 := hpv 7 l7
      have s7 : a.tmps[14]?.getD undef = vs 7 := hU.slot 7 (by decide) l7
      rw [hv7] at s7
      refine wpOp_value (v := .int .i64 (f.claims.length : Nat)) (W' := W) rfl rfl ?_ (hK _ _ (LKeep.refl _ _ _) rfl)
      go_simp
    | 9, hi, hm =>
      have l2 := haft _ rfl { on := 2, ground := .data } (by simp) rfl
      have hv2 : vs 2 = .int .i64 (paidN f s f.claims.length : Nat) := hpv 2 l2
      have s2 : a.tmps[9]?.getD undef = vs 2 := hU.slot 2 (by decide) l2
      rw [hv2] at s2
      have l8 := haft _ rfl { on := 8, ground := .data } (by simp) rfl
      have hv8 : vs 8 = .int .i64 (f.claims.length : Nat) := hpv 8 l8
      have s8 : a.tmps[15]?.getD undef = vs 8 := hU.slot 8 (by decide) l8
      rw [hv8] at s8
      refine wpOp_enter (f := 51) (args := #[.int .i64 (paidN f s f.claims.length : Nat), .int .i64 (f.claims.length : Nat)]) (W' := W) rfl rfl ?_ (((list_any (paidN_32 s hcl) hcl W).mono (fun e w h => by rw [pays_list] at h; exact h)).mono (fun e w'' h => ?_))
      · go_simp
      · obtain ⟨gl, cl, he, hi, hgl, hb5⟩ := h
        exact ⟨_, he, hK _ _ (LKeep.below hb5 (fun h => h.keep (Keep.of_below' hb5 (fun _ => False)) (fun h => h))) ⟨gl, cl, rfl, by have := hk.size; omega, hi⟩⟩
    | 10, hi, hm =>
      have z3 : a.tmps[3]?.getD undef = .pointer (some ⟨w.heap.size, 0, none⟩) := hU.same 3 (by decide)
      have z5 : a.tmps[5]?.getD undef = .pointer (some ⟨w.heap.size + 1 + 1, 0, none⟩) := hU.same 5 (by decide)
      refine wpOp_value (v := .func (.func 80) #[] #[.pointer (some ⟨w.heap.size, 0, none⟩), .pointer (some ⟨w.heap.size + 1 + 1, 0, none⟩)]) (W' := W) rfl rfl ?_ (hK _ _ (LKeep.refl _ _ _) rfl)
      go_simp
    | 11, hi, hm =>
      have l9 := haft _ rfl { on := 9, ground := .data } (by simp) rfl
      obtain ⟨gl9, cp9, hv9, hg9, hi9⟩ := hpv 9 l9
      have s9 : a.tmps[16]?.getD undef = vs 9 := hU.slot 9 (by decide) l9
      rw [hv9] at s9
      have l10 := haft _ rfl { on := 10, ground := .data } (by simp) rfl
      have hv10 : vs 10 = .func (.func 80) #[] #[.pointer (some ⟨w.heap.size, 0, none⟩), .pointer (some ⟨w.heap.size + 1 + 1, 0, none⟩)] := hpv 10 l10
      have s10 : a.tmps[17]?.getD undef = vs 10 := hU.slot 10 (by decide) l10
      rw [hv10] at s10
      refine wpOp_enter (f := 67) (args := #[.slice (some ⟨gl9, 0, none⟩) (((List.range f.claims.length).filter (paidB f s)).length) cp9, .func (.func 80) #[] #[.pointer (some ⟨w.heap.size, 0, none⟩), .pointer (some ⟨w.heap.size + 1 + 1, 0, none⟩)]]) (W' := W) rfl rfl ?_ ((HCC.out gl9 cp9 W hi9 hk (hkm HL.out.k)).mono (fun e w'' h => ?_))
      · go_simp
      · obtain ⟨he, hb5⟩ := h
        exact ⟨_, he, hK _ _ (LKeep.below hb5 (fun h => h.keep (Keep.of_below' hb5 (fun _ => False)) (fun h => h))) rfl⟩
    | 12, hi, hm =>
      have l11 := haft _ rfl { on := 11, ground := .data } (by simp) rfl
      have hv11 : vs 11 = .bool (paysB f s l) := hpv 11 l11
      have s11 : a.tmps[18]?.getD undef = vs 11 := hU.slot 11 (by decide) l11
      rw [hv11] at s11
      refine wpOp_value (v := .bool (paysB f s l)) (W' := W) rfl rfl ?_ (hK _ _ (LKeep.refl _ _ _) rfl)
      go_simp
    | i + 13, hi, hm => exact absurd (of_decide_eq_true hm) (by omega)
  case hend =>
    intro listed vs a W hG hk0 hpv hpre
    have hkk := (LKeep.drew (fun k => k = bm) (M := fun W => Known W bm (paidV f)) w0 (fun h => h)).trans hk0
    have hk := hkk.1
    have hkm := hkk.2
    clear hkk
    have hact := hG.act
    have hT := hG.lst hpre 0 #[true, true, true, true, true, true, true, true, true, true, true, true, true] rfl (by kernel_rfl) (hpre 0 (by decide) (by decide))
    rw [hG.ix hT (l := [0, 1, 2, 3, 4, 5, 6, 7, 8, 9, 10, 11, 12]) (by kernel_rfl)] at hact
    rw [hG.lo hT (k := 0) (by kernel_rfl)]
    have hv0 : vs 0 = .pointer (some ⟨b, 0, none⟩) := hpv 0 (hpre 0 (by decide) (by decide))
    have hv1 : vs 1 = .agg #[.int .i64 (nth s 0), .int .i64 (nth s 1), .int .i64 (nth s 2), .int .i64 (nth s 3)] := hpv 1 (hpre 1 (by decide) (by decide))
    have hv2 : vs 2 = .int .i64 (paidN f s f.claims.length : Nat) := hpv 2 (hpre 2 (by decide) (by decide))
    have hv3 : vs 3 = .pointer (some ⟨b, 0, none⟩) := hpv 3 (hpre 3 (by decide) (by decide))
    have hv4 : vs 4 = .pointer (some ⟨b, 0, none⟩) := hpv 4 (hpre 4 (by decide) (by decide))
    have hv5 : vs 5 = .pointer (some ⟨b, 0, none⟩) := hpv 5 (hpre 5 (by decide) (by decide))
    have hv6 : vs 6 = .pointer (some ⟨b, 4, none⟩) := hpv 6 (hpre 6 (by decide) (by decide))
    have hv7 : vs 7 = .slice fa.A5 f.claims.length fa.c5 := hpv 7 (hpre 7 (by decide) (by decide))
    have hv8 : vs 8 = .int .i64 (f.claims.length : Nat) := hpv 8 (hpre 8 (by decide) (by decide))
    obtain ⟨gl9, cp9, hv9, hg9, hi9⟩ := hpv 9 (hpre 9 (by decide) (by decide))
    have hv10 : vs 10 = .func (.func 80) #[] #[.pointer (some ⟨w.heap.size, 0, none⟩), .pointer (some ⟨w.heap.size + 1 + 1, 0, none⟩)] := hpv 10 (hpre 10 (by decide) (by decide))
    have hv11 : vs 11 = .bool (paysB f s l) := hpv 11 (hpre 11 (by decide) (by decide))
    have hv12 : vs 12 = .bool (paysB f s l) := hpv 12 (hpre 12 (by decide) (by decide))
    clear hpv hpre hG hk0
    obtain rfl : a = _ := hact
    subst hT
    simp only [setAll, List.setIfInBounds_toArray, List.set_cons_succ, List.set_cons_zero, List.getD_cons_succ, List.getD_cons_zero]
    simp only [hv0, hv1, hv2, hv3, hv4, hv5, hv6, hv7, hv8, hv9, hv10, hv11, hv12]
    clear hv0 hv1 hv2 hv3 hv4 hv5 hv6 hv7 hv8 hv9 hv10 hv11 hv12
    refine wpAny_done (by kernel_rfl) ?_ _
    clear HCC hi9
    have HKW := hide hk
    have HN := hide (hkm HL.out.k)
    clear hk hkm
    go_wp2_with fail
    go_ret
    exact ⟨rfl, (Keep.of_below' HB0.out _).trans HKW.out, HN.out⟩

end Go.Proofs.Ytllmahcanipcpaa
