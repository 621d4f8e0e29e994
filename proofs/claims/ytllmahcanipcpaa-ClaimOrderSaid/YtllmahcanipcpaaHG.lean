/- The contract of claim's pays: whether a lot is paid. -/
import Derived.Test.YtllmahcanipcpaaHF
import Derived.Shelf.Abstract
import Derived.Laws.EntriesVeiled
import Derived.OwnWalkIn
import Derived.TacticsInMore
import Derived.Deep.DeepCutAuto
import Derived.Maps.AppendAt
set_option linter.unusedVariables false
set_option linter.unusedSimpArgs false
namespace Go.Proofs.Ytllmahcanipcpaa
open Go.RowKit
attribute [local go_sem ↓] Go.wp_at_zero Go.wp_at_succ
attribute [local go_sem] Oper.semAt_some
set_option maxHeartbeats 400000 in
set_option maxRecDepth 100000 in
theorem indexFuncIn_any {A : Option Addr} {n c B : Nat} {xs : List Int} {w : World} (h : IntsS w B A n c xs) (g : FuncId) (lb : Array Value) (p : Int → Bool) (hp : ∀ x ∈ xs, ∀ W, Below w.heap.size w W → Calls Try.prog g (#[.int .i64 x] ++ lb) W fun e w' => e = .returned (.bool (p x)) ∧ Below W.heap.size W w') (hB0 : B ≤ w.heap.size) (eg : Enters Try.prog g) :
    Calls Try.prog 85 #[.slice A n c, .func (.func g) #[] lb] w fun e w' => e = .returned (.int .i64 (idxOf p xs)) ∧ Below w.heap.size w w' := by
  have hm := h.bd
  have HL := hide h.len
  have eg' : ∀ (args : Array Value) (w : World), (callFunc g args).run Try.prog w = .ok (.enter g args) w := eg
  clear eg
  go_enter Try.func85, Try.ntmps85
  go_wp2_with fail
  go_loopw [5, 8] (fun _ i wr => ∃ j : Nat, j ≤ n ∧ i = .int .i64 j ∧ Hid (∀ k, k < j → p (nth xs k) = false) ∧ Below w.heap.size w wr) (fun _ i _ => n - (intOf i).toNat)
  case atStart => exact ⟨0, Nat.zero_le _, rfl, fun k hk => by omega, Below.refl _ _⟩
  case round =>
    obtain ⟨j, hj, rfl, H, hB⟩ := hrel
    have hz := hB.size
    by_cases hlt : j < n
    · obtain ⟨b, off, rfl, hb, hc⟩ := h.at_ hlt
      have hc' := (hB.cell (p := ⟨b, off + j, none⟩) (by show b < _; omega)).trans hc
      have hcall := hp (nth xs j) (by rw [nth_eq (by rw [HL.out]; exact hlt)]; exact List.getElem_mem _) wr hB
      have hbr : b < wr.heap.size := by omega
      clear hp hc
      cases hq : p (nth xs j) with
      | true =>
        rw [hq] at hcall
        have HQ := hide hq
        clear hq
        go_wp2_with (go_at_fn g; refine hcall.mono ?_; rintro e w' ⟨rfl, hb2⟩)
        go_ret
        exact ⟨ret_i (idxOf_hit (by rw [HL.out]; exact hlt) HQ.out H.out).symm, hB.trans (hb2.mono hz)⟩
      | false =>
        rw [hq] at hcall
        have HQ := hide hq
        clear hq
        go_wp2_with (go_at_fn g; refine hcall.mono ?_; rintro e w' ⟨rfl, hb2⟩)
        go_roundw
        case rel => exact ⟨j + 1, by omega, by go_num, fun k hk => by
          rcases Nat.lt_or_ge k j with h1 | h1
          · exact H.out k h1
          · rw [show k = j by omega]; exact HQ.out, hB.trans (hb2.mono hz)⟩
        case measure => simp [intOf]; omega
    · go_wp2
      go_ret
      exact ⟨ret_i (idxOf_miss (fun k hk => H.out k (by rw [HL.out] at hk; omega))).symm, hB⟩
set_option maxHeartbeats 400000 in
theorem containsFuncIn_any {A : Option Addr} {n c B : Nat} {xs : List Int} {w : World} (h : IntsS w B A n c xs) (g : FuncId) (lb : Array Value) (p : Int → Bool) (hp : ∀ x ∈ xs, ∀ W, Below w.heap.size w W → Calls Try.prog g (#[.int .i64 x] ++ lb) W fun e w' => e = .returned (.bool (p x)) ∧ Below W.heap.size W w') (hB0 : B ≤ w.heap.size) (eg : Enters Try.prog g) :
    Calls Try.prog 67 #[.slice A n c, .func (.func g) #[] lb] w fun e w' => e = .returned (.bool (xs.any p)) ∧ Below w.heap.size w w' := by
  have H := hide (indexFuncIn_any h g lb p hp hB0 eg)
  clear hp eg
  go_enter Try.func67, Try.ntmps67
  go_wp2_with (go_at_call 85; refine H.out.mono ?_; rintro e w' ⟨rfl, hb⟩)
  go_ret
  exact ⟨ret_b (idxOf_any _ _), hb⟩

/-- Whether a lot is paid. -/
def paysB (f : File) (s : List Int) (l : Int) : Bool := ((List.range f.claims.length).filter (paidB f s)).any fun i => (nth f.claims i).lot == l
theorem paysB_eq (f : File) (s : List Int) (l : Int) : paysB f s l = settlesB f s l := by
  rw [paysB, settlesB, List.any_filter]
  congr 1; funext i; exact Bool.and_comm _ _
theorem pays_list (f : File) (s : List Int) : listN (paidN f s f.claims.length) f.claims.length = (List.range f.claims.length).filter (paidB f s) := by rw [paidN_bits, listN_bits]
set_option maxHeartbeats 1600000 in
set_option maxRecDepth 100000 in
theorem pays1_any {w : World} {L b bm g3 g5 : Nat} {f : File} {a : FA} {but : Int} {V : List Int → Int} (h : LookG w L b bm f a but V) (e3 : w.cell? ⟨g3, 0, none⟩ = some (.pointer (some ⟨b, 0, none⟩))) {l : Int} (e5 : w.cell? ⟨g5, 0, none⟩ = some (.int .i64 l)) {i : Nat} (hi : i < f.claims.length) (hcl : f.claims.length ≤ 5) :
    Calls Try.prog 80 #[.int .i64 (i : Int), .pointer (some ⟨g3, 0, none⟩), .pointer (some ⟨g5, 0, none⟩)] w fun e w' => e = .returned (.bool ((nth f.claims i).lot == l)) ∧ Below w.heap.size w w' := by
  obtain ⟨A1, A2, A3, A4, A5, c1, c2, c3, c4, c5, R, K⟩ := a
  have q4 := h.q4
  have hm5 := h.v.m5
  obtain ⟨bc, oc, hA5, hbc, g0, g1, g2⟩ := h.v.claims.claims hi
  dsimp only at hA5 q4 hm5
  subst hA5
  have hi0 : (0 : Int) ≤ (i : Int) := Int.natCast_nonneg _
  have hi1 : (i : Int) < (f.claims.length : Int) := by omega
  have hbc' : bc < w.heap.size := by have := h.hL; omega
  have hb := h.hb
  unfold maxLen at hm5
  clear h g1 g2
  go_enter Try.func80, Try.ntmps80
  go_wp2_with fail
  go_quiet (fail)
  go_wp2_with fail
  go_ret
  exact ⟨rfl, below_drewN (Below.refl _ _) _⟩

set_option maxHeartbeats 4000000 in
set_option maxRecDepth 100000 in
theorem pays_any2 {w : World} {L b bm : Nat} {f : File} {fa : FA} {but : Int} (h : LookG w L b bm f fa but (paidV f)) (hv : Valid f) {s : List Int} (hs : PlB f s) (l : Int) :
    Calls Try.prog 60 #[.pointer (some ⟨b, 0, none⟩), .agg #[.int .i64 (nth s 0), .int .i64 (nth s 1), .int .i64 (nth s 2), .int .i64 (nth s 3)], .int .i64 l] w fun e w' => e = .returned (.bool (paysB f s l)) ∧ Keep (fun k => k = bm) w w' ∧ Known w' bm (paidV f) := by
  have hB0 : Below w.heap.size w (((w.alloc (.cells #[.pointer (some ⟨b, 0, none⟩)] 79)).alloc (.cells #[.int .i64 (nth s 0), .int .i64 (nth s 1), .int .i64 (nth s 2), .int .i64 (nth s 3)] 86)).alloc (.cells #[.int .i64 l] 3)) := (((Below.refl _ _).alloc (Nat.le_refl _) _).alloc (by simp) _).alloc (by simp; omega) _
  have q1 : Blk (((w.alloc (.cells #[.pointer (some ⟨b, 0, none⟩)] 79)).alloc (.cells #[.int .i64 (nth s 0), .int .i64 (nth s 1), .int .i64 (nth s 2), .int .i64 (nth s 3)] 86)).alloc (.cells #[.int .i64 l] 3)) w.heap.size 79 #[.pointer (some ⟨b, 0, none⟩)] := (Blk.made.alloc _).alloc _
  have q2 : Blk (((w.alloc (.cells #[.pointer (some ⟨b, 0, none⟩)] 79)).alloc (.cells #[.int .i64 (nth s 0), .int .i64 (nth s 1), .int .i64 (nth s 2), .int .i64 (nth s 3)] 86)).alloc (.cells #[.int .i64 l] 3)) (w.heap.size + 1) 86 (plCells s) := (Blk.made' (by simp)).alloc _
  have q3 : Blk (((w.alloc (.cells #[.pointer (some ⟨b, 0, none⟩)] 79)).alloc (.cells #[.int .i64 (nth s 0), .int .i64 (nth s 1), .int .i64 (nth s 2), .int .i64 (nth s 3)] 86)).alloc (.cells #[.int .i64 l] 3)) (w.heap.size + 1 + 1) 3 #[.int .i64 l] := Blk.made' (by simp)
  have HB0 := hide hB0
  have HL := hide (h.still hB0)
  have HV := hide hv
  have hx := hs
  have hcl := hv.claims
  have hbw := h.hb
  have hmw := h.hm
  clear h hB0 hv hs
  go_enter Try.func60, Try.ntmps60
  go_upto_region 1 with (fail)
  generalize (((w.alloc (.cells #[.pointer (some ⟨b, 0, none⟩)] 79)).alloc (.cells #[.int .i64 (nth s 0), .int .i64 (nth s 1), .int .i64 (nth s 2), .int .i64 (nth s 3)] 86)).alloc (.cells #[.int .i64 l] 3)) = w0 at *
  have r1 := q1.at_ 0
  have r2 := q3.at_ 0
  have x0 := q2.at_ 0
  have x1 := q2.at_ 1
  have x2 := q2.at_ 2
  have x3 := q2.at_ 3
  simp only [List.getElem?_toArray, List.getElem?_cons_zero, List.getElem?_cons_succ] at r1 r2 x0 x1 x2 x3
  have hgz := q2.lt
  have hwz := q3.lt
  have HQ1 := hide q1
  have HQ3 := hide q3
  have y4 := HL.out.q4
  have hbz := HL.out.hb
  have hmz := HL.out.hm
  clear q1 q2 q3
  have HNE := hide HL.out.ne
  have HCC : Hid (∀ gl cp W, IntsS W W.heap.size (some ⟨gl, 0, none⟩) ((List.range f.claims.length).filter (paidB f s)).length cp (natInts ((List.range f.claims.length).filter (paidB f s))) → Keep (fun k => k = bm) w0 W → Known W bm (paidV f) → Calls Try.prog 67 #[.slice (some ⟨gl, 0, none⟩) ((List.range f.claims.length).filter (paidB f s)).length cp, .func (.func 80) #[] #[.pointer (some ⟨w.heap.size, 0, none⟩), .pointer (some ⟨w.heap.size + 1 + 1, 0, none⟩)]] W fun e w' => e = .returned (.bool (paysB f s l)) ∧ Below W.heap.size W w') := fun gl cp W hi hk hn => by
    have hLW := HL.out.keep hk (fun k h => .inl h) hn
    have e3 := (HQ1.out.keep hk (by omega)).at_ 0
    have e5 := (HQ3.out.keep hk (by omega)).at_ 0
    have := containsFuncIn_any hi 80 #[.pointer (some ⟨w.heap.size, 0, none⟩), .pointer (some ⟨w.heap.size + 1 + 1, 0, none⟩)] (fun x => (nth f.claims x.toNat).lot == l) (fun x hx W2 hB2 => by
      simp only [natInts, List.mem_map, List.mem_filter, List.mem_range] at hx
      obtain ⟨i, ⟨hi2, -⟩, rfl⟩ := hx
      rw [Int.toNat_natCast]
      exact pays1_any (hLW.still hB2) ((hB2.cell (p := ⟨w.heap.size, 0, none⟩) (by have := hk.size; show w.heap.size < _; omega)).trans e3) ((hB2.cell (p := ⟨w.heap.size + 1 + 1, 0, none⟩) (by have := hk.size; show w.heap.size + 1 + 1 < _; omega)).trans e5) hi2 hcl) (Nat.le_refl _) (enters_of Try.func80 (by kernel_rfl) rfl)
    refine this.mono fun e w' ⟨h1, h2⟩ => ⟨?_, h2⟩
    rw [h1, paysB, natInts, List.any_map]
    rfl
  refine wp_region_rel (dst := fun i => [7, 8, 9, 10, 11, 12, 13, 14, 15, 16, 17, 18, 6].getD i 0) (mono := fun i => decide (i < 13)) (pre := fun i => decide (i < 13)) (R := LKeep (fun k => k = bm) (fun W => Known W bm (paidV f)))
    (Pv := fun i v W => match i with
      | 0 => v = .pointer (some ⟨b, 0, none⟩)
      | 1 => v = .agg #[.int .i64 (nth s 0), .int .i64 (nth s 1), .int .i64 (nth s 2), .int .i64 (nth s 3)]
      | 2 => v = .int .i64 (paidN f s f.claims.length : Nat)
      | 3 => v = .pointer (some ⟨b, 0, none⟩)
      | 4 => v = .pointer (some ⟨b, 0, none⟩)
      | 5 => v = .pointer (some ⟨b, 0, none⟩)
      | 6 => v = .pointer (some ⟨b, 4, none⟩)
      | 7 => v = .slice fa.A5 f.claims.length fa.c5
      | 8 => v = .int .i64 (f.claims.length : Nat)
      | 9 => ∃ gl cp, v = .slice (some ⟨gl, 0, none⟩) ((List.range f.claims.length).filter (paidB f s)).length cp ∧ w0.heap.size ≤ gl ∧ IntsS W W.heap.size (some ⟨gl, 0, none⟩) ((List.range f.claims.length).filter (paidB f s)).length cp (natInts ((List.range f.claims.length).filter (paidB f s)))
      | 10 => v = .func (.func 80) #[] #[.pointer (some ⟨w.heap.size, 0, none⟩), .pointer (some ⟨w.heap.size + 1 + 1, 0, none⟩)]
      | 11 => v = .bool (paysB f s l)
      | 12 => v = .bool (paysB f s l)
      | _ => True) (by kernel_rfl) (by kernel_rfl) (LKeep.refl _ _) (fun _ _ _ h h' => h.trans h') ?hst ?hstep ?hend
  case hst =>
    intro i v W W' h hk
    match i, h with
    | 0, h => exact h
    | 1, h => exact h
    | 2, h => exact h
    | 3, h => exact h
    | 4, h => exact h
    | 5, h => exact h
    | 6, h => exact h
    | 7, h => exact h
    | 8, h => exact h
    | 9, h => obtain ⟨gl, cp, h1, h2, h3⟩ := h; exact ⟨gl, cp, h1, h2, h3.stab hk.1.size (fun b o hb e _ => hk.1.block b hb (by simp only [Option.some.injEq, Addr.mk.injEq] at e; omega))⟩
    | 10, h => exact h
    | 11, h => exact h
    | 12, h => exact h
    | i + 13, h => exact trivial
  case hstep =>
    intro i hi hm listed vs a W hU hk0 hpv haft K hK
    have hkk := (LKeep.drew (fun k => k = bm) (M := fun W => Known W bm (paidV f)) w0 (fun h => h)).trans hk0
    have hk := hkk.1
    have hkm := hkk.2
    clear hkk
    match i, hi, hm with
    | 0, hi, hm =>
      have z3 : a.tmps[3]?.getD undef = .pointer (some ⟨w.heap.size, 0, none⟩) := hU.same 3 (by decide)
      have y0 := (hk.cell (b := w.heap.size) (o := 0) (by omega) (by omega)).trans (r1)
      refine wpOp_value (v := .pointer (some ⟨b, 0, none⟩)) (W' := W) rfl rfl ?_ (hK _ _ (LKeep.refl _ _ _) rfl)
      go_simp
    | 1, hi, hm =>
      have z4 : a.tmps[4]?.getD undef = .pointer (some ⟨w.heap.size + 1, 0, none⟩) := hU.same 4 (by decide)
      have y0 := (hk.cell (b := w.heap.size + 1) (o := 0) (hgz) (by omega)).trans (x0)
      have y1 := (hk.cell (b := w.heap.size + 1) (o := 1) (hgz) (by omega)).trans (x1)
      have y2 := (hk.cell (b := w.heap.size + 1) (o := 2) (hgz) (by omega)).trans (x2)
      have y3 := (hk.cell (b := w.heap.size + 1) (o := 3) (hgz) (by omega)).trans (x3)
      refine wpOp_value (v := .agg #[.int .i64 (nth s 0), .int .i64 (nth s 1), .int .i64 (nth s 2), .int .i64 (nth s 3)]) (W' := W) rfl rfl ?_ (hK _ _ (LKeep.refl _ _ _) rfl)
      go_simp
    | 2, hi, hm =>
      have l0 := haft _ rfl { on := 0, ground := .data } (by simp) rfl
      have hv0 : vs 0 = .pointer (some ⟨b, 0, none⟩) := hpv 0 l0
      have s0 : a.tmps[7]?.getD undef = vs 0 := hU.slot 0 (by decide) l0
      rw [hv0] at s0
      have l1 := haft _ rfl { on := 1, ground := .data } (by simp) rfl
      have hv1 : vs 1 = .agg #[.int .i64 (nth s 0), .int .i64 (nth s 1), .int .i64 (nth s 2), .int .i64 (nth s 3)] := hpv 1 l1
      have s1 : a.tmps[8]?.getD undef = vs 1 := hU.slot 1 (by decide) l1
      rw [hv1] at s1
      refine wpOp_enter (f := 59) (args := #[.pointer (some ⟨b, 0, none⟩), .agg #[.int .i64 (nth s 0), .int .i64 (nth s 1), .int .i64 (nth s 2), .int .i64 (nth s 3)]]) (W' := W) rfl rfl ?_ ((paid_any (HL.out.keep hk (fun k h => .inl h) (hkm HL.out.k)) HV.out hx).mono (fun e w'' h => ?_))
      · go_simp
      · obtain ⟨he, hkw, hn⟩ := h
        exact ⟨_, he, hK _ _ (⟨hkw, fun _ => hn⟩) rfl⟩
    | 3, hi, hm =>
      have z3 : a.tmps[3]?.getD undef = .pointer (some ⟨w.heap.size, 0, none⟩) := hU.same 3 (by decide)
      have y0 := (hk.cell (b := w.heap.size) (o := 0) (by omega) (by omega)).trans (r1)
      refine wpOp_value (v := .pointer (some ⟨b, 0, none⟩)) (W' := W) rfl rfl ?_ (hK _ _ (LKeep.refl _ _ _) rfl)
      go_simp
    | 4, hi, hm =>
      have l3 := haft _ rfl { on := 3, ground := .data } (by simp) rfl
      have hv3 : vs 3 = .pointer (some ⟨b, 0, none⟩) := hpv 3 l3
      have s3 : a.tmps[10]?.getD undef = vs 3 := hU.slot 3 (by decide) l3
      rw [hv3] at s3
      refine wpOp_value (v := .pointer (some ⟨b, 0, none⟩)) (W' := W) rfl rfl ?_ (hK _ _ (LKeep.refl _ _ _) rfl)
      go_simp
    | 5, hi, hm =>
      have l4 := haft _ rfl { on := 4, ground := .data } (by simp) rfl
      have hv4 : vs 4 = .pointer (some ⟨b, 0, none⟩) := hpv 4 l4
      have s4 : a.tmps[11]?.getD undef = vs 4 := hU.slot 4 (by decide) l4
      rw [hv4] at s4
      refine wpOp_value (v := .pointer (some ⟨b, 0, none⟩)) (W' := W) rfl rfl ?_ (hK _ _ (LKeep.refl _ _ _) rfl)
      go_simp
    | 6, hi, hm =>
      have l5 := haft _ rfl { on := 5, ground := .data } (by simp) rfl
      have hv5 : vs 5 = .pointer (some ⟨b, 0, none⟩) := hpv 5 l5
      have s5 : a.tmps[12]?.getD undef = vs 5 := hU.slot 5 (by decide) l5
      rw [hv5] at s5
      refine wpOp_value (v := .pointer (some ⟨b, 4, none⟩)) (W' := W) rfl rfl ?_ (hK _ _ (LKeep.refl _ _ _) rfl)
      go_simp
    | 7, hi, hm =>
      have l6 := haft _ rfl { on := 6, ground := .data } (by simp) rfl
      have hv6 : vs 6 = .pointer (some ⟨b, 4, none⟩) := hpv 6 l6
      have s6 : a.tmps[13]?.getD undef = vs 6 := hU.slot 6 (by decide) l6
      rw [hv6] at s6
      have y0 := (hk.cell (b := b) (o := 4) (hbz) (HNE.out)).trans (y4)
      refine wpOp_value (v := .slice fa.A5 f.claims.length fa.c5) (W' := W) rfl rfl ?_ (hK _ _ (LKeep.refl _ _ _) rfl)
      go_simp
    | 8, hi, hm =>
      have l7 := haft _ rfl { on := 7, ground := .data } (by simp) rfl
      have hv7 : vs 7 = .slice fa.A5 f.claims.length fa.c5 := hpv 7 l7
      have s7 : a.tmps[14]?.getD undef = vs 7 := hU.slot 7 (by decide) l7
      rw [hv7] at s7
      refine wpOp_value (v := .int .i64 (f.claims.length : Nat)) (W' := W) rfl rfl ?_ (hK _ _ (LKeep.refl _ _ _) rfl)
      go_simp
    | 9, hi, hm =>
      have l2 := haft _ rfl { on := 2, ground := .data } (by simp) rfl
      have hv2 : vs 2 = .int .i64 (paidN f s f.claims.length : Nat) := hpv 2 l2
      have s2 : a.tmps[9]?.getD undef = vs 2 := hU.slot 2 (by decide) l2
      rw [hv2] at s2
      have l8 := haft _ rfl { on := 8, ground := .data } (by simp) rfl
      have hv8 : vs 8 = .int .i64 (f.claims.length : Nat) := hpv 8 l8
      have s8 : a.tmps[15]?.getD undef = vs 8 := hU.slot 8 (by decide) l8
      rw [hv8] at s8
      refine wpOp_enter (f := 51) (args := #[.int .i64 (paidN f s f.claims.length : Nat), .int .i64 (f.claims.length : Nat)]) (W' := W) rfl rfl ?_ (((list_any (paidN_32 s hcl) hcl W).mono (fun e w h => by rw [pays_list] at h; exact h)).mono (fun e w'' h => ?_))
      · go_simp
      · obtain ⟨gl, cl, he, hi, hgl, hb5⟩ := h
        exact ⟨_, he, hK _ _ (LKeep.below hb5 (fun h => h.keep (Keep.of_below' hb5 (fun _ => False)) (fun h => h))) ⟨gl, cl, rfl, by have := hk.size; omega, hi⟩⟩
    | 10, hi, hm =>
      have z3 : a.tmps[3]?.getD undef = .pointer (some ⟨w.heap.size, 0, none⟩) := hU.same 3 (by decide)
      have z5 : a.tmps[5]?.getD undef = .pointer (some ⟨w.heap.size + 1 + 1, 0, none⟩) := hU.same 5 (by decide)
      refine wpOp_value (v := .func (.func 80) #[] #[.pointer (some ⟨w.heap.size, 0, none⟩), .pointer (some ⟨w.heap.size + 1 + 1, 0, none⟩)]) (W' := W) rfl rfl ?_ (hK _ _ (LKeep.refl _ _ _) rfl)
      go_simp
    | 11, hi, hm =>
      have l9 := haft _ rfl { on := 9, ground := .data } (by simp) rfl
      obtain ⟨gl9, cp9, hv9, hg9, hi9⟩ := hpv 9 l9
      have s9 : a.tmps[16]?.getD undef = vs 9 := hU.slot 9 (by decide) l9
      rw [hv9] at s9
      have l10 := haft _ rfl { on := 10, ground := .data } (by simp) rfl
      have hv10 : vs 10 = .func (.func 80) #[] #[.pointer (some ⟨w.heap.size, 0, none⟩), .pointer (some ⟨w.heap.size + 1 + 1, 0, none⟩)] := hpv 10 l10
      have s10 : a.tmps[17]?.getD undef = vs 10 := hU.slot 10 (by decide) l10
      rw [hv10] at s10
      refine wpOp_enter (f := 67) (args := #[.slice (some ⟨gl9, 0, none⟩) (((List.range f.claims.length).filter (paidB f s)).length) cp9, .func (.func 80) #[] #[.pointer (some ⟨w.heap.size, 0, none⟩), .pointer (some ⟨w.heap.size + 1 + 1, 0, none⟩)]]) (W' := W) rfl rfl ?_ ((HCC.out gl9 cp9 W hi9 hk (hkm HL.out.k)).mono (fun e w'' h => ?_))
      · go_simp
      · obtain ⟨he, hb5⟩ := h
        exact ⟨_, he, hK _ _ (LKeep.below hb5 (fun h => h.keep (Keep.of_below' hb5 (fun _ => False)) (fun h => h))) rfl⟩
    | 12, hi, hm =>
      have l11 := haft _ rfl { on := 11, ground := .data } (by simp) rfl
      have hv11 : vs 11 = .bool (paysB f s l) := hpv 11 l11
      have s11 : a.tmps[18]?.getD undef = vs 11 := hU.slot 11 (by decide) l11
      rw [hv11] at s11
      refine wpOp_value (v := .bool (paysB f s l)) (W' := W) rfl rfl ?_ (hK _ _ (LKeep.refl _ _ _) rfl)
      go_simp
    | i + 13, hi, hm => exact absurd (of_decide_eq_true hm) (by omega)
  case hend =>
    intro listed vs a W hG hk0 hpv hpre
    have hkk := (LKeep.drew (fun k => k = bm) (M := fun W => Known W bm (paidV f)) w0 (fun h => h)).trans hk0
    have hk := hkk.1
    have hkm := hkk.2
    clear hkk
    have hact := hG.act
    have hT := hG.lst hpre 0 #[true, true, true, true, true, true, true, true, true, true, true, true, true] rfl (by kernel_rfl) (hpre 0 (by decide) (by decide))
    rw [hG.ix hT (l := [0, 1, 2, 3, 4, 5, 6, 7, 8, 9, 10, 11, 12]) (by kernel_rfl)] at hact
    rw [hG.lo hT (k := 0) (by kernel_rfl)]
    have hv0 : vs 0 = .pointer (some ⟨b, 0, none⟩) := hpv 0 (hpre 0 (by decide) (by decide))
    have hv1 : vs 1 = .agg #[.int .i64 (nth s 0), .int .i64 (nth s 1), .int .i64 (nth s 2), .int .i64 (nth s 3)] := hpv 1 (hpre 1 (by decide) (by decide))
    have hv2 : vs 2 = .int .i64 (paidN f s f.claims.length : Nat) := hpv 2 (hpre 2 (by decide) (by decide))
    have hv3 : vs 3 = .pointer (some ⟨b, 0, none⟩) := hpv 3 (hpre 3 (by decide) (by decide))
    have hv4 : vs 4 = .pointer (some ⟨b, 0, none⟩) := hpv 4 (hpre 4 (by decide) (by decide))
    have hv5 : vs 5 = .pointer (some ⟨b, 0, none⟩) := hpv 5 (hpre 5 (by decide) (by decide))
    have hv6 : vs 6 = .pointer (some ⟨b, 4, none⟩) := hpv 6 (hpre 6 (by decide) (by decide))
    have hv7 : vs 7 = .slice fa.A5 f.claims.length fa.c5 := hpv 7 (hpre 7 (by decide) (by decide))
    have hv8 : vs 8 = .int .i64 (f.claims.length : Nat) := hpv 8 (hpre 8 (by decide) (by decide))
    obtain ⟨gl9, cp9, hv9, hg9, hi9⟩ := hpv 9 (hpre 9 (by decide) (by decide))
    have hv10 : vs 10 = .func (.func 80) #[] #[.pointer (some ⟨w.heap.size, 0, none⟩), .pointer (some ⟨w.heap.size + 1 + 1, 0, none⟩)] := hpv 10 (hpre 10 (by decide) (by decide))
    have hv11 : vs 11 = .bool (paysB f s l) := hpv 11 (hpre 11 (by decide) (by decide))
    have hv12 : vs 12 = .bool (paysB f s l) := hpv 12 (hpre 12 (by decide) (by decide))
    clear hpv hpre hG hk0
    obtain rfl : a = _ := hact
    subst hT
    simp only [setAll, List.setIfInBounds_toArray, List.set_cons_succ, List.set_cons_zero, List.getD_cons_succ, List.getD_cons_zero]
    simp only [hv0, hv1, hv2, hv3, hv4, hv5, hv6, hv7, hv8, hv9, hv10, hv11, hv12]
    clear hv0 hv1 hv2 hv3 hv4 hv5 hv6 hv7 hv8 hv9 hv10 hv11 hv12
    refine wpAny_done (by kernel_rfl) ?_ _
    clear HCC hi9
    have HKW := hide hk
    have HN := hide (hkm HL.out.k)
    clear hk hkm
    go_wp2_with fail
    go_ret
    exact ⟨rfl, (Keep.of_below' HB0.out _).trans HKW.out, HN.out⟩

end Go.Proofs.Ytllmahcanipcpaa
/- The contract of claim's Open: the lots that can stay unpaid. -/
namespace Go.Proofs.Ytllmahcanipcpaa
open Go.RowKit
attribute [local go_sem ↓] Go.wp_at_zero Go.wp_at_succ
attribute [local go_sem] Oper.semAt_some

/-- The first lots that can stay unpaid. -/
def openTo (f : File) (j : Nat) : List Nat := (List.range j).filter fun i => !(truthsB f 0).all fun p => paysB f p i
def openV (f : File) : List Nat × Int := if enterE f 0 1 0 = 0 then (openTo f f.lots.length, 0) else ([], enterE f 0 1 0)
theorem openTo_succ (f : File) (j : Nat) : openTo f (j + 1) = openTo f j ++ if (truthsB f 0).all (fun p => paysB f p j) then [] else [j] := by
  rw [openTo, List.range_succ, List.filter_append]
  congr 1
  cases h : (truthsB f 0).all fun p => paysB f p j <;> simp [List.filter_cons, h]
theorem openTo_le (f : File) (j : Nat) : (openTo f j).length ≤ j := by
  have := List.length_filter_le (fun i : Nat => !(truthsB f 0).all fun p => paysB f p (i : Int)) (List.range j)
  simpa [openTo] using this
/-- What lies in cells is no mark's. -/
theorem marks_cell {B : Nat} {ds : List Deferred} {w w' : World} (h : MarksOk B ds w) (hk : Keep (fun k => ({ target := .collected k, args := #[] } : Deferred) ∈ ds) w w') {b o : Nat} {v : Value} (hc : w.cell? ⟨b, o, none⟩ = some v) : w'.cell? ⟨b, o, none⟩ = some v := by
  refine (hk.cell (cell_lt hc) (fun hm => ?_)).trans hc
  have key : ∀ {ds : List Deferred}, MarksOk B ds w → ∀ d ∈ ds, d = ({ target := .collected b, args := #[] } : Deferred) → w.heap[b]? = some (.deferred (some [])) := by
    intro ds
    induction ds with
    | nil => intro _ d hd; cases hd
    | cons d ds ih =>
      rintro ⟨⟨D, h1, h2, h3, h4⟩, h5⟩ e he he2
      rcases List.mem_cons.1 he with rfl | he
      · rw [h2] at he2; cases he2; exact h3
      · exact ih h5 e he he2
  have hb := key h _ hm rfl
  simp [World.cell?, hb] at hc
theorem marks_ints {B : Nat} {ds : List Deferred} {w w' : World} (h : MarksOk B ds w) (hk : Keep (fun k => ({ target := .collected k, args := #[] } : Deferred) ∈ ds) w w') {A : Option Addr} {n c : Nat} {xs : List Int} (hi : IntsS w w.heap.size A n c xs) : IntsS w' w'.heap.size A n c xs := by
  refine ⟨hi.len, hi.cap, hi.max, fun hn => ?_⟩
  obtain ⟨b, off, e, hb, hc⟩ := hi.row hn
  exact ⟨b, off, e, Nat.lt_of_lt_of_le hb hk.size, fun j hj => marks_cell h hk (hc j hj)⟩
theorem MarksOk.keepO {B : Nat} {S : Nat → Prop} {w w' : World} (hk : Keep S w w') (hS : ∀ k, S k → w.heap[k]? ≠ some (.deferred (some []))) : ∀ {ds : List Deferred}, MarksOk B ds w → MarksOk B ds w'
  | [], _ => trivial
  | d :: ds, ⟨⟨D, h1, h2, h3, h4⟩, h5⟩ => ⟨⟨D, h1, h2, (hk.block D (Array.getElem?_eq_some_iff.1 h3).1 (fun hs => hS D hs h3)).trans h3, h4⟩, h5.keepO hk hS⟩
theorem own_not {w : World} {base n size k : Nat} {v : Value} {xs : List Value} {e : TypeId} (h : w.ownsRow base e size v n xs) (hk : v.ownBlock = some k) : w.heap[k]? ≠ some (.deferred (some [])) := by
  obtain ⟨h1, h2⟩ := h
  rcases h2 with h' | ⟨g, cap, cur, h', hb, hg, r⟩
  · rw [h'.1] at hk; cases hk
  · rw [h'] at hk
    have : g = k := own_new hk
    subst this
    rw [hg]; intro e; cases e
theorem MarksOk.ge {B : Nat} {w : World} : ∀ {ds : List Deferred} {D : Nat}, MarksOk B ds w → ({ target := .collected D, args := #[] } : Deferred) ∈ ds → B ≤ D
  | d :: ds, D, ⟨⟨D', h1, h2, h3, h4⟩, h5⟩, hm => by
    rcases List.mem_cons.1 hm with e | hm
    · rw [h2] at e
      have e' : D = D' := by injection e with e1 e2; injection e1
      rw [e']; exact h1
    · exact h5.ge hm
theorem Known.not_mark {w : World} {b : Nat} {V : List Int → Int} (h : Known w b V) : w.heap[b]? ≠ some (.deferred (some [])) := by
  obtain ⟨es, c, hb, _⟩ := h
  rw [hb]; intro e; cases e
theorem Blk.not_mark {w : World} {g : Nat} {T : TypeId} {vs : Array Value} (h : Blk w g T vs) : w.heap[g]? ≠ some (.deferred (some [])) := by
  rw [show w.heap[g]? = _ from h]; intro e; cases e
theorem wpListIn_append_at {F : Fence} {nF : Nat} {P : Program} {ops : Array Oper} {rest : List Oper} {o : Oper} {a : Act} {Q : Exit → Act → World → Prop} (w : World) (hgd : o.guard = none) (s x : Operand) (t : TypeId)
    (ho : o.op = .call { callee := .builtin .append, args := #[s, x], argTypes := #[t, t] }) (base : Nat) (e : TypeId) (i : TypeInfo) (z : Value) (size bytes : Nat) (ht : P.underlying t = some (.slice e)) (hi : P.info? e = some i) (hz : i.zero = some z)
    (hsize : i.size = size) (hby : i.bytes = bytes) (hzs : z.cells.size = size) (hsz : 0 < size) (v : Value) (n : Nat) (xs : List Value) (hs : a.eval s = v) (hown : w.ownsRow base e size v n xs)
    (ad : Addr) (m c : Nat) (news : List Value) (hx : a.eval x = .slice (some ad) m c) (hn : news.length = m * size)
    (hc : ∀ j u, news[j]? = some u → w.cell? (ad.add j) = some u) (h1c : ∀ u ∈ news, u.oneCell' = true) (b1 : n + m ≤ maxLen) (b2 : (n + m) * bytes ≤ 140737488355328) (b3 : base ≤ w.heap.size)
    (hK : ∀ v' w', w'.ownsRow base e size v' (n + m) (xs ++ news) → w.grownBy w' v.ownBlock → (v'.ownBlock = v.ownBlock ∨ v'.ownBlock = some w.heap.size) → wpListIn F nF P ops Q rest (a.put o.dst v') w') :
    wpListIn F nF P ops Q (o :: rest) a w := by
  refine wpListIn_plain hgd fun K hK' => ?_
  obtain ⟨v', w', hrun, h2, h3, _, h5⟩ := run_append_own_at (P := P) w base t o.type e i z size bytes ht hi hz hsize hby hzs hsz v n xs hown ad m c news hn hc h1c b1 b2 b3
  unfold Oper.wpIn
  refine ⟨?_, ?_⟩
  · simp [Oper.about, ho, resolve, Target.leads, Sem.run_pure]
  · rw [Oper.semAt_plain F _ _ (by rw [ho]; intro c hc'; cases hc')]
    simp [execOp, ho, resolve, invoke, builtin, hs, hx, hrun, Result.andThen]
    exact hK' _ _ (hK v' w' h2 h3 h5)
set_option maxHeartbeats 4000000 in
set_option maxRecDepth 100000 in
theorem open_any {w : World} {f : File} {fa : FA} (h : FileV w w.heap.size f fa) :
    Calls Try.prog 19 #[fileVal f fa] w fun e w' => ∃ A cp, e = .returned (.tuple #[.slice A (openV f).1.length cp, .int .i64 (openV f).2]) ∧ IntsS w' w'.heap.size A (openV f).1.length cp (natInts (openV f).1) ∧ Below w.heap.size w w' := by
  have hB0 : Below w.heap.size w ((w.alloc (.cells (fileCells f fa) 28)).alloc (.cells #[.slice none 0 0] 23)) := ((Below.refl _ _).alloc (Nat.le_refl _) _).alloc (by simp) _
  have q1 : Blk ((w.alloc (.cells (fileCells f fa) 28)).alloc (.cells #[.slice none 0 0] 23)) w.heap.size 28 (fileCells f fa) := Blk.made.alloc _
  have q2 : Blk ((w.alloc (.cells (fileCells f fa) 28)).alloc (.cells #[.slice none 0 0] 23)) (w.heap.size + 1) 23 #[.slice none 0 0] := Blk.made' (by simp)
  have HC0 := hide (h.next hB0)
  have H00 := hide h
  have HQ1 := hide q1
  have HQ2 := hide q2
  have HB0 := hide hB0
  clear h hB0 q1 q2
  refine (callsIn_wide (n := 0)).1 (callsIn_of_wp_marks Try.func19 rfl trivial ?_ rfl)
  refine (wpIn_wide (n := 0)).2 ?_
  simp only [Try.ntmps19, List.size_toArray, List.length_cons, List.length_nil, Nat.reduceAdd, Nat.reduceSub, Array.replicate_succ, Array.replicate_zero, List.push_toArray, List.append_toArray, List.nil_append, List.cons_append]
  go_wp2_with fail
  go_step3
  go_wp2_with fail
  generalize ((w.alloc (.cells (fileCells f fa) 28)).alloc (.cells #[.slice none 0 0] 23)) = w0 at *
  have hz00 := HQ2.out.lt
  refine (enter_any HC0.out 0 1 0 (by omega)).mono ?_
  rintro e w1 (⟨hE, hv, b, bm, rfl, hbb, hbm, hL, hB1⟩ | ⟨hE, rfl, hB1⟩)
  · have HX := hide (show openV f = (openTo f f.lots.length, 0) by rw [openV, if_pos hE])
    have hz01 := hB1.size
    have hB2 : Below w1.heap.size w1 (w1.alloc (.cells #[.pointer (some ⟨b, 0, none⟩)] 79)) := (Below.refl _ _).alloc (Nat.le_refl _) _
    have HV := hide hv
    have HB1 := hide (HB0.out.trans (hB1.mono HB0.out.size))
    have HR1 := hide ((HQ1.out.next hB1).next hB2)
    have HR2 := hide ((HQ2.out.next hB1).next hB2)
    have HR3 : Hid (Blk (w1.alloc (.cells #[.pointer (some ⟨b, 0, none⟩)] 79)) w1.heap.size 79 #[.pointer (some ⟨b, 0, none⟩)]) := hide Blk.made
    have HL := hide ((hL.less (H00.out.below HB1.out) HB1.out.size).still hB2)
    have HB2 := hide hB2
    have hll := hv.lots
    have hm3 := HC0.out.m3
    have hb1 := hL.hb
    have hbm1 := hL.hm
    have r2 := (HR1.out).at_ 2
    simp only [fileCells, List.getElem?_toArray, List.getElem?_cons_zero, List.getElem?_cons_succ] at r2
    clear hE hv hL hB1 hB2
    go_wp2_with fail
    go_step3
    go_wp2_with fail
    generalize (w1.alloc (.cells #[.pointer (some ⟨b, 0, none⟩)] 79)) = w2 at *
    have hz2 := HR3.out.lt
    obtain ⟨Inv, hInv⟩ : ∃ Inv : Act → World → Prop, Inv = (fun a W => ∃ (j : Nat) (v5 v19 v20 v21 v22 v33 v : Value) (ds : List Deferred), a = { tmps := #[fileVal f fa, .pointer (some ⟨w.heap.size, 0, none⟩), .pointer (some ⟨w.heap.size + 1, 0, none⟩), .int .i64 (0), .pointer (some ⟨w1.heap.size, 0, none⟩), v5, undef, .tuple #[.pointer (some ⟨b, 0, none⟩), .int .i64 (0)], fileVal f fa, .tuple #[.pointer (some ⟨b, 0, none⟩), .int .i64 (0)], .pointer (some ⟨b, 0, none⟩), .int .i64 (0), .int .i64 (0), .bool false, undef, .pointer (some ⟨w.heap.size, 2, none⟩), .slice fa.A3 f.lots.length fa.c3, .int .i64 (f.lots.length : Nat), .int .i64 (j : Nat), v19, v20, v21, v22, undef, undef, undef, undef, undef, undef, undef, undef, undef, undef, v33, undef], defers := ds } ∧ j ≤ f.lots.length ∧ Blk W w.heap.size 28 (fileCells f fa) ∧ Blk W (w.heap.size + 1) 23 #[v] ∧ Blk W w1.heap.size 79 #[.pointer (some ⟨b, 0, none⟩)] ∧
      W.ownsRow w2.heap.size 3 1 v (openTo f j).length ((natInts (openTo f j)).map (Value.int .i64)) ∧ LookG W w.heap.size b bm f fa (0 : Nat) (paidV f) ∧ MarksOk w.heap.size ds W ∧ Below w.heap.size w W ∧ w2.heap.size ≤ W.heap.size) := ⟨_, rfl⟩
    obtain ⟨mu, hmu⟩ : ∃ mu : Act → World → Nat, mu = (fun a _ => f.lots.length - (intOf (a.tmps.getD 18 undef)).toNat) := ⟨_, rfl⟩
    have HIN := hide hInv
    have HMU := hide hmu
    clear hInv hmu
    refine wp_loop Inv mu ?start ?round
    case start => rw [HIN.out]; exact ⟨0, _, _, _, _, _, _, _, _, rfl, Nat.zero_le _, HR1.out, HR2.out, HR3.out, ⟨rfl, .inl ⟨rfl, rfl⟩⟩, HL.out, trivial, HB1.out.trans (HB2.out.mono HB1.out.size), Nat.le_refl _⟩
    case round =>
      intro a W hI
      rw [HIN.out] at hI
      obtain ⟨j, v5, v19, v20, v21, v22, v33, v, ds, rfl, hj, i1, i2, i3, i4, i5, i6, i7, i8⟩ := hI
      have hj0 : (0 : Int) ≤ (j : Int) := Int.natCast_nonneg _
      have r3 := i3.at_ 0
      simp only [List.getElem?_toArray, List.getElem?_cons_zero] at r3
      by_cases hlt : j < f.lots.length
      · have hj1 : (j : Int) < (f.lots.length : Int) := by omega
        have I1 := hide i1
        have I2 := hide i2
        have I3 := hide i3
        have I4 := hide i4
        have I5 := hide i5
        have I6 := hide i6
        have I7 := hide i7
        have hzw := i3.lt
        have HME := hide (show mu { tmps := #[fileVal f fa, .pointer (some ⟨w.heap.size, 0, none⟩), .pointer (some ⟨w.heap.size + 1, 0, none⟩), .int .i64 (0), .pointer (some ⟨w1.heap.size, 0, none⟩), v5, undef, .tuple #[.pointer (some ⟨b, 0, none⟩), .int .i64 (0)], fileVal f fa, .tuple #[.pointer (some ⟨b, 0, none⟩), .int .i64 (0)], .pointer (some ⟨b, 0, none⟩), .int .i64 (0), .int .i64 (0), .bool false, undef, .pointer (some ⟨w.heap.size, 2, none⟩), .slice fa.A3 f.lots.length fa.c3, .int .i64 (f.lots.length : Nat), .int .i64 (j : Nat), v19, v20, v21, v22, undef, undef, undef, undef, undef, undef, undef, undef, undef, undef, v33, undef], defers := ds } W = f.lots.length - j by rw [HMU.out]; simp [intOf])
        rw [HME.out]
        clear i1 i2 i3 i4 i5 i6 i7
        go_wp2_with fail
        have q5 : Blk (W.alloc (.cells #[.int .i64 (j : Int)] 3)) W.heap.size 3 #[.int .i64 (j : Int)] := Blk.made
        have hba : Below W.heap.size W (W.alloc (.cells #[.int .i64 (j : Int)] 3)) := (Below.refl _ _).alloc (Nat.le_refl _) _
        generalize W.alloc (.cells #[.int .i64 (j : Int)] 3) = wa at *
        refine truths_any.mono ?_
        rintro e wb ⟨p1, rfl, hp1, hp1', e1, hbb2⟩
        have hbab := hba.trans (hbb2.mono hba.size)
        have hza := q5.lt
        have hzb := hbb2.size
        have n1 := I1.out.next hbab
        have n2 := I2.out.next hbab
        have n3 := I3.out.next hbab
        have n4 := own_stab I4.out (fun k hk _ => hbab.block k hk)
        have n5 := q5.next hbb2
        have HL5 := hide (I5.out.still hbab)
        have M6 := hide (I6.out.keep (Keep.of_below' hbab (fun _ => False)) (fun _ h => h.elim))
        have HB7 := hide (I7.out.trans (hbab.mono I7.out.size))
        have hvb : ∀ k, v.ownBlock = some k → w2.heap.size ≤ k ∧ k < W.heap.size := fun k hk => World.ownsRow.lt I4.out k hk
        have HVB := hide hvb
        have HGE : Hid (∀ k, (k = bm ∨ k = w.heap.size + 1 ∨ v.ownBlock = some k) → w.heap.size ≤ k) := fun k h => by
          rcases h with h | h | h
          · omega
          · omega
          · have := hvb k h; omega
        clear hba hbab hbb2 q5 hvb
        go_wp2_with fail
        refine range_truths (f := f) (A := fun x g => { tmps := #[fileVal f fa, .pointer (some ⟨w.heap.size, 0, none⟩), .pointer (some ⟨w.heap.size + 1, 0, none⟩), .int .i64 (0), .pointer (some ⟨w1.heap.size, 0, none⟩), .pointer (some ⟨W.heap.size, 0, none⟩), .pointer (some ⟨g, 0, none⟩), .tuple #[.pointer (some ⟨b, 0, none⟩), .int .i64 (0)], fileVal f fa, .tuple #[.pointer (some ⟨b, 0, none⟩), .int .i64 (0)], .pointer (some ⟨b, 0, none⟩), .int .i64 (0), .int .i64 (0), .bool false, undef, .pointer (some ⟨w.heap.size, 2, none⟩), .slice fa.A3 f.lots.length fa.c3, .int .i64 (f.lots.length : Nat), .int .i64 (j : Nat), .bool true, .int .i64 (j : Nat), .pointer (some ⟨b, 0, none⟩), .func (.func 77) #[] #[.pointer (some ⟨p1, 0, none⟩)], plVal x, undef, undef, undef, undef, undef, undef, undef, undef, undef, v33, undef], defers := [] }) rfl rfl HL5.out HV.out (by omega : 0 < 32) e1
          (fun k => k = w.heap.size + 1 ∨ v.ownBlock = some k) (fun k hk => by rcases hk with hk | hk; · omega
                                                                               · have := HVB.out k hk; omega)
          (fun pre W' => Blk W' w.heap.size 28 (fileCells f fa) ∧ Blk W' (w.heap.size + 1) 23 #[v] ∧ Blk W' w1.heap.size 79 #[.pointer (some ⟨b, 0, none⟩)] ∧ Blk W' W.heap.size 3 #[.int .i64 (j : Int)] ∧
            W'.ownsRow w2.heap.size 3 1 v (openTo f j).length ((natInts (openTo f j)).map (Value.int .i64)) ∧ pre.all (fun p => paysB f p j) = true)
          (fun cd pre W' => cd = .exit 1 ∧ pre.all (fun p => paysB f p j) = false ∧ Blk W' w.heap.size 28 (fileCells f fa) ∧ Blk W' w1.heap.size 79 #[.pointer (some ⟨b, 0, none⟩)] ∧
            ∃ v', Blk W' (w.heap.size + 1) 23 #[v'] ∧ W'.ownsRow w2.heap.size 3 1 v' (openTo f j ++ [j]).length ((natInts (openTo f j ++ [j])).map (Value.int .i64)) ∧ v'.ownBlock ≠ some (wb.heap.size + 1)) ?hI ?hIx ?h0 ?hass ?body ?done ?stop
        case hI =>
          rintro pre V V' ⟨i1, i2, i3, i4, i5, i6⟩ hk
          exact ⟨i1.keep hk (by omega), i2.keep hk (by omega), i3.keep hk (by omega), i4.keep hk (by omega), own_stab i5 (fun k hkl e => hk.block k hkl (by have := HVB.out k e; omega)), i6⟩
        case hIx =>
          rintro cd pre V V' ⟨i1, i2, i3, i4, v', i5, i6, i7⟩ hk
          exact ⟨i1, i2, i3.keep hk (by omega), i4.keep hk (by omega), v', i5.keep hk (by omega), own_stab i6 (fun k hkl e => hk.block k hkl (fun h => i7 (by rw [e, h]))), i7⟩
        case h0 => exact ⟨n1, n2, n3, n5, n4, rfl⟩
        case hass =>
          intro l x W1
          simp only [plVal, iv]
          gi_wp2
        case body =>
          rintro l pre x W3 g hg hl hx0 hx ⟨i1, i2, i3, i4, i5, i6⟩ hLW hp hz4
          have hgz := hp.lt
          have r1 := i3.at_ 0
          have r5 := i4.at_ 0
          have x0 := hp.at_ 0
          have x1 := hp.at_ 1
          have x2 := hp.at_ 2
          have x3 := hp.at_ 3
          simp only [List.getElem?_toArray, List.getElem?_cons_zero, List.getElem?_cons_succ] at r1 r5 x0 x1 x2 x3
          have hzj := i4.lt
          have hz31 := i3.lt
          have HP := hide (pays_any2 hLW HV.out hx (j : Int))
          have HLW := hide hLW
          have HI1 := hide i1
          have HI2 := hide i2
          have HI3 := hide i3
          have HI4 := hide i4
          have HI5 := hide i5
          have HI6 := hide i6
          clear i1 i2 i3 i4 i5 i6 hLW hp
          refine wpIn_block ?_
          simp only [plVal, iv]
          gi_wp2_with fail
          refine ⟨trivial, rfl, CallsIn.inRound _ (callsIn_wide.2 (HP.out.mono ?_))⟩
          rintro e w5 ⟨rfl, hk5, hn5⟩
          have HK5 := hide hk5
          have HN5 := hide hn5
          have m2 := HI2.out.keep hk5 (by omega)
          have m4 := HI4.out.keep hk5 (by omega)
          have m5 := own_stab HI5.out (fun k hkl e => hk5.block k hkl (by have := HVB.out k e; omega))
          have r2 := m2.at_ 0
          have f2 := m2.free 0
          have r5 := m4.at_ 0
          simp only [List.getElem?_toArray, List.getElem?_cons_zero] at r2 r5
          have hz5 := hk5.size
          have h2z := m2.lt
          have h4z := m4.lt
          have HM5 := hide m5
          have HM2 := hide m2
          clear hk5 hn5 x0 x1 x2 x3 r1 m2 m4 m5
          cases hpb : paysB f x (j : Int) with
          | true =>
            have HPB := hide hpb
            clear hpb
            gi_wp2_with fail
            exact ⟨HK5.out.mono (fun k _ h => .inl h), HN5.out, HI1.out.keep HK5.out (by omega), HM2.out, HI3.out.keep HK5.out (by omega), HI4.out.keep HK5.out (by omega), HM5.out, by rw [List.all_append, HI6.out, List.all_cons, HPB.out]; rfl⟩
          | false =>
            have HPB := hide hpb
            have hle := openTo_le f j
            obtain ⟨i0, hi, hz0', hz1', hz2'⟩ := info_parts Try.infoInt
            clear hpb
            gi_wp2_with (gi_at_builtin; refine wpListIn_append_at _ rfl _ _ 23 rfl w2.heap.size 3 i0 (.int .i64 0) 1 8 Try.underlying23 hi hz0' hz1' hz2' rfl (by decide) _ _ _ rfl (HM5.out.alloc _) ⟨w5.heap.size, 0, none⟩ 1 1 [.int .i64 (j : Int)] rfl rfl (cell_one_new _ _ _) (by simp [Value.oneCell']) (by unfold maxLen; omega) (by omega) (by simp; omega) ?_; intro v' w6 hown' hgrow hnew; obtain ⟨g', cap', rfl⟩ := ownsRow_succ hown'; have hb6 := (HM2.out.alloc (.cells #[.int .i64 (j : Int)] 3)).keep (Keep.of_grown hgrow) (fun e => by have := HVB.out _ e.symm; omega); have c6 := hb6.at_ 0; have f6 := hb6.free 0)
            have hsnoc : (natInts (openTo f j)).map (Value.int .i64) ++ [.int .i64 (j : Int)] = (natInts (openTo f j ++ [j])).map (Value.int .i64) := by simp [natInts]
            rw [hsnoc] at hown'
            have hg' : g' ≠ wb.heap.size + 1 ∧ g' ≠ w.heap.size + 1 := by
              have hlt := World.ownsRow.lt hown' g' rfl
              rcases hnew with hnew | hnew
              · have := HVB.out g' hnew.symm; omega
              · have : g' = w5.heap.size + 1 := by simpa [Value.ownBlock] using hnew
                omega
            have hkC : Keep (fun k => k = bm ∨ k = w.heap.size + 1 ∨ v.ownBlock = some k) W3 w6 := (HK5.out.mono (fun k _ h => .inl h)).trans ((Keep.alloc w5 _ _).trans ((Keep.of_grown hgrow).mono (fun k _ h => .inr (.inr h.symm))))
            have hkS := Keep.setCell w6 ⟨w.heap.size + 1, 0, none⟩ (.slice (some ⟨g', 0, none⟩) ((openTo f j).length + 1) cap') (fun k => k = w.heap.size + 1) rfl
            have hkx : Keep (fun k => v.ownBlock = some k) w5 w6 := (Keep.alloc w5 _ _).trans ((Keep.of_grown hgrow).mono (fun k _ h => h.symm))
            have hbm5 : ¬ v.ownBlock = some bm := fun h => by have := HVB.out bm h; omega
            refine ⟨hkC.trans (hkS.mono (fun k _ h => .inr (.inl h))), (HN5.out.keep hkx hbm5).keep hkS (by omega), rfl, by rw [List.all_append, HI6.out, List.all_cons, HPB.out]; rfl, ?_, ?_, _, hb6.store 0 _, ?_, ?_⟩
            · exact ((HI1.out.keep HK5.out (by omega)).keep hkx (fun h => by have := HVB.out _ h; omega)).keep hkS (by omega)
            · exact ((HI3.out.keep HK5.out (by omega)).keep hkx (fun h => by have := HVB.out _ h; omega)).keep hkS (by omega)
            · rw [List.length_append]
              exact own_stab hown' (fun k hk e => hkS.block k hk (by have : g' = k := own_new e; omega))
            · intro e; exact hg'.1 (own_new e)
        case done =>
          rintro D W' hD ⟨i1, i2, i3, i4, i5, i6⟩ hLW hk hd
          have hms : MarksOk w.heap.size ({ target := .collected D, args := #[] } :: ds) W' := M6.out.cons (MarksOk.keepO hk (fun k hk => by
            rcases hk with rfl | rfl | hk
            · exact HL5.out.k.not_mark
            · exact n2.not_mark
            · exact own_not n4 hk) M6.out) hD (by have := HB7.out.size; omega) hd
          have hbw : Below w.heap.size w W' := HB7.out.trans (hk.below HGE.out (by have := HB7.out.size; omega))
          have hz7 := hk.size
          have HFIN : Hid (∀ v5 v19 v20 v21 v22 v33, Inv { tmps := #[fileVal f fa, .pointer (some ⟨w.heap.size, 0, none⟩), .pointer (some ⟨w.heap.size + 1, 0, none⟩), .int .i64 (0), .pointer (some ⟨w1.heap.size, 0, none⟩), v5, undef, .tuple #[.pointer (some ⟨b, 0, none⟩), .int .i64 (0)], fileVal f fa, .tuple #[.pointer (some ⟨b, 0, none⟩), .int .i64 (0)], .pointer (some ⟨b, 0, none⟩), .int .i64 (0), .int .i64 (0), .bool false, undef, .pointer (some ⟨w.heap.size, 2, none⟩), .slice fa.A3 f.lots.length fa.c3, .int .i64 (f.lots.length : Nat), .int .i64 ((j + 1 : Nat) : Int), v19, v20, v21, v22, undef, undef, undef, undef, undef, undef, undef, undef, undef, undef, v33, undef], defers := { target := .collected D, args := #[] } :: ds } W' ∧ mu { tmps := #[fileVal f fa, .pointer (some ⟨w.heap.size, 0, none⟩), .pointer (some ⟨w.heap.size + 1, 0, none⟩), .int .i64 (0), .pointer (some ⟨w1.heap.size, 0, none⟩), v5, undef, .tuple #[.pointer (some ⟨b, 0, none⟩), .int .i64 (0)], fileVal f fa, .tuple #[.pointer (some ⟨b, 0, none⟩), .int .i64 (0)], .pointer (some ⟨b, 0, none⟩), .int .i64 (0), .int .i64 (0), .bool false, undef, .pointer (some ⟨w.heap.size, 2, none⟩), .slice fa.A3 f.lots.length fa.c3, .int .i64 (f.lots.length : Nat), .int .i64 ((j + 1 : Nat) : Int), v19, v20, v21, v22, undef, undef, undef, undef, undef, undef, undef, undef, undef, undef, v33, undef], defers := { target := .collected D, args := #[] } :: ds } W' < f.lots.length - j) := fun v5 v19 v20 v21 v22 v33 => by
            rw [HIN.out, HMU.out]
            refine ⟨⟨j + 1, v5, v19, v20, v21, v22, v33, v, { target := .collected D, args := #[] } :: ds, rfl, hlt, i1, i2, i3, ?_, hLW, hms, hbw, by omega⟩, by simp [intOf]; omega⟩
            rw [openTo_succ, i6, if_pos rfl, List.append_nil]; exact i5
          clear i1 i2 i3 i4 i5 i6 hLW hk hd hms hbw
          go_wp2_with fail
          exact HFIN.out _ _ _ _ _ _
        case stop =>
          rintro D cd q W' hD hq hqp ⟨rfl, i1, i2, i3, v', i4, i5, i6⟩ hLW hk hd
          have hms : MarksOk w.heap.size ({ target := .collected D, args := #[] } :: ds) W' := M6.out.cons (MarksOk.keepO hk (fun k hk => by
            rcases hk with rfl | rfl | hk
            · exact HL5.out.k.not_mark
            · exact n2.not_mark
            · exact own_not n4 hk) M6.out) hD (by have := HB7.out.size; omega) hd
          have hbw : Below w.heap.size w W' := HB7.out.trans (hk.below HGE.out (by have := HB7.out.size; omega))
          have hz7 := hk.size
          have HFIN : Hid (∀ v5 v19 v20 v21 v22 v33, Inv { tmps := #[fileVal f fa, .pointer (some ⟨w.heap.size, 0, none⟩), .pointer (some ⟨w.heap.size + 1, 0, none⟩), .int .i64 (0), .pointer (some ⟨w1.heap.size, 0, none⟩), v5, undef, .tuple #[.pointer (some ⟨b, 0, none⟩), .int .i64 (0)], fileVal f fa, .tuple #[.pointer (some ⟨b, 0, none⟩), .int .i64 (0)], .pointer (some ⟨b, 0, none⟩), .int .i64 (0), .int .i64 (0), .bool false, undef, .pointer (some ⟨w.heap.size, 2, none⟩), .slice fa.A3 f.lots.length fa.c3, .int .i64 (f.lots.length : Nat), .int .i64 ((j + 1 : Nat) : Int), v19, v20, v21, v22, undef, undef, undef, undef, undef, undef, undef, undef, undef, undef, v33, undef], defers := { target := .collected D, args := #[] } :: ds } W' ∧ mu { tmps := #[fileVal f fa, .pointer (some ⟨w.heap.size, 0, none⟩), .pointer (some ⟨w.heap.size + 1, 0, none⟩), .int .i64 (0), .pointer (some ⟨w1.heap.size, 0, none⟩), v5, undef, .tuple #[.pointer (some ⟨b, 0, none⟩), .int .i64 (0)], fileVal f fa, .tuple #[.pointer (some ⟨b, 0, none⟩), .int .i64 (0)], .pointer (some ⟨b, 0, none⟩), .int .i64 (0), .int .i64 (0), .bool false, undef, .pointer (some ⟨w.heap.size, 2, none⟩), .slice fa.A3 f.lots.length fa.c3, .int .i64 (f.lots.length : Nat), .int .i64 ((j + 1 : Nat) : Int), v19, v20, v21, v22, undef, undef, undef, undef, undef, undef, undef, undef, undef, undef, v33, undef], defers := { target := .collected D, args := #[] } :: ds } W' < f.lots.length - j) := fun v5 v19 v20 v21 v22 v33 => by
            rw [HIN.out, HMU.out]
            have hno : (truthsB f 0).all (fun p => paysB f p j) = false := by
              obtain ⟨r, hr⟩ := hqp
              rw [← hr, List.all_append, i1]; rfl
            refine ⟨⟨j + 1, v5, v19, v20, v21, v22, v33, v', { target := .collected D, args := #[] } :: ds, rfl, hlt, i2, i4, i3, ?_, hLW, hms, hbw, by omega⟩, by simp [intOf]; omega⟩
            rw [openTo_succ, hno]; exact i5
          clear i1 i2 i3 i4 i5 i6 hLW hk hd hms hbw hqp
          refine wpIn_exit ?_
          go_wp2_with fail
          exact HFIN.out _ _ _ _ _ _
      · obtain rfl : j = f.lots.length := by omega
        obtain ⟨A, cp, rfl, -⟩ := own_ex i4
        have r2' := i2.at_ 0
        have f2' := i2.free 0
        simp only [List.getElem?_toArray, List.getElem?_cons_zero] at r2'
        have hzw := i2.lt
        have I2 := hide i2
        have I4 := hide i4
        have I6 := hide i6
        have I7 := hide i7
        clear i1 i2 i3 i4 i5 i6 i7
        go_wp2_with fail
        have hs := Keep.setCell W ⟨w.heap.size + 1, 0, none⟩ (.slice A (openTo f f.lots.length).length cp) (fun k => k = w.heap.size + 1) rfl
        have b2 := I2.out.store 0 (.slice A (openTo f f.lots.length).length cp)
        have hi := ints_own (own_stab I4.out (fun k hk e => hs.block k hk (by have := (World.ownsRow.lt I4.out k e); omega)))
        have hbw := I7.out.trans (hs.below (fun k h => by omega) I7.out.size)
        have hms : MarksOk w.heap.size ds _ := MarksOk.keepO hs (fun k hk => by rw [hk]; exact I2.out.not_mark) I6.out
        generalize W.setCell ⟨w.heap.size + 1, 0, none⟩ (.slice A (openTo f f.lots.length).length cp) = wz at *
        refine leaves_marks2 hms (fun w' hkw' => ?_)
        have r2'' := marks_cell hms hkw' (b2.at_ 0)
        refine ⟨.tuple #[.slice A (openTo f f.lots.length).length cp, .int .i64 0], by simp [results, Try.results19, go_sem, r2''], A, cp, by rw [HX.out], ?_, ?_⟩
        · rw [HX.out]
          exact marks_ints hms hkw' hi
        · exact hbw.trans (hkw'.below (fun k h => hms.ge h) hbw.size)
  · have HX := hide (show openV f = ([], enterE f 0 1 0) by rw [openV, if_neg hE])
    generalize hEE : enterE f 0 1 0 = E at *
    have hnb : (E != 0) = true := by simpa using hE
    have HB1 := hide (HB0.out.trans (hB1.mono HB0.out.size))
    have q2 := HQ2.out.next hB1
    have g2 := q2.free 0
    have r2 := q2.at_ 0
    simp only [List.getElem?_toArray, List.getElem?_cons_zero] at r2
    have hz1 := q2.lt
    clear hEE hE hB1
    go_wp2_with fail
    rw [Exit.noGoto_ret]
    have hs := Keep.setCell w1 ⟨w.heap.size + 1, 0, none⟩ (.slice none 0 0) (fun k => k = w.heap.size + 1) rfl
    have b2 := (q2.store 0 (.slice none 0 0)).alloc (.cells #[.pointer none] 79)
    have hbe := (HB1.out.trans (hs.below (fun k h => by omega) HB1.out.size)).alloc (by have := HB1.out.size; have := hs.size; omega) (.cells #[.pointer none] 79)
    refine leaves_marks2 (B := 0) (ds := []) trivial (fun w' hkw' => ?_)
    have r2' := (b2.keep hkw' (by simp)).at_ 0
    simp only [List.setIfInBounds_toArray, List.set_cons_zero, List.getElem?_toArray, List.getElem?_cons_zero] at r2'
    refine ⟨.tuple #[.slice none 0 0, .int .i64 E], by simp [results, Try.results19, go_sem, r2'], none, 0, by rw [HX.out]; rfl, by rw [HX.out]; exact IntsS.nil_, ?_⟩
    exact hbe.trans (hkw'.below (fun k h => by simp at h) hbe.size)
end Go.Proofs.Ytllmahcanipcpaa
/- The contract of claim's Owes: what a party pays, at least and at most. -/
namespace Go.Proofs.Ytllmahcanipcpaa
open Go.RowKit
attribute [local go_sem ↓] Go.wp_at_zero Go.wp_at_succ
attribute [local go_sem] Oper.semAt_some

/-- What a claim is worth to a party. -/
def dueI (f : File) (party : Int) (i : Nat) : Int := if (nth f.claims i).against == party then (nth f.lots (nth f.claims i).lot.toNat).worth else 0
def dueL (f : File) (party : Int) : List Nat → Int
  | [] => 0
  | i :: l => dueI f party i + dueL f party l
theorem dueL_snoc (f : File) (party : Int) (i : Nat) : ∀ l, dueL f party (l ++ [i]) = dueL f party l + dueI f party i
  | [] => by simp [dueL]
  | j :: l => by rw [List.cons_append, dueL, dueL_snoc f party i l, dueL]; omega
theorem due_sum (f : File) (s : List Int) (party : Int) : dueL f party ((List.range f.claims.length).filter (paidB f s)) = sumM f s party := by
  have key : ∀ n, dueL f party ((List.range n).filter (paidB f s)) = sumTo f s party n := by
    intro n
    induction n with
    | zero => rfl
    | succ n ih =>
      rw [List.range_succ, List.filter_append, sumTo, ← ih]
      cases h : paidB f s n with
      | true => simp only [List.filter_cons, h, if_true, List.filter_nil, dueL_snoc, dueI, Bool.and_true]
      | false => simp [List.filter_cons, h]
  exact key _
theorem dueI_range {f : File} (hv : Valid f) (party : Int) {i : Nat} (hi : i < f.claims.length) : 0 ≤ dueI f party i ∧ dueI f party i ≤ 99 := by
  have h1 := hv.claim i hi
  have h2 := hv.lot (nth f.claims i).lot.toNat (by omega)
  rw [dueI]; split <;> omega
theorem dueL_range {f : File} (hv : Valid f) (party : Int) : ∀ l : List Nat, (∀ i ∈ l, i < f.claims.length) → 0 ≤ dueL f party l ∧ dueL f party l ≤ 99 * l.length
  | [], _ => by simp [dueL]
  | i :: l, h => by
    have h1 := dueI_range hv party (h i (by simp))
    have h2 := dueL_range hv party l (fun j hj => h j (by simp [hj]))
    rw [dueL, List.length_cons]; omega
def oweF (f : File) (party : Int) (acc : Option Span) (p : List Int) : Option Span := match acc with
  | none => some ⟨sumM f p party, sumM f p party⟩
  | some s => some ⟨min s.lo (sumM f p party), max s.hi (sumM f p party)⟩
def oweS (f : File) (party : Int) (T : List (List Int)) : Option Span := T.foldl (oweF f party) none
theorem oweS_snoc (f : File) (party : Int) (T : List (List Int)) (p : List Int) : oweS f party (T ++ [p]) = oweF f party (oweS f party T) p := by simp [oweS, List.foldl_append]
def oweP (f : File) (party : Int) (T : List (List Int)) : Span := (oweS f party T).getD ⟨0, 0⟩
def owesV (f : File) (party : Int) : Span × Int := if enterE f party f.parties.length 0 = 0 then (oweP f party (truthsB f 0), 0) else (⟨0, 0⟩, enterE f party f.parties.length 0)
set_option maxHeartbeats 4000000 in
set_option maxRecDepth 100000 in
theorem owes_any {w : World} {f : File} {fa : FA} (h : FileV w w.heap.size f fa) (party : Int) :
    Calls Try.prog 18 #[fileVal f fa, .int .i64 party] w fun e w' => e = .returned (.tuple #[.agg #[.int .i64 (owesV f party).1.lo, .int .i64 (owesV f party).1.hi], .int .i64 (owesV f party).2]) ∧ Below w.heap.size w w' := by
  have hB0 : Below w.heap.size w (((w.alloc (.cells (fileCells f fa) 28)).alloc (.cells #[.int .i64 party] 3)).alloc (.cells #[.int .i64 0, .int .i64 0] 43)) := (((Below.refl _ _).alloc (Nat.le_refl _) _).alloc (by simp) _).alloc (by simp; omega) _
  have q1 : Blk (((w.alloc (.cells (fileCells f fa) 28)).alloc (.cells #[.int .i64 party] 3)).alloc (.cells #[.int .i64 0, .int .i64 0] 43)) w.heap.size 28 (fileCells f fa) := (Blk.made.alloc _).alloc _
  have q2 : Blk (((w.alloc (.cells (fileCells f fa) 28)).alloc (.cells #[.int .i64 party] 3)).alloc (.cells #[.int .i64 0, .int .i64 0] 43)) (w.heap.size + 1) 3 #[.int .i64 party] := (Blk.made' (by simp)).alloc _
  have q3 : Blk (((w.alloc (.cells (fileCells f fa) 28)).alloc (.cells #[.int .i64 party] 3)).alloc (.cells #[.int .i64 0, .int .i64 0] 43)) (w.heap.size + 1 + 1) 43 #[.int .i64 0, .int .i64 0] := Blk.made' (by simp)
  have HC0 := hide (h.next hB0)
  have H00 := hide h
  have HQ1 := hide q1
  have HQ2 := hide q2
  have HQ3 := hide q3
  have HB0 := hide hB0
  clear h hB0 q1 q2 q3
  refine (callsIn_wide (n := 0)).1 (callsIn_of_wp_marks Try.func18 rfl trivial ?_ rfl)
  refine (wpIn_wide (n := 0)).2 ?_
  simp only [Try.ntmps18, List.size_toArray, List.length_cons, List.length_nil, Nat.reduceAdd, Nat.reduceSub, Array.replicate_succ, Array.replicate_zero, List.push_toArray, List.append_toArray, List.nil_append, List.cons_append]
  go_wp2_with fail
  generalize (((w.alloc (.cells (fileCells f fa) 28)).alloc (.cells #[.int .i64 party] 3)).alloc (.cells #[.int .i64 0, .int .i64 0] 43)) = w0 at *
  have hz00 := HQ3.out.lt
  refine (enter_any HC0.out party _ 0 (by have := HC0.out.m1; unfold maxLen at this; omega)).mono ?_
  rintro e w1 (⟨hE, hv, b, bm, rfl, hbb, hbm, hL, hB1⟩ | ⟨hE, rfl, hB1⟩)
  · have HX := hide (show owesV f party = (oweP f party (truthsB f 0), 0) by rw [owesV, if_pos hE])
    have hz01 := hB1.size
    have hB2 : Below w1.heap.size w1 ((w1.alloc (.cells #[.pointer (some ⟨b, 0, none⟩)] 79)).alloc (.cells #[.bool true] 4)) := ((Below.refl _ _).alloc (Nat.le_refl _) _).alloc (by simp) _
    have HV := hide hv
    have HB1 := hide (HB0.out.trans (hB1.mono HB0.out.size))
    have n1 := (HQ1.out.next hB1).next hB2
    have n2 := (HQ2.out.next hB1).next hB2
    have n3 := (HQ3.out.next hB1).next hB2
    have n4 : Blk ((w1.alloc (.cells #[.pointer (some ⟨b, 0, none⟩)] 79)).alloc (.cells #[.bool true] 4)) w1.heap.size 79 #[.pointer (some ⟨b, 0, none⟩)] := Blk.made.alloc _
    have n5 : Blk ((w1.alloc (.cells #[.pointer (some ⟨b, 0, none⟩)] 79)).alloc (.cells #[.bool true] 4)) (w1.heap.size + 1) 4 #[.bool true] := Blk.made' (by simp)
    have HL := hide ((hL.less (H00.out.below HB1.out) HB1.out.size).still hB2)
    have hcl := hv.claims
    have hb1 := hL.hb
    have hbm1 := hL.hm
    have HB2 := hide (HB1.out.trans (hB2.mono HB1.out.size))
    clear hE hv hL hB1 hB2
    go_wp2_with fail
    generalize ((w1.alloc (.cells #[.pointer (some ⟨b, 0, none⟩)] 79)).alloc (.cells #[.bool true] 4)) = w2 at *
    refine truths_any.mono ?_
    rintro e w3 ⟨p1, rfl, hp1, hp1', e1, hB3⟩
    have hz2 := n5.lt
    have hz3 := hB3.size
    have HL3 := hide (HL.out.still hB3)
    replace n1 := n1.next hB3
    replace n2 := n2.next hB3
    replace n3 := n3.next hB3
    replace n4 := n4.next hB3
    replace n5 := n5.next hB3
    have HB3 := hide (HB2.out.trans (hB3.mono HB2.out.size))
    clear hB3
    go_wp2_with fail
    refine range_truths (f := f) (A := fun x g => { tmps := #[fileVal f fa, .int .i64 party, .pointer (some ⟨w.heap.size, 0, none⟩), .pointer (some ⟨w.heap.size + 1, 0, none⟩), .pointer (some ⟨w.heap.size + 1 + 1, 0, none⟩), .int .i64 (0), .pointer (some ⟨w1.heap.size, 0, none⟩), .pointer (some ⟨w1.heap.size + 1, 0, none⟩), .pointer (some ⟨g, 0, none⟩), undef, undef, undef, .tuple #[.pointer (some ⟨b, 0, none⟩), .int .i64 (0)], fileVal f fa, .int .i64 party, .pointer (some ⟨w.heap.size, 0, none⟩), .slice fa.A1 f.parties.length fa.c1, .int .i64 (f.parties.length : Nat), .tuple #[.pointer (some ⟨b, 0, none⟩), .int .i64 (0)], .pointer (some ⟨b, 0, none⟩), .int .i64 (0), .int .i64 (0), .bool false, undef, undef, .pointer (some ⟨b, 0, none⟩), .func (.func 77) #[] #[.pointer (some ⟨p1, 0, none⟩)], plVal x, undef, undef, undef, undef, undef, undef, undef, undef, undef, undef, undef, undef, undef, undef, undef, undef, undef, undef, undef, undef, undef, undef, undef, undef, undef, undef, undef, undef, undef, undef, undef, undef, undef, undef, undef, undef, undef, undef, undef, undef, undef, undef, undef, undef, undef, undef, undef, undef], defers := [] }) rfl rfl HL3.out HV.out (by omega : 0 < 32) e1
      (fun k => k = w1.heap.size + 1 ∨ k = w.heap.size + 1 + 1) (fun k hk => by omega)
      (fun pre W => Blk W w.heap.size 28 (fileCells f fa) ∧ Blk W (w.heap.size + 1) 3 #[.int .i64 party] ∧ Blk W (w.heap.size + 1 + 1) 43 #[.int .i64 (oweP f party pre).lo, .int .i64 (oweP f party pre).hi] ∧ Blk W w1.heap.size 79 #[.pointer (some ⟨b, 0, none⟩)] ∧ Blk W (w1.heap.size + 1) 4 #[.bool (oweS f party pre).isNone]) (fun _ _ _ => False) ?hI (fun _ _ _ _ h _ => h) ?h0 ?hass ?body ?done (fun _ _ _ _ _ _ _ h _ _ _ => h.elim)
    case hI =>
      rintro pre V V' ⟨i1, i2, i3, i4, i5⟩ hk
      exact ⟨i1.keep hk (by omega), i2.keep hk (by omega), i3.keep hk (by omega), i4.keep hk (by omega), i5.keep hk (by omega)⟩
    case h0 => exact ⟨n1, n2, n3, n4, n5⟩
    case hass =>
      intro l x W1
      simp only [plVal, iv]
      gi_wp2
    case body =>
      rintro l pre x W3 g hg hl hx0 hx ⟨i1, i2, i3, i4, i5⟩ hLW hp hz4
      have hgz := hp.lt
      have r1 := i4.at_ 0
      have r4 := i1.at_ 4
      have x0 := hp.at_ 0
      have x1 := hp.at_ 1
      have x2 := hp.at_ 2
      have x3 := hp.at_ 3
      simp only [fileCells, List.getElem?_toArray, List.getElem?_cons_zero, List.getElem?_cons_succ] at r1 r4 x0 x1 x2 x3
      have HLW := hide hLW
      have HI1 := hide i1
      have HI2 := hide i2
      have HI3 := hide i3
      have HI4 := hide i4
      have HI5 := hide i5
      have hz34 := i4.lt
      have hz35 := i5.lt
      clear i1 i2 i3 i4 i5 hLW hp
      refine wpIn_block ?_
      simp only [plVal, iv]
      gi_wp2_with fail
      refine wpIn_round_rel (dst := fun i => [28, 29, 30, 31, 32, 33, 34, 35, 36].getD i 0) (mono := fun i => decide (i < 9)) (pre := fun i => decide (i < 9)) (R := LKeep (fun k => k = bm) (fun W => Known W bm (paidV f)))
        (Pv := fun i v W => match i with
          | 0 => v = .pointer (some ⟨b, 0, none⟩)
          | 1 => v = .agg #[.int .i64 (nth x 0), .int .i64 (nth x 1), .int .i64 (nth x 2), .int .i64 (nth x 3)]
          | 2 => v = .int .i64 (paidN f x f.claims.length : Nat)
          | 3 => v = .pointer (some ⟨w.heap.size, 4, none⟩)
          | 4 => v = .slice fa.A5 f.claims.length fa.c5
          | 5 => v = .int .i64 (f.claims.length : Nat)
          | 6 => ∃ gl cp, v = .slice (some ⟨gl, 0, none⟩) ((List.range f.claims.length).filter (paidB f x)).length cp ∧ W3.heap.size ≤ gl ∧ IntsS W W.heap.size (some ⟨gl, 0, none⟩) ((List.range f.claims.length).filter (paidB f x)).length cp (natInts ((List.range f.claims.length).filter (paidB f x)))
          | 7 => v = .int .i64 (((List.range f.claims.length).filter (paidB f x)).length : Nat)
          | 8 => v = .int .i64 0
          | _ => True) (by kernel_rfl) (by kernel_rfl) (by rintro ⟨a, w, h⟩; exact h) (by kernel_rfl) (LKeep.refl _ _) (fun _ _ _ h h' => h.trans h') ?hst ?hstep ?hend
      case hst =>
        intro i v W W' h hk
        match i, h with
        | 0, h => exact h
        | 1, h => exact h
        | 2, h => exact h
        | 3, h => exact h
        | 4, h => exact h
        | 5, h => exact h
        | 6, h => obtain ⟨gl, cp, h1, h2, h3⟩ := h; exact ⟨gl, cp, h1, h2, h3.stab hk.1.size (fun b o hb e _ => hk.1.block b hb (by simp only [Option.some.injEq, Addr.mk.injEq] at e; omega))⟩
        | 7, h => exact h
        | 8, h => exact h
        | i + 9, h => exact trivial
      case hstep =>
        intro i hi hm listed vs a W hU hk0 hpv haft K hK
        have hkk := (LKeep.drew (fun k => k = bm) (M := fun W => Known W bm (paidV f)) W3 (fun h => h)).trans hk0
        have hk := hkk.1
        have hkm := hkk.2
        clear hkk
        match i, hi, hm with
        | 0, hi, hm =>
          have z6 : a.tmps[6]?.getD undef = .pointer (some ⟨w1.heap.size, 0, none⟩) := hU.same 6 (by decide)
          have y0 := (hk.cell (b := w1.heap.size) (o := 0) (by omega) (by omega)).trans (r1)
          refine wpOp_value (v := .pointer (some ⟨b, 0, none⟩)) (W' := W) rfl rfl ?_ (hK _ _ (LKeep.refl _ _ _) rfl)
          go_simp
        | 1, hi, hm =>
          have z8 : a.tmps[8]?.getD undef = .pointer (some ⟨g, 0, none⟩) := hU.same 8 (by decide)
          have y0 := (hk.cell (b := g) (o := 0) (hgz) (by omega)).trans (x0)
          have y1 := (hk.cell (b := g) (o := 1) (hgz) (by omega)).trans (x1)
          have y2 := (hk.cell (b := g) (o := 2) (hgz) (by omega)).trans (x2)
          have y3 := (hk.cell (b := g) (o := 3) (hgz) (by omega)).trans (x3)
          refine wpOp_value (v := .agg #[.int .i64 (nth x 0), .int .i64 (nth x 1), .int .i64 (nth x 2), .int .i64 (nth x 3)]) (W' := W) rfl rfl ?_ (hK _ _ (LKeep.refl _ _ _) rfl)
          go_simp
        | 2, hi, hm =>
          have l0 := haft _ rfl { on := 0, ground := .data } (by simp) rfl
          have hv0 : vs 0 = .pointer (some ⟨b, 0, none⟩) := hpv 0 l0
          have s0 : a.tmps[28]?.getD undef = vs 0 := hU.slot 0 (by decide) l0
          rw [hv0] at s0
          have l1 := haft _ rfl { on := 1, ground := .data } (by simp) rfl
          have hv1 : vs 1 = .agg #[.int .i64 (nth x 0), .int .i64 (nth x 1), .int .i64 (nth x 2), .int .i64 (nth x 3)] := hpv 1 l1
          have s1 : a.tmps[29]?.getD undef = vs 1 := hU.slot 1 (by decide) l1
          rw [hv1] at s1
          refine wpOp_enter (f := 59) (args := #[.pointer (some ⟨b, 0, none⟩), .agg #[.int .i64 (nth x 0), .int .i64 (nth x 1), .int .i64 (nth x 2), .int .i64 (nth x 3)]]) (W' := W) rfl rfl ?_ ((paid_any (HLW.out.keep hk (fun k h => .inl h) (hkm HLW.out.k)) HV.out hx).mono (fun e w'' h => ?_))
          · go_simp
          · obtain ⟨he, hkw, hn⟩ := h
            exact ⟨_, he, hK _ _ (⟨hkw, fun _ => hn⟩) rfl⟩
        | 3, hi, hm =>
          have z2 : a.tmps[2]?.getD undef = .pointer (some ⟨w.heap.size, 0, none⟩) := hU.same 2 (by decide)
          refine wpOp_value (v := .pointer (some ⟨w.heap.size, 4, none⟩)) (W' := W) rfl rfl ?_ (hK _ _ (LKeep.refl _ _ _) rfl)
          go_simp
        | 4, hi, hm =>
          have l3 := haft _ rfl { on := 3, ground := .data } (by simp) rfl
          have hv3 : vs 3 = .pointer (some ⟨w.heap.size, 4, none⟩) := hpv 3 l3
          have s3 : a.tmps[31]?.getD undef = vs 3 := hU.slot 3 (by decide) l3
          rw [hv3] at s3
          have y0 := (hk.cell (b := w.heap.size) (o := 4) (by omega) (by omega)).trans (r4)
          refine wpOp_value (v := .slice fa.A5 f.claims.length fa.c5) (W' := W) rfl rfl ?_ (hK _ _ (LKeep.refl _ _ _) rfl)
          go_simp
        | 5, hi, hm =>
          have l4 := haft _ rfl { on := 4, ground := .data } (by simp) rfl
          have hv4 : vs 4 = .slice fa.A5 f.claims.length fa.c5 := hpv 4 l4
          have s4 : a.tmps[32]?.getD undef = vs 4 := hU.slot 4 (by decide) l4
          rw [hv4] at s4
          refine wpOp_value (v := .int .i64 (f.claims.length : Nat)) (W' := W) rfl rfl ?_ (hK _ _ (LKeep.refl _ _ _) rfl)
          go_simp
        | 6, hi, hm =>
          have l2 := haft _ rfl { on := 2, ground := .data } (by simp) rfl
          have hv2 : vs 2 = .int .i64 (paidN f x f.claims.length : Nat) := hpv 2 l2
          have s2 : a.tmps[30]?.getD undef = vs 2 := hU.slot 2 (by decide) l2
          rw [hv2] at s2
          have l5 := haft _ rfl { on := 5, ground := .data } (by simp) rfl
          have hv5 : vs 5 = .int .i64 (f.claims.length : Nat) := hpv 5 l5
          have s5 : a.tmps[33]?.getD undef = vs 5 := hU.slot 5 (by decide) l5
          rw [hv5] at s5
          refine wpOp_enter (f := 51) (args := #[.int .i64 (paidN f x f.claims.length : Nat), .int .i64 (f.claims.length : Nat)]) (W' := W) rfl rfl ?_ (((list_any (paidN_32 x hcl) hcl W).mono (fun e w h => by rw [pays_list] at h; exact h)).mono (fun e w'' h => ?_))
          · go_simp
          · obtain ⟨gl, cl, he, hi, hgl, hb5⟩ := h
            exact ⟨_, he, hK _ _ (LKeep.below hb5 (fun h => h.keep (Keep.of_below' hb5 (fun _ => False)) (fun h => h))) ⟨gl, cl, rfl, by have := hk.size; omega, hi⟩⟩
        | 7, hi, hm =>
          have l6 := haft _ rfl { on := 6, ground := .data } (by simp) rfl
          obtain ⟨gl6, cp6, hv6, hg6, hi6⟩ := hpv 6 l6
          have s6 : a.tmps[34]?.getD undef = vs 6 := hU.slot 6 (by decide) l6
          rw [hv6] at s6
          refine wpOp_value (v := .int .i64 (((List.range f.claims.length).filter (paidB f x)).length : Nat)) (W' := W) rfl rfl ?_ (hK _ _ (LKeep.refl _ _ _) rfl)
          go_simp
        | 8, hi, hm =>
          refine wpOp_value (v := .int .i64 0) (W' := W) rfl rfl ?_ (hK _ _ (LKeep.refl _ _ _) rfl)
          go_simp
        | i + 9, hi, hm => exact absurd (of_decide_eq_true hm) (by omega)
      case hend =>
        intro listed vs a W hG hk0 hpv hpre
        have hkk := (LKeep.drew (fun k => k = bm) (M := fun W => Known W bm (paidV f)) W3 (fun h => h)).trans hk0
        have hk := hkk.1
        have hkm := hkk.2
        clear hkk
        have hact := hG.act
        have hT := hG.lst hpre 0 #[true, true, true, true, true, true, true, true, true] rfl (by kernel_rfl) (hpre 0 (by decide) (by decide))
        rw [hG.ix hT (l := [0, 1, 2, 3, 4, 5, 6, 7, 8]) (by kernel_rfl)] at hact
        rw [hG.lo hT (k := 0) (by kernel_rfl)]
        have hv0 : vs 0 = .pointer (some ⟨b, 0, none⟩) := hpv 0 (hpre 0 (by decide) (by decide))
        have hv1 : vs 1 = .agg #[.int .i64 (nth x 0), .int .i64 (nth x 1), .int .i64 (nth x 2), .int .i64 (nth x 3)] := hpv 1 (hpre 1 (by decide) (by decide))
        have hv2 : vs 2 = .int .i64 (paidN f x f.claims.length : Nat) := hpv 2 (hpre 2 (by decide) (by decide))
        have hv3 : vs 3 = .pointer (some ⟨w.heap.size, 4, none⟩) := hpv 3 (hpre 3 (by decide) (by decide))
        have hv4 : vs 4 = .slice fa.A5 f.claims.length fa.c5 := hpv 4 (hpre 4 (by decide) (by decide))
        have hv5 : vs 5 = .int .i64 (f.claims.length : Nat) := hpv 5 (hpre 5 (by decide) (by decide))
        obtain ⟨gl6, cp6, hv6, hg6, hi6⟩ := hpv 6 (hpre 6 (by decide) (by decide))
        have hv7 : vs 7 = .int .i64 (((List.range f.claims.length).filter (paidB f x)).length : Nat) := hpv 7 (hpre 7 (by decide) (by decide))
        have hv8 : vs 8 = .int .i64 0 := hpv 8 (hpre 8 (by decide) (by decide))
        clear hpv hpre hG hk0
        obtain rfl : a = _ := hact
        subst hT
        simp only [setAll, List.setIfInBounds_toArray, List.set_cons_succ, List.set_cons_zero, List.getD_cons_succ, List.getD_cons_zero]
        simp only [hv0, hv1, hv2, hv3, hv4, hv5, hv6, hv7, hv8]
        clear hv0 hv1 hv2 hv3 hv4 hv5 hv6 hv7 hv8
        refine wpAny_done (by kernel_rfl) ?_ _
        have hLn : (List.range f.claims.length).filter (paidB f x) = (List.range f.claims.length).filter (paidB f x) := rfl
        have hLi : ∀ i ∈ (List.range f.claims.length).filter (paidB f x), i < f.claims.length := fun i hi => List.mem_range.1 (List.mem_filter.1 hi).1
        have hLl : ((List.range f.claims.length).filter (paidB f x)).length ≤ 5 := by have := List.length_filter_le (paidB f x) (List.range f.claims.length); rw [List.length_range] at this; omega
        have HDS := hide (due_sum f x party)
        generalize (List.range f.claims.length).filter (paidB f x) = Lx at *
        have HLI := hide hLi
        have HIL := hide hi6
        have HWK := hide hk
        have hn := HLW.out.keep hk (fun k h => .inl h) (hkm HLW.out.k)
        have HLV := hide hn
        have i1 := HI1.out.keep hk (by omega)
        have i2 := HI2.out.keep hk (by omega)
        have r4 := i1.at_ 4
        have r2 := i1.at_ 2
        have rp := i2.at_ 0
        simp only [fileCells, List.getElem?_toArray, List.getElem?_cons_zero, List.getElem?_cons_succ] at r4 r2 rp
        have hzw1 := i1.lt
        have hzw2 := i2.lt
        have hzWL := hn.hL
        have hzWb := hk.size
        have hm5 := hn.v.m5
        have hm3 := hn.v.m3
        unfold maxLen at hm5 hm3
        clear hLn hLi hk hkm hn hi6 r1 x0 x1 x2 x3 i1 i2
        obtain ⟨Wm, rfl⟩ : ∃ Wm : World, Wm = W := ⟨_, rfl⟩
        gi_wp2_with fail
        gi_loopw [9, 11, 36] (fun v9 _ v36 wr => ∃ m : Nat, m ≤ Lx.length ∧ v36 = .int .i64 m ∧ v9 = .int .i64 (dueL f party (Lx.take m)) ∧ Below Wm.heap.size Wm wr) (fun _ _ v36 _ => Lx.length - (intOf v36).toNat)
        case atStart => exact ⟨0, Nat.zero_le _, rfl, rfl, Below.refl _ _⟩
        case round =>
          obtain ⟨m, hm, rfl, rfl, hB⟩ := hrel
          have hm0 : (0 : Int) ≤ (m : Int) := Int.natCast_nonneg _
          have hzr := hB.size
          by_cases hlt : m < Lx.length
          · have hm1 : (m : Int) < (Lx.length : Int) := by omega
            obtain ⟨bq, oq, eq, hbq, hcq⟩ := HIL.out.at_ hlt
            obtain ⟨rfl, rfl⟩ : gl6 = bq ∧ 0 = oq := by simpa using eq
            have hci := HLI.out (nth Lx m) (by rw [nth_eq hlt]; exact List.getElem_mem _)
            have hni : nth (natInts Lx) m = (nth Lx m : Nat) := by simp [natInts, nth, List.getElem?_map, hlt]
            rw [hni] at hcq
            have HTK := hide (show dueL f party (Lx.take (m + 1)) = dueL f party (Lx.take m) + dueI f party (nth Lx m) by rw [take_nth hlt, dueL_snoc])
            have hdr := dueL_range HV.out party (Lx.take m) (fun i hi => HLI.out i (List.mem_of_mem_take hi))
            have hdl : (Lx.take m).length ≤ 5 := by have := List.length_take_le m Lx; omega
            generalize nth Lx m = ci at *
            generalize dueL f party (Lx.take m) = D at *
            have hD0 := hdr.1
            have hD1 : D ≤ 495 := by omega
            obtain ⟨bc, oc, hA5, hbc, g0, g1, g2⟩ := HLV.out.v.claims.claims hci
            have hcv := HV.out.claim ci hci
            have HDI := hide (show dueI f party ci = if (nth f.claims ci).against == party then (nth f.lots (nth f.claims ci).lot.toNat).worth else 0 from rfl)
            generalize nth f.claims ci = c at *
            obtain ⟨lk0, ag, cd⟩ := c
            obtain ⟨lk, rfl⟩ : ∃ lk : Nat, lk0 = (lk : Int) := ⟨lk0.toNat, by dsimp only at hcv; omega⟩
            dsimp only at g0 g1 hcv HDI
            rw [Int.toNat_natCast] at HDI
            have hlk : lk < f.lots.length := by omega
            obtain ⟨bl, ol, hA3, hbl, y0, y1, y2, g3⟩ := HLV.out.v.lots.lots hlk
            have hwo := HV.out.lot lk hlk
            generalize (nth f.lots lk).worth = wo at *
            have hw0 := hwo.2.2.2.1
            have hw1 := hwo.2.2.2.2
            rw [hA5] at r4
            rw [hA3] at r2
            have r4 := (hB.cell (p := ⟨w.heap.size, 4, none⟩) hzw1).trans r4
            have r2 := (hB.cell (p := ⟨w.heap.size, 2, none⟩) hzw1).trans r2
            have rp := (hB.cell (p := ⟨w.heap.size + 1, 0, none⟩) hzw2).trans rp
            have g0 := (hB.cell (p := ⟨bc, oc + ci * 3, none⟩) (by show bc < _; omega)).trans g0
            have g1 := (hB.cell (p := ⟨bc, oc + ci * 3 + 1, none⟩) (by show bc < _; omega)).trans g1
            have g3 := (hB.cell (p := ⟨bl, ol + lk * 4 + 3, none⟩) (by show bl < _; omega)).trans g3
            have hq := (hB.cell (p := ⟨gl6, 0 + m, none⟩) (by show gl6 < _; omega)).trans hcq
            rw [Nat.zero_add] at hq
            have hci0 : (0 : Int) ≤ (ci : Int) := Int.natCast_nonneg _
            have hci1 : (ci : Int) < (f.claims.length : Int) := by omega
            have hlk0 : (0 : Int) ≤ (lk : Int) := Int.natCast_nonneg _
            have hlk1 : (lk : Int) < (f.lots.length : Int) := by omega
            have hbcr : bc < wr.heap.size := by omega
            have hblr : bl < wr.heap.size := by omega
            have hglr : gl6 < wr.heap.size := by omega
            have HB := hide hB
            clear hcq y0 y1 y2 hA5 hA3 hwo hcv hdr g2 hni eq hB
            gi_wp2_with fail
            cases hag : (ag == party) with
            | true =>
              have HAG := hide hag
              refine wpIn_round_rel (dst := fun i => [40, 41, 42, 43, 44, 45, 46, 47].getD i 0) (mono := fun i => decide (i < 8)) (pre := fun i => decide (i < 8)) (R := LKeep (fun _ => False) (fun _ => True))
                (Pv := fun i v W => match i with
                  | 0 => v = .pointer (some ⟨w.heap.size, 4, none⟩)
                  | 1 => v = .slice (some ⟨bc, oc, none⟩) f.claims.length fa.c5
                  | 2 => v = .int .i64 (ci : Nat)
                  | 3 => v = .pointer (some ⟨bc, oc + ci * 3, none⟩)
                  | 4 => v = .pointer (some ⟨bc, oc + ci * 3 + 1, none⟩)
                  | 5 => v = .int .i64 ag
                  | 6 => v = .int .i64 party
                  | 7 => v = .bool true
                  | _ => True) (by kernel_rfl) (by kernel_rfl) (by rintro ⟨a, w, h⟩; exact h) (by kernel_rfl) (LKeep.refl _ _) (fun _ _ _ h h' => h.trans h') ?hstCt ?hstepCt ?hendCt
              case hstCt =>
                intro i v W W' h hk
                match i, h with
                | 0, h => exact h
                | 1, h => exact h
                | 2, h => exact h
                | 3, h => exact h
                | 4, h => exact h
                | 5, h => exact h
                | 6, h => exact h
                | 7, h => exact h
                | i + 8, h => exact trivial
              case hstepCt =>
                intro i hi hm listed vs a W hU hk0 hpv haft K hK
                have hkk := (LKeep.drew (fun _ => False) (M := fun _ => True) wr (fun h => h)).trans hk0
                have hk := hkk.1
                have hkm := hkk.2
                clear hkk
                match i, hi, hm with
                | 0, hi, hm =>
                  have z2 : a.tmps[2]?.getD undef = .pointer (some ⟨w.heap.size, 0, none⟩) := hU.same 2 (by decide)
                  refine wpOp_value (v := .pointer (some ⟨w.heap.size, 4, none⟩)) (W' := W) rfl rfl ?_ (hK _ _ (LKeep.refl _ _ _) rfl)
                  go_simp
                | 1, hi, hm =>
                  have l0 := haft _ rfl { on := 0, ground := .data } (by simp) rfl
                  have hv0 : vs 0 = .pointer (some ⟨w.heap.size, 4, none⟩) := hpv 0 l0
                  have s0 : a.tmps[40]?.getD undef = vs 0 := hU.slot 0 (by decide) l0
                  rw [hv0] at s0
                  have y0 := (hk.cell (b := w.heap.size) (o := 4) (by omega) (fun h => h)).trans (r4)
                  refine wpOp_value (v := .slice (some ⟨bc, oc, none⟩) f.claims.length fa.c5) (W' := W) rfl rfl ?_ (hK _ _ (LKeep.refl _ _ _) rfl)
                  go_simp
                | 2, hi, hm =>
                  have z11 : a.tmps[11]?.getD undef = .int .i64 (ci : Nat) := hU.same 11 (by decide)
                  refine wpOp_value (v := .int .i64 (ci : Nat)) (W' := W) rfl rfl ?_ (hK _ _ (LKeep.refl _ _ _) rfl)
                  go_simp
                | 3, hi, hm =>
                  have l1 := haft _ rfl { on := 1, ground := .data } (by simp) rfl
                  have hv1 : vs 1 = .slice (some ⟨bc, oc, none⟩) f.claims.length fa.c5 := hpv 1 l1
                  have s1 : a.tmps[41]?.getD undef = vs 1 := hU.slot 1 (by decide) l1
                  rw [hv1] at s1
                  have l2 := haft _ rfl { on := 2, ground := .data } (by simp) rfl
                  have hv2 : vs 2 = .int .i64 (ci : Nat) := hpv 2 l2
                  have s2 : a.tmps[42]?.getD undef = vs 2 := hU.slot 2 (by decide) l2
                  rw [hv2] at s2
                  refine wpOp_value (v := .pointer (some ⟨bc, oc + ci * 3, none⟩)) (W' := W) rfl rfl ?_ (hK _ _ (LKeep.refl _ _ _) rfl)
                  go_simp
                | 4, hi, hm =>
                  have l3 := haft _ rfl { on := 3, ground := .data } (by simp) rfl
                  have hv3 : vs 3 = .pointer (some ⟨bc, oc + ci * 3, none⟩) := hpv 3 l3
                  have s3 : a.tmps[43]?.getD undef = vs 3 := hU.slot 3 (by decide) l3
                  rw [hv3] at s3
                  refine wpOp_value (v := .pointer (some ⟨bc, oc + ci * 3 + 1, none⟩)) (W' := W) rfl rfl ?_ (hK _ _ (LKeep.refl _ _ _) rfl)
                  go_simp
                | 5, hi, hm =>
                  have l4 := haft _ rfl { on := 4, ground := .data } (by simp) rfl
                  have hv4 : vs 4 = .pointer (some ⟨bc, oc + ci * 3 + 1, none⟩) := hpv 4 l4
                  have s4 : a.tmps[44]?.getD undef = vs 4 := hU.slot 4 (by decide) l4
                  rw [hv4] at s4
                  have y0 := (hk.cell (b := bc) (o := oc + ci * 3 + 1) (by omega) (fun h => h)).trans (g1)
                  refine wpOp_value (v := .int .i64 ag) (W' := W) rfl rfl ?_ (hK _ _ (LKeep.refl _ _ _) rfl)
                  go_simp
                | 6, hi, hm =>
                  have z3 : a.tmps[3]?.getD undef = .pointer (some ⟨w.heap.size + 1, 0, none⟩) := hU.same 3 (by decide)
                  have y0 := (hk.cell (b := w.heap.size + 1) (o := 0) (by omega) (fun h => h)).trans (rp)
                  refine wpOp_value (v := .int .i64 party) (W' := W) rfl rfl ?_ (hK _ _ (LKeep.refl _ _ _) rfl)
                  go_simp
                | 7, hi, hm =>
                  have l5 := haft _ rfl { on := 5, ground := .data } (by simp) rfl
                  have hv5 : vs 5 = .int .i64 ag := hpv 5 l5
                  have s5 : a.tmps[45]?.getD undef = vs 5 := hU.slot 5 (by decide) l5
                  rw [hv5] at s5
                  have l6 := haft _ rfl { on := 6, ground := .data } (by simp) rfl
                  have hv6 : vs 6 = .int .i64 party := hpv 6 l6
                  have s6 : a.tmps[46]?.getD undef = vs 6 := hU.slot 6 (by decide) l6
                  rw [hv6] at s6
                  refine wpOp_value (v := .bool true) (W' := W) rfl rfl ?_ (hK _ _ (LKeep.refl _ _ _) rfl)
                  go_simp
                | i + 8, hi, hm => exact absurd (of_decide_eq_true hm) (by omega)
              case hendCt =>
                intro listed vs a W hG hk0 hpv hpre
                have hkk := (LKeep.drew (fun _ => False) (M := fun _ => True) wr (fun h => h)).trans hk0
                have hk := hkk.1
                have hkm := hkk.2
                clear hkk
                have hact := hG.act
                have hT := hG.lst hpre 0 #[true, true, true, true, true, true, true, true] rfl (by kernel_rfl) (hpre 0 (by decide) (by decide))
                rw [hG.ix hT (l := [0, 1, 2, 3, 4, 5, 6, 7]) (by kernel_rfl)] at hact
                rw [hG.lo hT (k := 0) (by kernel_rfl)]
                have hv0 : vs 0 = .pointer (some ⟨w.heap.size, 4, none⟩) := hpv 0 (hpre 0 (by decide) (by decide))
                have hv1 : vs 1 = .slice (some ⟨bc, oc, none⟩) f.claims.length fa.c5 := hpv 1 (hpre 1 (by decide) (by decide))
                have hv2 : vs 2 = .int .i64 (ci : Nat) := hpv 2 (hpre 2 (by decide) (by decide))
                have hv3 : vs 3 = .pointer (some ⟨bc, oc + ci * 3, none⟩) := hpv 3 (hpre 3 (by decide) (by decide))
                have hv4 : vs 4 = .pointer (some ⟨bc, oc + ci * 3 + 1, none⟩) := hpv 4 (hpre 4 (by decide) (by decide))
                have hv5 : vs 5 = .int .i64 ag := hpv 5 (hpre 5 (by decide) (by decide))
                have hv6 : vs 6 = .int .i64 party := hpv 6 (hpre 6 (by decide) (by decide))
                have hv7 : vs 7 = .bool true := hpv 7 (hpre 7 (by decide) (by decide))
                clear hpv hpre hG hk0
                obtain rfl : a = _ := hact
                subst hT
                simp only [setAll, List.setIfInBounds_toArray, List.set_cons_succ, List.set_cons_zero, List.getD_cons_succ, List.getD_cons_zero]
                simp only [hv0, hv1, hv2, hv3, hv4, hv5, hv6, hv7]
                clear hv0 hv1 hv2 hv3 hv4 hv5 hv6 hv7
                refine wpAny_done (by kernel_rfl) ?_ _
                have k_r4 := (hk.cell (b := w.heap.size) (o := 4) (by omega) (fun h => h)).trans r4
                have k_r2 := (hk.cell (b := w.heap.size) (o := 2) (by omega) (fun h => h)).trans r2
                have k_g0 := (hk.cell (b := bc) (o := oc + ci * 3) (by omega) (fun h => h)).trans g0
                have k_g3 := (hk.cell (b := bl) (o := ol + lk * 4 + 3) (by omega) (fun h => h)).trans g3
                have hzk := hk.size
                have hbz := hk.below (B := wr.heap.size) (fun k h => h.elim) (Nat.le_refl _)
                have HBZ := hide (HB.out.trans (hbz.mono HB.out.size))
                clear hk hkm hbz
                clear r4 r2 rp g0 g1 g3
                obtain ⟨wx, rfl⟩ : ∃ wx : World, wx = W := ⟨_, rfl⟩
                gi_wp2_with fail
                refine wpIn_round_rel (dst := fun i => [48, 49, 50, 51, 52, 53, 54, 55, 56, 57, 58, 59, 60, 0].getD i 0) (mono := fun i => decide (i < 13)) (pre := fun i => decide (i < 13)) (R := LKeep (fun _ => False) (fun _ => True))
                  (Pv := fun i v W => match i with
                    | 0 => v = .int .i64 D
                    | 1 => v = .pointer (some ⟨w.heap.size, 2, none⟩)
                    | 2 => v = .slice (some ⟨bl, ol, none⟩) f.lots.length fa.c3
                    | 3 => v = .pointer (some ⟨w.heap.size, 4, none⟩)
                    | 4 => v = .slice (some ⟨bc, oc, none⟩) f.claims.length fa.c5
                    | 5 => v = .int .i64 (ci : Nat)
                    | 6 => v = .pointer (some ⟨bc, oc + ci * 3, none⟩)
                    | 7 => v = .pointer (some ⟨bc, oc + ci * 3, none⟩)
                    | 8 => v = .int .i64 (lk : Nat)
                    | 9 => v = .pointer (some ⟨bl, ol + lk * 4, none⟩)
                    | 10 => v = .pointer (some ⟨bl, ol + lk * 4 + 3, none⟩)
                    | 11 => v = .int .i64 wo
                    | 12 => v = .int .i64 (D + wo)
                    | _ => True) (by kernel_rfl) (by kernel_rfl) (by rintro ⟨a, w, h⟩; exact h) (by kernel_rfl) (LKeep.refl _ _) (fun _ _ _ h h' => h.trans h') ?hstD ?hstepD ?hendD
                case hstD =>
                  intro i v W W' h hk
                  match i, h with
                  | 0, h => exact h
                  | 1, h => exact h
                  | 2, h => exact h
                  | 3, h => exact h
                  | 4, h => exact h
                  | 5, h => exact h
                  | 6, h => exact h
                  | 7, h => exact h
                  | 8, h => exact h
                  | 9, h => exact h
                  | 10, h => exact h
                  | 11, h => exact h
                  | 12, h => exact h
                  | i + 13, h => exact trivial
                case hstepD =>
                  intro i hi hm listed vs a W hU hk0 hpv haft K hK
                  have hkk := (LKeep.drew (fun _ => False) (M := fun _ => True) wx (fun h => h)).trans hk0
                  have hk := hkk.1
                  have hkm := hkk.2
                  clear hkk
                  match i, hi, hm with
                  | 0, hi, hm =>
                    have z9 : a.tmps[9]?.getD undef = .int .i64 D := hU.same 9 (by decide)
                    refine wpOp_value (v := .int .i64 D) (W' := W) rfl rfl ?_ (hK _ _ (LKeep.refl _ _ _) rfl)
                    go_simp
                  | 1, hi, hm =>
                    have z2 : a.tmps[2]?.getD undef = .pointer (some ⟨w.heap.size, 0, none⟩) := hU.same 2 (by decide)
                    refine wpOp_value (v := .pointer (some ⟨w.heap.size, 2, none⟩)) (W' := W) rfl rfl ?_ (hK _ _ (LKeep.refl _ _ _) rfl)
                    go_simp
                  | 2, hi, hm =>
                    have l1 := haft _ rfl { on := 1, ground := .data } (by simp) rfl
                    have hv1 : vs 1 = .pointer (some ⟨w.heap.size, 2, none⟩) := hpv 1 l1
                    have s1 : a.tmps[49]?.getD undef = vs 1 := hU.slot 1 (by decide) l1
                    rw [hv1] at s1
                    have y0 := (hk.cell (b := w.heap.size) (o := 2) (by omega) (fun h => h)).trans (k_r2)
                    refine wpOp_value (v := .slice (some ⟨bl, ol, none⟩) f.lots.length fa.c3) (W' := W) rfl rfl ?_ (hK _ _ (LKeep.refl _ _ _) rfl)
                    go_simp
                  | 3, hi, hm =>
                    have z2 : a.tmps[2]?.getD undef = .pointer (some ⟨w.heap.size, 0, none⟩) := hU.same 2 (by decide)
                    refine wpOp_value (v := .pointer (some ⟨w.heap.size, 4, none⟩)) (W' := W) rfl rfl ?_ (hK _ _ (LKeep.refl _ _ _) rfl)
                    go_simp
                  | 4, hi, hm =>
                    have l3 := haft _ rfl { on := 3, ground := .data } (by simp) rfl
                    have hv3 : vs 3 = .pointer (some ⟨w.heap.size, 4, none⟩) := hpv 3 l3
                    have s3 : a.tmps[51]?.getD undef = vs 3 := hU.slot 3 (by decide) l3
                    rw [hv3] at s3
                    have y0 := (hk.cell (b := w.heap.size) (o := 4) (by omega) (fun h => h)).trans (k_r4)
                    refine wpOp_value (v := .slice (some ⟨bc, oc, none⟩) f.claims.length fa.c5) (W' := W) rfl rfl ?_ (hK _ _ (LKeep.refl _ _ _) rfl)
                    go_simp
                  | 5, hi, hm =>
                    have z11 : a.tmps[11]?.getD undef = .int .i64 (ci : Nat) := hU.same 11 (by decide)
                    refine wpOp_value (v := .int .i64 (ci : Nat)) (W' := W) rfl rfl ?_ (hK _ _ (LKeep.refl _ _ _) rfl)
                    go_simp
                  | 6, hi, hm =>
                    have l4 := haft _ rfl { on := 4, ground := .data } (by simp) rfl
                    have hv4 : vs 4 = .slice (some ⟨bc, oc, none⟩) f.claims.length fa.c5 := hpv 4 l4
                    have s4 : a.tmps[52]?.getD undef = vs 4 := hU.slot 4 (by decide) l4
                    rw [hv4] at s4
                    have l5 := haft _ rfl { on := 5, ground := .data } (by simp) rfl
                    have hv5 : vs 5 = .int .i64 (ci : Nat) := hpv 5 l5
                    have s5 : a.tmps[53]?.getD undef = vs 5 := hU.slot 5 (by decide) l5
                    rw [hv5] at s5
                    refine wpOp_value (v := .pointer (some ⟨bc, oc + ci * 3, none⟩)) (W' := W) rfl rfl ?_ (hK _ _ (LKeep.refl _ _ _) rfl)
                    go_simp
                  | 7, hi, hm =>
                    have l6 := haft _ rfl { on := 6, ground := .data } (by simp) rfl
                    have hv6 : vs 6 = .pointer (some ⟨bc, oc + ci * 3, none⟩) := hpv 6 l6
                    have s6 : a.tmps[54]?.getD undef = vs 6 := hU.slot 6 (by decide) l6
                    rw [hv6] at s6
                    refine wpOp_value (v := .pointer (some ⟨bc, oc + ci * 3, none⟩)) (W' := W) rfl rfl ?_ (hK _ _ (LKeep.refl _ _ _) rfl)
                    go_simp
                  | 8, hi, hm =>
                    have l7 := haft _ rfl { on := 7, ground := .data } (by simp) rfl
                    have hv7 : vs 7 = .pointer (some ⟨bc, oc + ci * 3, none⟩) := hpv 7 l7
                    have s7 : a.tmps[55]?.getD undef = vs 7 := hU.slot 7 (by decide) l7
                    rw [hv7] at s7
                    have y0 := (hk.cell (b := bc) (o := oc + ci * 3) (by omega) (fun h => h)).trans (k_g0)
                    refine wpOp_value (v := .int .i64 (lk : Nat)) (W' := W) rfl rfl ?_ (hK _ _ (LKeep.refl _ _ _) rfl)
                    go_simp
                  | 9, hi, hm =>
                    have l2 := haft _ rfl { on := 2, ground := .data } (by simp) rfl
                    have hv2 : vs 2 = .slice (some ⟨bl, ol, none⟩) f.lots.length fa.c3 := hpv 2 l2
                    have s2 : a.tmps[50]?.getD undef = vs 2 := hU.slot 2 (by decide) l2
                    rw [hv2] at s2
                    have l8 := haft _ rfl { on := 8, ground := .data } (by simp) rfl
                    have hv8 : vs 8 = .int .i64 (lk : Nat) := hpv 8 l8
                    have s8 : a.tmps[56]?.getD undef = vs 8 := hU.slot 8 (by decide) l8
                    rw [hv8] at s8
                    refine wpOp_value (v := .pointer (some ⟨bl, ol + lk * 4, none⟩)) (W' := W) rfl rfl ?_ (hK _ _ (LKeep.refl _ _ _) rfl)
                    go_simp
                  | 10, hi, hm =>
                    have l9 := haft _ rfl { on := 9, ground := .data } (by simp) rfl
                    have hv9 : vs 9 = .pointer (some ⟨bl, ol + lk * 4, none⟩) := hpv 9 l9
                    have s9 : a.tmps[57]?.getD undef = vs 9 := hU.slot 9 (by decide) l9
                    rw [hv9] at s9
                    refine wpOp_value (v := .pointer (some ⟨bl, ol + lk * 4 + 3, none⟩)) (W' := W) rfl rfl ?_ (hK _ _ (LKeep.refl _ _ _) rfl)
                    go_simp
                  | 11, hi, hm =>
                    have l10 := haft _ rfl { on := 10, ground := .data } (by simp) rfl
                    have hv10 : vs 10 = .pointer (some ⟨bl, ol + lk * 4 + 3, none⟩) := hpv 10 l10
                    have s10 : a.tmps[58]?.getD undef = vs 10 := hU.slot 10 (by decide) l10
                    rw [hv10] at s10
                    have y0 := (hk.cell (b := bl) (o := ol + lk * 4 + 3) (by omega) (fun h => h)).trans (k_g3)
                    refine wpOp_value (v := .int .i64 wo) (W' := W) rfl rfl ?_ (hK _ _ (LKeep.refl _ _ _) rfl)
                    go_simp
                  | 12, hi, hm =>
                    have l0 := haft _ rfl { on := 0, ground := .data } (by simp) rfl
                    have hv0 : vs 0 = .int .i64 D := hpv 0 l0
                    have s0 : a.tmps[48]?.getD undef = vs 0 := hU.slot 0 (by decide) l0
                    rw [hv0] at s0
                    have l11 := haft _ rfl { on := 11, ground := .data } (by simp) rfl
                    have hv11 : vs 11 = .int .i64 wo := hpv 11 l11
                    have s11 : a.tmps[59]?.getD undef = vs 11 := hU.slot 11 (by decide) l11
                    rw [hv11] at s11
                    refine wpOp_value (v := .int .i64 (D + wo)) (W' := W) rfl rfl ?_ (hK _ _ (LKeep.refl _ _ _) rfl)
                    go_simp
                    exact IntWalk.i64_in _ (by omega)
                  | i + 13, hi, hm => exact absurd (of_decide_eq_true hm) (by omega)
                case hendD =>
                  intro listed vs a W hG hk0 hpv hpre
                  have hkk := (LKeep.drew (fun _ => False) (M := fun _ => True) wx (fun h => h)).trans hk0
                  have hk := hkk.1
                  have hkm := hkk.2
                  clear hkk
                  have hact := hG.act
                  have hT := hG.lst hpre 0 #[true, true, true, true, true, true, true, true, true, true, true, true, true, false] rfl (by kernel_rfl) (hpre 0 (by decide) (by decide))
                  rw [hG.ix hT (l := [0, 1, 2, 3, 4, 5, 6, 7, 8, 9, 10, 11, 12]) (by kernel_rfl)] at hact
                  rw [hG.lo hT (k := 1) (by kernel_rfl)]
                  have hv0 : vs 0 = .int .i64 D := hpv 0 (hpre 0 (by decide) (by decide))
                  have hv1 : vs 1 = .pointer (some ⟨w.heap.size, 2, none⟩) := hpv 1 (hpre 1 (by decide) (by decide))
                  have hv2 : vs 2 = .slice (some ⟨bl, ol, none⟩) f.lots.length fa.c3 := hpv 2 (hpre 2 (by decide) (by decide))
                  have hv3 : vs 3 = .pointer (some ⟨w.heap.size, 4, none⟩) := hpv 3 (hpre 3 (by decide) (by decide))
                  have hv4 : vs 4 = .slice (some ⟨bc, oc, none⟩) f.claims.length fa.c5 := hpv 4 (hpre 4 (by decide) (by decide))
                  have hv5 : vs 5 = .int .i64 (ci : Nat) := hpv 5 (hpre 5 (by decide) (by decide))
                  have hv6 : vs 6 = .pointer (some ⟨bc, oc + ci * 3, none⟩) := hpv 6 (hpre 6 (by decide) (by decide))
                  have hv7 : vs 7 = .pointer (some ⟨bc, oc + ci * 3, none⟩) := hpv 7 (hpre 7 (by decide) (by decide))
                  have hv8 : vs 8 = .int .i64 (lk : Nat) := hpv 8 (hpre 8 (by decide) (by decide))
                  have hv9 : vs 9 = .pointer (some ⟨bl, ol + lk * 4, none⟩) := hpv 9 (hpre 9 (by decide) (by decide))
                  have hv10 : vs 10 = .pointer (some ⟨bl, ol + lk * 4 + 3, none⟩) := hpv 10 (hpre 10 (by decide) (by decide))
                  have hv11 : vs 11 = .int .i64 wo := hpv 11 (hpre 11 (by decide) (by decide))
                  have hv12 : vs 12 = .int .i64 (D + wo) := hpv 12 (hpre 12 (by decide) (by decide))
                  clear hpv hpre hG hk0
                  obtain rfl : a = _ := hact
                  subst hT
                  simp only [setAll, List.setIfInBounds_toArray, List.set_cons_succ, List.set_cons_zero, List.getD_cons_succ, List.getD_cons_zero]
                  simp only [hv0, hv1, hv2, hv3, hv4, hv5, hv6, hv7, hv8, hv9, hv10, hv11, hv12]
                  clear hv0 hv1 hv2 hv3 hv4 hv5 hv6 hv7 hv8 hv9 hv10 hv11 hv12
                  refine wpAny_all (rs := [13]) (by kernel_rfl) (by simp) ?_
                  intro i2 hi2
                  obtain rfl : i2 = 13 := by simpa using hi2
                  refine wpOp_value (v := .int .i64 (D + wo)) (W' := W) rfl rfl ?_ ?_
                  · go_simp
                  try simp only [Act.put, List.setIfInBounds_toArray, List.set_cons_zero, List.set_cons_succ]
                  refine wpAny_done (by kernel_rfl) ?_ _
                  have hbz := hk.below (B := wx.heap.size) (fun k h => h.elim) (Nat.le_refl _)
                  have HBY := hide (HBZ.out.trans (hbz.mono HBZ.out.size))
                  clear hk hkm hbz
                  gi_wp2_with fail
                  exact ⟨⟨m + 1, by omega, by go_num, by rw [HTK.out, HDI.out, HAG.out]; simp, HBY.out⟩, by simp [intOf]; omega⟩
            | false =>
              have HAG := hide hag
              refine wpIn_round_rel (dst := fun i => [40, 41, 42, 43, 44, 45, 46, 47].getD i 0) (mono := fun i => decide (i < 8)) (pre := fun i => decide (i < 8)) (R := LKeep (fun _ => False) (fun _ => True))
                (Pv := fun i v W => match i with
                  | 0 => v = .pointer (some ⟨w.heap.size, 4, none⟩)
                  | 1 => v = .slice (some ⟨bc, oc, none⟩) f.claims.length fa.c5
                  | 2 => v = .int .i64 (ci : Nat)
                  | 3 => v = .pointer (some ⟨bc, oc + ci * 3, none⟩)
                  | 4 => v = .pointer (some ⟨bc, oc + ci * 3 + 1, none⟩)
                  | 5 => v = .int .i64 ag
                  | 6 => v = .int .i64 party
                  | 7 => v = .bool false
                  | _ => True) (by kernel_rfl) (by kernel_rfl) (by rintro ⟨a, w, h⟩; exact h) (by kernel_rfl) (LKeep.refl _ _) (fun _ _ _ h h' => h.trans h') ?hstCf ?hstepCf ?hendCf
              case hstCf =>
                intro i v W W' h hk
                match i, h with
                | 0, h => exact h
                | 1, h => exact h
                | 2, h => exact h
                | 3, h => exact h
                | 4, h => exact h
                | 5, h => exact h
                | 6, h => exact h
                | 7, h => exact h
                | i + 8, h => exact trivial
              case hstepCf =>
                intro i hi hm listed vs a W hU hk0 hpv haft K hK
                have hkk := (LKeep.drew (fun _ => False) (M := fun _ => True) wr (fun h => h)).trans hk0
                have hk := hkk.1
                have hkm := hkk.2
                clear hkk
                match i, hi, hm with
                | 0, hi, hm =>
                  have z2 : a.tmps[2]?.getD undef = .pointer (some ⟨w.heap.size, 0, none⟩) := hU.same 2 (by decide)
                  refine wpOp_value (v := .pointer (some ⟨w.heap.size, 4, none⟩)) (W' := W) rfl rfl ?_ (hK _ _ (LKeep.refl _ _ _) rfl)
                  go_simp
                | 1, hi, hm =>
                  have l0 := haft _ rfl { on := 0, ground := .data } (by simp) rfl
                  have hv0 : vs 0 = .pointer (some ⟨w.heap.size, 4, none⟩) := hpv 0 l0
                  have s0 : a.tmps[40]?.getD undef = vs 0 := hU.slot 0 (by decide) l0
                  rw [hv0] at s0
                  have y0 := (hk.cell (b := w.heap.size) (o := 4) (by omega) (fun h => h)).trans (r4)
                  refine wpOp_value (v := .slice (some ⟨bc, oc, none⟩) f.claims.length fa.c5) (W' := W) rfl rfl ?_ (hK _ _ (LKeep.refl _ _ _) rfl)
                  go_simp
                | 2, hi, hm =>
                  have z11 : a.tmps[11]?.getD undef = .int .i64 (ci : Nat) := hU.same 11 (by decide)
                  refine wpOp_value (v := .int .i64 (ci : Nat)) (W' := W) rfl rfl ?_ (hK _ _ (LKeep.refl _ _ _) rfl)
                  go_simp
                | 3, hi, hm =>
                  have l1 := haft _ rfl { on := 1, ground := .data } (by simp) rfl
                  have hv1 : vs 1 = .slice (some ⟨bc, oc, none⟩) f.claims.length fa.c5 := hpv 1 l1
                  have s1 : a.tmps[41]?.getD undef = vs 1 := hU.slot 1 (by decide) l1
                  rw [hv1] at s1
                  have l2 := haft _ rfl { on := 2, ground := .data } (by simp) rfl
                  have hv2 : vs 2 = .int .i64 (ci : Nat) := hpv 2 l2
                  have s2 : a.tmps[42]?.getD undef = vs 2 := hU.slot 2 (by decide) l2
                  rw [hv2] at s2
                  refine wpOp_value (v := .pointer (some ⟨bc, oc + ci * 3, none⟩)) (W' := W) rfl rfl ?_ (hK _ _ (LKeep.refl _ _ _) rfl)
                  go_simp
                | 4, hi, hm =>
                  have l3 := haft _ rfl { on := 3, ground := .data } (by simp) rfl
                  have hv3 : vs 3 = .pointer (some ⟨bc, oc + ci * 3, none⟩) := hpv 3 l3
                  have s3 : a.tmps[43]?.getD undef = vs 3 := hU.slot 3 (by decide) l3
                  rw [hv3] at s3
                  refine wpOp_value (v := .pointer (some ⟨bc, oc + ci * 3 + 1, none⟩)) (W' := W) rfl rfl ?_ (hK _ _ (LKeep.refl _ _ _) rfl)
                  go_simp
                | 5, hi, hm =>
                  have l4 := haft _ rfl { on := 4, ground := .data } (by simp) rfl
                  have hv4 : vs 4 = .pointer (some ⟨bc, oc + ci * 3 + 1, none⟩) := hpv 4 l4
                  have s4 : a.tmps[44]?.getD undef = vs 4 := hU.slot 4 (by decide) l4
                  rw [hv4] at s4
                  have y0 := (hk.cell (b := bc) (o := oc + ci * 3 + 1) (by omega) (fun h => h)).trans (g1)
                  refine wpOp_value (v := .int .i64 ag) (W' := W) rfl rfl ?_ (hK _ _ (LKeep.refl _ _ _) rfl)
                  go_simp
                | 6, hi, hm =>
                  have z3 : a.tmps[3]?.getD undef = .pointer (some ⟨w.heap.size + 1, 0, none⟩) := hU.same 3 (by decide)
                  have y0 := (hk.cell (b := w.heap.size + 1) (o := 0) (by omega) (fun h => h)).trans (rp)
                  refine wpOp_value (v := .int .i64 party) (W' := W) rfl rfl ?_ (hK _ _ (LKeep.refl _ _ _) rfl)
                  go_simp
                | 7, hi, hm =>
                  have l5 := haft _ rfl { on := 5, ground := .data } (by simp) rfl
                  have hv5 : vs 5 = .int .i64 ag := hpv 5 l5
                  have s5 : a.tmps[45]?.getD undef = vs 5 := hU.slot 5 (by decide) l5
                  rw [hv5] at s5
                  have l6 := haft _ rfl { on := 6, ground := .data } (by simp) rfl
                  have hv6 : vs 6 = .int .i64 party := hpv 6 l6
                  have s6 : a.tmps[46]?.getD undef = vs 6 := hU.slot 6 (by decide) l6
                  rw [hv6] at s6
                  refine wpOp_value (v := .bool false) (W' := W) rfl rfl ?_ (hK _ _ (LKeep.refl _ _ _) rfl)
                  go_simp
                | i + 8, hi, hm => exact absurd (of_decide_eq_true hm) (by omega)
              case hendCf =>
                intro listed vs a W hG hk0 hpv hpre
                have hkk := (LKeep.drew (fun _ => False) (M := fun _ => True) wr (fun h => h)).trans hk0
                have hk := hkk.1
                have hkm := hkk.2
                clear hkk
                have hact := hG.act
                have hT := hG.lst hpre 0 #[true, true, true, true, true, true, true, true] rfl (by kernel_rfl) (hpre 0 (by decide) (by decide))
                rw [hG.ix hT (l := [0, 1, 2, 3, 4, 5, 6, 7]) (by kernel_rfl)] at hact
                rw [hG.lo hT (k := 0) (by kernel_rfl)]
                have hv0 : vs 0 = .pointer (some ⟨w.heap.size, 4, none⟩) := hpv 0 (hpre 0 (by decide) (by decide))
                have hv1 : vs 1 = .slice (some ⟨bc, oc, none⟩) f.claims.length fa.c5 := hpv 1 (hpre 1 (by decide) (by decide))
                have hv2 : vs 2 = .int .i64 (ci : Nat) := hpv 2 (hpre 2 (by decide) (by decide))
                have hv3 : vs 3 = .pointer (some ⟨bc, oc + ci * 3, none⟩) := hpv 3 (hpre 3 (by decide) (by decide))
                have hv4 : vs 4 = .pointer (some ⟨bc, oc + ci * 3 + 1, none⟩) := hpv 4 (hpre 4 (by decide) (by decide))
                have hv5 : vs 5 = .int .i64 ag := hpv 5 (hpre 5 (by decide) (by decide))
                have hv6 : vs 6 = .int .i64 party := hpv 6 (hpre 6 (by decide) (by decide))
                have hv7 : vs 7 = .bool false := hpv 7 (hpre 7 (by decide) (by decide))
                clear hpv hpre hG hk0
                obtain rfl : a = _ := hact
                subst hT
                simp only [setAll, List.setIfInBounds_toArray, List.set_cons_succ, List.set_cons_zero, List.getD_cons_succ, List.getD_cons_zero]
                simp only [hv0, hv1, hv2, hv3, hv4, hv5, hv6, hv7]
                clear hv0 hv1 hv2 hv3 hv4 hv5 hv6 hv7
                refine wpAny_done (by kernel_rfl) ?_ _
                have k_r4 := (hk.cell (b := w.heap.size) (o := 4) (by omega) (fun h => h)).trans r4
                have k_r2 := (hk.cell (b := w.heap.size) (o := 2) (by omega) (fun h => h)).trans r2
                have k_g0 := (hk.cell (b := bc) (o := oc + ci * 3) (by omega) (fun h => h)).trans g0
                have k_g3 := (hk.cell (b := bl) (o := ol + lk * 4 + 3) (by omega) (fun h => h)).trans g3
                have hzk := hk.size
                have hbz := hk.below (B := wr.heap.size) (fun k h => h.elim) (Nat.le_refl _)
                have HBZ := hide (HB.out.trans (hbz.mono HB.out.size))
                clear hk hkm hbz
                gi_wp2_with fail
                exact ⟨⟨m + 1, by omega, by go_num, by rw [HTK.out, HDI.out, HAG.out]; simp, HBZ.out⟩, by simp [intOf]; omega⟩
          · obtain rfl : m = Lx.length := by omega
            have hds := HDS.out
            rw [List.take_length, hds]
            clear hds HDS
            have hBm := HWK.out.trans (Keep.of_below' hB (fun k => k = bm))
            have b3 := HI3.out.keep hBm (by omega)
            have b5 := HI5.out.keep hBm (by omega)
            have r5 := b5.at_ 0
            have s0 := b3.at_ 0
            have s1 := b3.at_ 1
            have f5 := b5.free 0
            have f0 := b3.free 0
            have f1 := b3.free 1
            simp only [List.getElem?_toArray, List.getElem?_cons_zero, List.getElem?_cons_succ] at r5 s0 s1
            have hz5' := b5.lt
            have hz3' := b3.lt
            have B3 := hide b3
            have B5 := hide b5
            have HSN := hide (oweS_snoc f party pre x)
            have HP0 := hide (show oweP f party pre = (oweS f party pre).getD ⟨0, 0⟩ from rfl)
            have HBM := hide hBm
            have HNR := hide (HLV.out.still hB).k
            clear r4 r2 rp hB b3 b5 hBm
            cases hos : oweS f party pre with
            | none =>
              rw [HP0.out, hos] at s0 s1
              rw [hos] at r5
              simp only [Option.getD_none, Option.isNone_none] at s0 s1 r5
              have HSM := hide (show oweS f party (pre ++ [x]) = some ⟨sumM f x party, sumM f x party⟩ by rw [HSN.out, hos]; rfl)
              clear hos HP0 HSN
              generalize sumM f x party = sx at *
              gi_wp2_with fail
              have hks : Keep (fun k => k = w1.heap.size + 1 ∨ k = w.heap.size + 1 + 1) wr (((((wr.setCell ⟨w.heap.size + 1 + 1, 0, none⟩ (.int .i64 sx)).setCell ⟨w.heap.size + 1 + 1, 1, none⟩ (.int .i64 sx)).setCell ⟨w1.heap.size + 1, 0, none⟩ (.bool false)).setCell ⟨w.heap.size + 1 + 1, 0, none⟩ (.int .i64 sx)).setCell ⟨w.heap.size + 1 + 1, 1, none⟩ (.int .i64 sx)) := ((((Keep.setCell _ _ _ _ (.inr rfl)).trans (Keep.setCell _ _ _ _ (.inr rfl))).trans (Keep.setCell _ _ _ _ (.inl rfl))).trans (Keep.setCell _ _ _ _ (.inr rfl))).trans (Keep.setCell _ _ _ _ (.inr rfl))
              have c3 := ((((B3.out.store 0 (.int .i64 sx)).store 1 (.int .i64 sx)).else_ (p := ⟨w1.heap.size + 1, 0, none⟩) (by show w.heap.size + 1 + 1 ≠ w1.heap.size + 1; omega) (.bool false)).store 0 (.int .i64 sx)).store 1 (.int .i64 sx)
              have c5 := ((((B5.out.else_ (p := ⟨w.heap.size + 1 + 1, 0, none⟩) (by show w1.heap.size + 1 ≠ w.heap.size + 1 + 1; omega) (.int .i64 sx)).else_ (p := ⟨w.heap.size + 1 + 1, 1, none⟩) (by show w1.heap.size + 1 ≠ w.heap.size + 1 + 1; omega) (.int .i64 sx)).store 0 (.bool false)).else_ (p := ⟨w.heap.size + 1 + 1, 0, none⟩) (by show w1.heap.size + 1 ≠ w.heap.size + 1 + 1; omega) (.int .i64 sx)).else_ (p := ⟨w.heap.size + 1 + 1, 1, none⟩) (by show w1.heap.size + 1 ≠ w.heap.size + 1 + 1; omega) (.int .i64 sx)
              exact ⟨(HBM.out.mono (fun k _ h => .inl h)).trans (hks.mono (fun k _ h => .inr h)), HNR.out.keep hks (by omega), (HI1.out.keep HBM.out (by omega)).keep hks (by omega), (HI2.out.keep HBM.out (by omega)).keep hks (by omega), by rw [oweP, HSM.out]; exact c3, (HI4.out.keep HBM.out (by omega)).keep hks (by omega), by rw [HSM.out]; exact c5⟩
            | some s =>
              rw [HP0.out, hos] at s0 s1
              rw [hos] at r5
              simp only [Option.getD_some, Option.isNone_some] at s0 s1 r5
              have HOS := hide hos
              have HSM := hide (show oweS f party (pre ++ [x]) = some ⟨min s.lo (sumM f x party), max s.hi (sumM f x party)⟩ by rw [HSN.out, hos]; rfl)
              clear hos HP0 HSN
              generalize sumM f x party = sx at *
              gi_wp2_with fail
              have hks : Keep (fun k => k = w1.heap.size + 1 ∨ k = w.heap.size + 1 + 1) wr ((wr.setCell ⟨w.heap.size + 1 + 1, 0, none⟩ (.int .i64 (min s.lo sx))).setCell ⟨w.heap.size + 1 + 1, 1, none⟩ (.int .i64 (max s.hi sx))) := (Keep.setCell _ _ _ _ (.inr rfl)).trans (Keep.setCell _ _ _ _ (.inr rfl))
              have c3 := (B3.out.store 0 (.int .i64 (min s.lo sx))).store 1 (.int .i64 (max s.hi sx))
              have c5 := (B5.out.else_ (p := ⟨w.heap.size + 1 + 1, 0, none⟩) (by show w1.heap.size + 1 ≠ w.heap.size + 1 + 1; omega) (.int .i64 (min s.lo sx))).else_ (p := ⟨w.heap.size + 1 + 1, 1, none⟩) (by show w1.heap.size + 1 ≠ w.heap.size + 1 + 1; omega) (.int .i64 (max s.hi sx))
              rw [HOS.out] at c5
              exact ⟨(HBM.out.mono (fun k _ h => .inl h)).trans (hks.mono (fun k _ h => .inr h)), HNR.out.keep hks (by omega), (HI1.out.keep HBM.out (by omega)).keep hks (by omega), (HI2.out.keep HBM.out (by omega)).keep hks (by omega), by rw [oweP, HSM.out]; exact c3, (HI4.out.keep HBM.out (by omega)).keep hks (by omega), by rw [HSM.out]; exact c5⟩
    case done =>
      rintro D W' hD ⟨i1, i2, i3, i4, i5⟩ hLW hk hd
      have HMS : Hid (MarksOk w.heap.size [{ target := .collected D, args := #[] }] W') := ⟨⟨D, by have := HB3.out.size; omega, rfl, hd, by simp⟩, trivial⟩
      have HBW := hide (HB3.out.trans (hk.below (fun k h => by omega) HB3.out.size))
      have s0 := i3.at_ 0
      have s1 := i3.at_ 1
      have f0 := i3.free 0
      have f1 := i3.free 1
      simp only [List.getElem?_toArray, List.getElem?_cons_zero, List.getElem?_cons_succ] at s0 s1
      have hzs := i3.lt
      have I3 := hide i3
      generalize oweP f party (truthsB f 0) = sp at *
      clear i1 i2 i3 i4 i5 hLW hk hd
      go_wp2_with fail
      have hks : Keep (fun k => k = w.heap.size + 1 + 1) W' ((W'.setCell ⟨w.heap.size + 1 + 1, 0, none⟩ (.int .i64 sp.lo)).setCell ⟨w.heap.size + 1 + 1, 1, none⟩ (.int .i64 sp.hi)) := (Keep.setCell _ _ _ (fun k => k = w.heap.size + 1 + 1) rfl).trans (Keep.setCell _ _ _ (fun k => k = w.heap.size + 1 + 1) rfl)
      have c3 := (I3.out.store 0 (.int .i64 sp.lo)).store 1 (.int .i64 sp.hi)
      have hms := MarksOk.keepO hks (fun k hk => by rw [hk]; exact I3.out.not_mark) HMS.out
      generalize (W'.setCell ⟨w.heap.size + 1 + 1, 0, none⟩ (.int .i64 sp.lo)).setCell ⟨w.heap.size + 1 + 1, 1, none⟩ (.int .i64 sp.hi) = wz at *
      refine leaves_marks2 hms (fun w' hkw' => ?_)
      have r0 := marks_cell hms hkw' (c3.at_ 0)
      have r1 := marks_cell hms hkw' (c3.at_ 1)
      refine ⟨.tuple #[.agg #[.int .i64 sp.lo, .int .i64 sp.hi], .int .i64 0], by simp [results, Try.results18, go_sem, r0, r1], by rw [HX.out], ?_⟩
      exact (HBW.out.trans (hks.below (fun k h => by omega) HBW.out.size)).trans (hkw'.below (fun k h => hms.ge h) (by have := HBW.out.size; have := hks.size; omega))
  · have HX := hide (show owesV f party = (⟨0, 0⟩, enterE f party f.parties.length 0) by rw [owesV, if_neg hE])
    generalize hEE : enterE f party f.parties.length 0 = E at *
    have hnb : (E != 0) = true := by simpa using hE
    have HB1 := hide (HB0.out.trans (hB1.mono HB0.out.size))
    have q3 := HQ3.out.next hB1
    have g0 := q3.free 0
    have g1 := q3.free 1
    have r0 := q3.at_ 0
    have r1 := q3.at_ 1
    simp only [List.getElem?_toArray, List.getElem?_cons_zero, List.getElem?_cons_succ] at r0 r1
    have hz1 := q3.lt
    clear hEE hE hB1
    go_wp2_with fail
    have hks : Keep (fun k => k = w.heap.size + 1 + 1) w1 ((w1.setCell ⟨w.heap.size + 1 + 1, 0, none⟩ (.int .i64 0)).setCell ⟨w.heap.size + 1 + 1, 1, none⟩ (.int .i64 0)) := (Keep.setCell _ _ _ (fun k => k = w.heap.size + 1 + 1) rfl).trans (Keep.setCell _ _ _ (fun k => k = w.heap.size + 1 + 1) rfl)
    have c3 := ((q3.store 0 (.int .i64 0)).store 1 (.int .i64 0)).alloc (.cells #[.pointer none] 79)
    have hbe := (HB1.out.trans (hks.below (fun k h => by omega) HB1.out.size)).alloc (by have := HB1.out.size; have := hks.size; omega) (.cells #[.pointer none] 79)
    generalize ((w1.setCell ⟨w.heap.size + 1 + 1, 0, none⟩ (.int .i64 0)).setCell ⟨w.heap.size + 1 + 1, 1, none⟩ (.int .i64 0)).alloc (.cells #[.pointer none] 79) = wz at *
    have hms : MarksOk 0 [] wz := trivial
    refine leaves_marks2 hms (fun w' hkw' => ?_)
    have r0 := marks_cell hms hkw' (c3.at_ 0)
    have r1 := marks_cell hms hkw' (c3.at_ 1)
    refine ⟨.tuple #[.agg #[.int .i64 0, .int .i64 0], .int .i64 E], by simp [results, Try.results18, go_sem, r0, r1], by rw [HX.out], ?_⟩
    exact hbe.trans (hkw'.below (fun k h => by simp at h) hbe.size)
end Go.Proofs.Ytllmahcanipcpaa
