/- chain's iterator of truths: all truths come in turn. -/
import Derived.Test.YtkaahiddngmdbaaGreatDoorDH
import Derived.WalkMore
set_option linter.unusedVariables false
set_option linter.unusedSimpArgs false
namespace Go.Proofs.YtkaahiddngmdbaaGreatDoor
open Go.RowKit
attribute [local go_sem ↓] Go.wp_at_zero Go.wp_at_succ

theorem OwnE.base {e : TypeId} {w : World} {base base' g n : Nat} {xs : List Int} (h : OwnE e w base g n xs) (hb : base' ≤ base) : OwnE e w base' g n xs := own_base h hb
theorem OwnE.made4 (w : World) (e : TypeId) (a b c d : Int) : OwnE e (w.alloc (.cells #[iv a, iv b, iv c, iv d] e)) w.heap.size w.heap.size 4 [a, b, c, d] :=
 World.ownsRow_lit w #[iv a, iv b, iv c, iv d] 4 (Nat.le_refl _) (by simp [maxLen]) rfl
theorem plOk4 {a b c d : Int} (ha : wfI a) (hb : wfI b) (hc : wfI c) (hd : wfI d) : PlOk [a, b, c, d] := ⟨rfl, fun i => by
 match i with
 | 0 => exact ha
 | 1 => exact hb
 | 2 => exact hc
 | 3 => exact hd
 | i + 4 => exact (wfI_iff _).2 (by show _ ≤ (0 : Int) ∧ (0 : Int) ≤ _; decide)⟩
theorem nthz (k : Nat) : nth [(0 : Int), 0, 0, 0] k = 0 := by
 match k with
 | 0 | 1 | 2 | 3 => rfl
 | i + 4 => rfl
set_option maxHeartbeats 4000000 in
set_option maxRecDepth 100000 in
theorem truths1_any {C : Nat → Prop} {W : World} {L b bm p1 l : Nat} {f : Board} {a : BrdA} {I Ix : List (List Int) → World → Prop}
 (hv : ValidB f) (hC : ∀ k, C k → (L ≤ k ∧ k ≠ b) ∧ k < W.heap.size ∧ k ≠ p1)
 (hI : ∀ pre V1 V', I pre V1 → Keep (fun k => k = bm ∨ W.heap.size ≤ k) V1 V' → Cache V' bm (waysV f) → I pre V')
 (hY : ∀ pre x W1, x ∈ truthsL f → I pre W1 → LookH W1 L b bm f a → YieldAt Fence.wide 0 Tryz.prog l #[plVal x] W1 fun e W' =>
  Keep C W1 W' ∧ Cache W' bm (waysV f) ∧ ((e = .returned (.bool true) ∧ I (pre ++ [x]) W') ∨ (e = .returned (.bool false) ∧ Ix (pre ++ [x]) W')))
 (h : LookH W L b bm f a) (e1 : W.cell? ⟨p1, 0, none⟩ = some (.pointer (some ⟨b, 0, none⟩))) (h0 : I [] W) :
 Calls Tryz.prog 300 #[.func (.yield l) #[] #[], .pointer (some ⟨p1, 0, none⟩)] W
  (fun e W' => (∃ v, e = .returned v) ∧ Cache W' bm (waysV f) ∧ Keep (fun k => k = bm ∨ C k) W W' ∧ (I (truthsL f) W' ∨ ∃ q, q ≠ [] ∧ q <+: truthsL f ∧ Ix q W')) := by
 have z1 := cell_lt e1
 have HH := hide h
 have HV := hide hv
 have H0 := hide h0
 have HY := hide hY
 have HI := hide hI
 have HC := hide hC
 clear h hv h0 hY hI hC
 go_enter Tryz.func300, Tryz.ntmps300
 go_upto_region 5 with (fail)
 have s1 : (W.alloc (.cells #[.func (.yield l) #[] #[]] 434)).heap.size = W.heap.size + 1 := by simp
 have b1 : Below W.heap.size W (W.alloc (.cells #[.func (.yield l) #[] #[]] 434)) := (Below.refl _ _).alloc (Nat.le_refl _) _
 have k1 : Blk (W.alloc (.cells #[.func (.yield l) #[] #[]] 434)) W.heap.size 434 #[.func (.yield l) #[] #[]] := Blk.made
 generalize W.alloc (.cells #[.func (.yield l) #[] #[]] 434) = W1 at *
 have s2 : (W1.alloc (.cells #[.int .i64 0, .int .i64 0, .int .i64 0, .int .i64 0] 236)).heap.size = W1.heap.size + 1 := by simp
 have b2 : Below W1.heap.size W1 (W1.alloc (.cells #[.int .i64 0, .int .i64 0, .int .i64 0, .int .i64 0] 236)) := (Below.refl _ _).alloc (Nat.le_refl _) _
 have k2 : OwnE 236 (W1.alloc (.cells #[.int .i64 0, .int .i64 0, .int .i64 0, .int .i64 0] 236)) W1.heap.size W1.heap.size 4 [0, 0, 0, 0] := OwnE.made4 W1 236 0 0 0 0
 generalize W1.alloc (.cells #[.int .i64 0, .int .i64 0, .int .i64 0, .int .i64 0] 236) = W2 at *
 have s3 : (W2.alloc (.cells #[.int .i64 (-1), .int .i64 0, .int .i64 0, .int .i64 0] 236)).heap.size = W2.heap.size + 1 := by simp
 have b3 : Below W2.heap.size W2 (W2.alloc (.cells #[.int .i64 (-1), .int .i64 0, .int .i64 0, .int .i64 0] 236)) := (Below.refl _ _).alloc (Nat.le_refl _) _
 have k3 : OwnE 236 (W2.alloc (.cells #[.int .i64 (-1), .int .i64 0, .int .i64 0, .int .i64 0] 236)) W2.heap.size W2.heap.size 4 [-1, 0, 0, 0] := OwnE.made4 W2 236 (-1) 0 0 0
 generalize W2.alloc (.cells #[.int .i64 (-1), .int .i64 0, .int .i64 0, .int .i64 0] 236) = W3 at *
 have s4 : (W3.alloc (.cells #[.func (.func 301) #[] #[.pointer (some ⟨p1, 0, none⟩), .pointer (some ⟨W.heap.size + 1, 0, none⟩), .pointer (some ⟨W.heap.size + 1 + 1, 0, none⟩), .pointer (some ⟨W.heap.size, 0, none⟩), .pointer (some ⟨W.heap.size + 1 + 1 + 1, 0, none⟩)]] 224)).heap.size = W3.heap.size + 1 := by simp
 have b4 : Below W3.heap.size W3 (W3.alloc (.cells #[.func (.func 301) #[] #[.pointer (some ⟨p1, 0, none⟩), .pointer (some ⟨W.heap.size + 1, 0, none⟩), .pointer (some ⟨W.heap.size + 1 + 1, 0, none⟩), .pointer (some ⟨W.heap.size, 0, none⟩), .pointer (some ⟨W.heap.size + 1 + 1 + 1, 0, none⟩)]] 224)) := (Below.refl _ _).alloc (Nat.le_refl _) _
 have k4 : Blk (W3.alloc (.cells #[.func (.func 301) #[] #[.pointer (some ⟨p1, 0, none⟩), .pointer (some ⟨W.heap.size + 1, 0, none⟩), .pointer (some ⟨W.heap.size + 1 + 1, 0, none⟩), .pointer (some ⟨W.heap.size, 0, none⟩), .pointer (some ⟨W.heap.size + 1 + 1 + 1, 0, none⟩)]] 224)) W3.heap.size 224 #[.func (.func 301) #[] #[.pointer (some ⟨p1, 0, none⟩), .pointer (some ⟨W.heap.size + 1, 0, none⟩), .pointer (some ⟨W.heap.size + 1 + 1, 0, none⟩), .pointer (some ⟨W.heap.size, 0, none⟩), .pointer (some ⟨W.heap.size + 1 + 1 + 1, 0, none⟩)]] := Blk.made
 generalize W3.alloc (.cells #[.func (.func 301) #[] #[.pointer (some ⟨p1, 0, none⟩), .pointer (some ⟨W.heap.size + 1, 0, none⟩), .pointer (some ⟨W.heap.size + 1 + 1, 0, none⟩), .pointer (some ⟨W.heap.size, 0, none⟩), .pointer (some ⟨W.heap.size + 1 + 1 + 1, 0, none⟩)]] 224) = W4 at *
 have hB : Below W.heap.size W W4 := ((b1.trans (b2.mono (by omega))).trans (b3.mono (by omega))).trans (b4.mono (by omega))
 have B25 : Below W1.heap.size W1 W4 := (b2.trans (b3.mono (by omega))).trans (b4.mono (by omega))
 have B35 : Below W2.heap.size W2 W4 := b3.trans (b4.mono (by omega))
 have q0 := (k1.next B25).at_ 0
 have q4 := k4.at_ 0
 simp only [List.getElem?_toArray, List.getElem?_cons_zero] at q0 q4
 have o3 := (k2.below B35 k2.lt.2).base (base' := W.heap.size) (by omega)
 have o4 := (k3.below b4 k3.lt.2).base (base' := W.heap.size) (by omega)
 have e2 : W1.heap.size = W.heap.size + 1 := by omega
 have e3 : W2.heap.size = W.heap.size + 1 + 1 := by omega
 have e4 : W3.heap.size = W.heap.size + 1 + 1 + 1 := by omega
 rw [e2] at o3
 rw [e3] at o4
 rw [e4] at q4
 have zW := hB.size
 have hM : ItM W4 L W.heap.size b bm p1 W.heap.size (W.heap.size + 1 + 1 + 1) (W.heap.size + 1) (W.heap.size + 1 + 1) l f a [0, 0, 0, 0] [-1, 0, 0, 0] :=
  ⟨HH.out.still hB, (hB.cell (p := ⟨p1, 0, none⟩) z1).trans e1, q0, q4, o3, o4⟩
 have hFx : Fix C L W.heap.size b bm p1 W.heap.size (W.heap.size + 1 + 1 + 1) (W.heap.size + 1) (W.heap.size + 1 + 1) :=
  ⟨HH.out.hL, HH.out.k.lt, HH.out.q.lt, HC.out, z1, ⟨by omega, by omega, by omega⟩, ⟨by omega, by omega, by omega⟩, by omega, by omega, by omega⟩
 have h5 := HI.out [] W W4 H0.out (Keep.of_below' hB _) hM.look.k
 have w0 : wfI 0 := (wfI_iff _).2 (by decide)
 have hN := next_any hFx HV.out HI.out HY.out f.hours.length 0 (by omega) [] [0, 0, 0, 0] [-1, 0, 0, 0] [] W4 rfl
  ⟨rfl, rfl, fun k _ => nthz k, fun k => by rw [nthz]; omega, fun k hk => by simp at hk⟩ (plOk4 ((wfI_iff _).2 (by decide)) w0 w0 w0)
  (fun hm => by have := (statesP_ok HV.out hm).1.bd 0; simp [nth] at this) (fun x hx hok => List.mem_filter.2 ⟨hx, hok⟩) hM h5
 rw [show ((0 : Nat) : Int) = 0 from rfl] at hN
 have HN := hide hN
 have HB := hide hB
 clear hN hM hFx h5 B25 B35 b1 b2 b3 b4 k1 k2 k3 k4 o3 o4 q0 hB
 go_wp2_with (go_at_call 301; refine HN.out.mono ?_; rintro e W' (⟨rfl, hI5, hk5, s5, last5, hM5, -, -, -⟩ | ⟨rfl, ⟨q, hq0, hqp, hIx5⟩, hn5, hk5⟩))
 all_goals
  have hK : Keep (fun k => k = bm ∨ C k) W W' := ((Keep.of_below' HB.out (fun k => k = bm ∨ k = W.heap.size + 1 ∨ k = W.heap.size + 1 + 1 ∨ C k)).trans hk5).mono (fun k hk h => by
   rcases h with h | h | h | h
   · exact .inl h
   · omega
   · omega
   · exact .inr h)
 · go_end0
   exact ⟨⟨_, rfl⟩, hM5.look.k, hK, .inl hI5⟩
 · go_end0
   exact ⟨⟨_, rfl⟩, hn5, hK, .inr ⟨q, hq0, hqp, hIx5⟩⟩
theorem truths_iter {C : Nat → Prop} {w : World} {L b bm p1 : Nat} {f : Board} {a : BrdA}
 (hv : ValidB f) (hC : ∀ k, C k → (L ≤ k ∧ k ≠ b) ∧ k < w.heap.size ∧ k ≠ p1)
 (h : LookH w L b bm f a) (e1 : w.cell? ⟨p1, 0, none⟩ = some (.pointer (some ⟨b, 0, none⟩))) :
 IterOk Tryz.prog 300 #[.pointer (some ⟨p1, 0, none⟩)] plVal C (fun k => k = bm) (fun W => Cache W bm (waysV f)) (truthsL f) w := by
 intro l C' J Jx W hB hl hlW hC' hJ hY hM h0
 have z1 := cell_lt e1
 have hsz := hB.size
 refine truths1_any (C := C') hv (fun k hk => ?_) hJ (fun pre x W1 hx hj hl => hY pre x W1 hx hj hl.k) (h.still hB) ((hB.cell (p := ⟨p1, 0, none⟩) z1).trans e1) h0
 rcases hC' k hk with h1 | h1
 · have h2 := hC k h1
   exact ⟨h2.1, by omega, h2.2.2⟩
 · have := h.hL
   have := h.q.lt
   exact ⟨⟨by omega, by omega⟩, by omega, by omega⟩
theorem truths_any {w : World} {b : Nat} :
 Calls Tryz.prog 224 #[.pointer (some ⟨b, 0, none⟩)] w fun e w' => ∃ p1, e = .returned (.func (.func 300) #[] #[.pointer (some ⟨p1, 0, none⟩)]) ∧
  w.heap.size ≤ p1 ∧ p1 < w'.heap.size ∧ w'.cell? ⟨p1, 0, none⟩ = some (.pointer (some ⟨b, 0, none⟩)) ∧ Below w.heap.size w w' := by
 go_enter Tryz.func224, Tryz.ntmps224
 go_wp2_with fail
 go_ret
 refine ⟨w.heap.size, rfl, by omega, by simp, ?_, (Below.refl _ _).alloc (Nat.le_refl _) _⟩
 rw [World.cell?_alloc_at _ _ _ _ (by simp)]; rfl
end Go.Proofs.YtkaahiddngmdbaaGreatDoor
