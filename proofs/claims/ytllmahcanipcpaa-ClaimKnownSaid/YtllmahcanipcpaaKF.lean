/- The contract of Check's function literal for a lot. -/
import Derived.Test.YtllmahcanipcpaaKU
import Derived.Deep.DeepCutAuto
import Derived.Deep.RegionHeld3
set_option linter.unusedVariables false
set_option linter.unusedSimpArgs false
namespace Go.Proofs.Ytllmahcanipcpaa
open Go.RowKit

set_option maxHeartbeats 2000000 in
set_option maxRecDepth 100000 in
theorem lot_any {g c : Nat} {A : Option Addr} {f : File} {a : FA} {w : World} (h : BoxF w g f a) (i : Nat) (l : Lot) (hr : IntsS w w.heap.size A l.route.length c l.route) (hfit : l.route.length * 8 ≤ 140737488355328) :
    Calls Try.prog 35 #[.int .i64 (i : Int), .agg #[.slice A l.route.length c, .int .i64 l.turned.lo, .int .i64 l.turned.hi, .int .i64 l.worth], .pointer (some ⟨g, 0, none⟩)] w fun e w' => e = .returned (.int .i64 (lotE f i l)) ∧ Below w.heap.size w w' := by
  obtain ⟨z, x0, _, _, _, _⟩ := h.cells
  have hm1 := h.v.m1
  unfold maxLen at hm1
  have HPE := hide (show lotE f i l = if offP 1 4 l.route.length then 3 else if l.route.any (offP 0 ((f.parties.length : Int) - 1)) then 4 else if dupB l.route then 5 else if offP 0 ((l.route.length : Int) - 1) l.turned.lo || offP 0 ((l.route.length : Int) - 1) l.turned.hi || offP 1 99 l.worth then 7 else if l.turned.hi < l.turned.lo then 2 else 0 from rfl)
  have hA : Below w.heap.size w (w.alloc (.cells #[.slice A l.route.length c, .int .i64 l.turned.lo, .int .i64 l.turned.hi, .int .i64 l.worth] 56)) := (Below.refl _ _).alloc (Nat.le_refl _) _
  have bk : Blk (w.alloc (.cells #[.slice A l.route.length c, .int .i64 l.turned.lo, .int .i64 l.turned.hi, .int .i64 l.worth] 56)) w.heap.size 56 #[.slice A l.route.length c, .int .i64 l.turned.lo, .int .i64 l.turned.hi, .int .i64 l.worth] := Blk.made
  have HX := hide (h.next hA)
  have HB := hide hA
  have HK := hide bk
  have HR := hide (hr.next hA)
  have hw1 : IntKind.i64.wrap ((f.parties.length : Int) - 1) = (f.parties.length : Int) - 1 := IntWalk.i64_in _ (by omega)
  have hw2 : IntKind.i64.wrap ((l.route.length : Int) - 1) = (l.route.length : Int) - 1 := IntWalk.i64_in _ (by omega)
  have HSL := hide (sortM_length l.route)
  have HDC := hide (dup_compact l.route)
  have HAN := hide (show (sortM l.route).any (offP 0 ((f.parties.length : Int) - 1)) = l.route.any (offP 0 ((f.parties.length : Int) - 1)) from (sortM_perm l.route).any_eq)
  clear h hA bk z x0 hr
  go_enter Try.func35, Try.ntmps35
  go_upto_region 1 with (fail)
  generalize (w.alloc (.cells #[.slice A l.route.length c, .int .i64 l.turned.lo, .int .i64 l.turned.hi, .int .i64 l.worth] 56)) = v0 at *
  have k0 : v0.cell? ⟨w.heap.size, 0, none⟩ = some (.slice A l.route.length c) := HK.out.at_ 0
  have zk := HK.out.lt
  go_upto_region 2 with (first
    | (go_at_call 37; refine values_any.mono ?_; rintro e v1 ⟨p, rfl, hp1, hp2, hpc, hb1⟩)
    | (go_at_call 36; refine (sorted_any (enters_of Try.func71 (by kernel_rfl) rfl) (fun C hC => values_iter hp2 hpc (HR.out.next hb1) (Nat.le_refl _) (fun k hk => ⟨hC k hk, by have := hC k hk; omega⟩)) hfit).mono ?_; rintro e v2 ⟨s, rfl, hs, hb2⟩))
  obtain ⟨As, cs, rfl, hs⟩ := own_ex hs
  have hlt1 : w.heap.size < v1.heap.size := by have := hb1.size; omega
  have HS := hide hs
  have HB := hide (HB.out.trans ((hb1.mono HB.out.size).trans (hb2.mono (by omega))))
  have HK := hide ((HK.out.next hb1).next hb2)
  have HX := hide ((HX.out.next hb1).next hb2)
  clear hb1 hb2 hs hp1 hp2 hpc k0 zk
  generalize v1.heap.size = B1 at *
  generalize hq1 : offP 1 4 l.route.length = q1 at *
  generalize hq2 : l.route.any (offP 0 ((f.parties.length : Int) - 1)) = q2 at *
  generalize hq3 : dupB l.route = q3 at *
  generalize hq4 : (offP 0 ((l.route.length : Int) - 1) l.turned.lo || offP 0 ((l.route.length : Int) - 1) l.turned.hi) = q4 at *
  generalize hq5 : offP 1 99 l.worth = q5 at *
  have Q1 := hide hq1
  have Q4 := hide hq4
  have Q5 := hide hq5
  clear hq1 hq2 hq3 hq4 hq5
  cases q1
  · go_upto_region 4 with (go_at_call 33; refine (off_1 (by simp) _ _ _).mono ?_; rintro e v3 ⟨rfl, hb⟩; rw [Q1.out])
    have HS := hide (own_kept HS.out (Keep.of_below' hb (fun _ => False)) (fun _ _ h => h))
    have HB := hide (HB.out.trans (hb.mono HB.out.size))
    have HK := hide (HK.out.next hb)
    have HX := hide (HX.out.next hb)
    clear hb
    obtain ⟨z, x0, _, _, _, _⟩ := HX.out.cells
    cases q2
    · go_upto_region 6 with (go_at_call 33; refine (off_any (ints_own HS.out) _ _).mono ?_; rintro e v4 ⟨rfl, hb⟩; rw [HAN.out])
      have HS := hide (own_kept HS.out (Keep.of_below' hb (fun _ => False)) (fun _ _ h => h))
      have HB := hide (HB.out.trans (hb.mono HB.out.size))
      have HK := hide (HK.out.next hb)
      have HX := hide (HX.out.next hb)
      clear hb z x0
      have k0 : v4.cell? ⟨w.heap.size, 0, none⟩ = some (.slice A l.route.length c) := HK.out.at_ 0
      have zk := HK.out.lt
      have hlc : decide ((Lib.compact (sortM l.route)).length < l.route.length) = q3 := HDC.out
      generalize hcn : (Lib.compact (sortM l.route)).length = cn at *
      have HCN := hide hcn
      clear hcn
      have HS1 := hide (show v4.ownsRow B1 3 1 (.slice As l.route.length cs) (sortM l.route).length ((sortM l.route).map (Value.int .i64)) by rw [HSL.out]; exact HS.out)
      have hno : ∀ k, some k = (Value.slice As l.route.length cs).ownBlock → B1 ≤ k := fun k hk => (World.ownsRow.lt HS.out k hk.symm).1
      have HNO := hide hno
      clear hno
      cases q3
      all_goals
        go_region_held3 (fun w' => w'.cell? ⟨w.heap.size, 0, none⟩ = some (.slice A l.route.length c))
          (first | exact (hk5.cell zk (fun e => by have := HNO.out _ e; omega)).trans k0 | go_keep)
          (first | (go_at_call 38; refine (compact_any (World.ownsRow.drew HS1.out)).mono ?_; rintro e v5 ⟨A5, c5, rfl, hg⟩; rw [HCN.out]; have hk5 := Keep.of_grown hg))
        clear hlc
        have HB := hide (HB.out.drew.trans (hk5.below (B := w.heap.size) (fun k hk => by have := HNO.out k hk; omega) (by have := HB.out.size; exact this)))
        have HK := hide ((show Blk v4.drew _ _ _ from HK.out).keep hk5 (fun e => by have := HNO.out _ e; omega))
        clear hk5 hg k0 zk HS1 HNO HS
        have k0 : v5.cell? ⟨w.heap.size, 0, none⟩ = some (.slice A l.route.length c) := HK.out.at_ 0
        have k1 : v5.cell? ⟨w.heap.size, 1, none⟩ = some (.int .i64 l.turned.lo) := HK.out.at_ 1
        have k2 : v5.cell? ⟨w.heap.size, 2, none⟩ = some (.int .i64 l.turned.hi) := HK.out.at_ 2
        have zk := HK.out.lt
      · cases q4
        · cases q5
          · by_cases hlh : l.turned.hi < l.turned.lo
            all_goals
              have HLH := hide hlh
              clear hlh
              go_upto_region 10 with (first
              | (go_at_call 33; (with_reducible refine (off_2 (by simp) 0 ((l.route.length : Int) - 1) l.turned.lo l.turned.hi).mono ?_); rintro e v6 ⟨rfl, hb⟩; rw [Q4.out]; have HB := hide (HB.out.trans (hb.mono HB.out.size)); have HK := hide (HK.out.next hb); clear hb k0 k1 k2 zk; have k3 : v6.cell? ⟨w.heap.size, 3, none⟩ = some (.int .i64 l.worth) := HK.out.at_ 3; have zk := HK.out.lt)
              | (go_at_call 33; (with_reducible refine (off_1 (by simp) 1 99 l.worth).mono ?_); rintro e v7 ⟨rfl, hb⟩; rw [Q5.out]))
              have HB := hide (HB.out.trans (hb.mono HB.out.size))
              have HK := hide (HK.out.next hb)
              clear hb k3 zk
              have k1 : v7.cell? ⟨w.heap.size, 1, none⟩ = some (.int .i64 l.turned.lo) := HK.out.at_ 1
              have k2 : v7.cell? ⟨w.heap.size, 2, none⟩ = some (.int .i64 l.turned.hi) := HK.out.at_ 2
              have zk := HK.out.lt
            · have hd : decide (l.turned.hi < l.turned.lo) = true := decide_eq_true HLH.out
              go_wp2_with fail
              go_ret
              exact ⟨ret_i (by rw [HPE.out, if_pos HLH.out]; rfl), HB.out⟩
            · have hd : decide (l.turned.hi < l.turned.lo) = false := decide_eq_false (Int.not_lt.2 HLH.out)
              go_wp2_with fail
              go_ret
              exact ⟨ret_i (by rw [HPE.out, if_neg (Int.not_lt.2 HLH.out)]; rfl), HB.out⟩
          · go_wp2_with (first
              | (go_at_call 33; (with_reducible refine (off_2 (by simp) 0 ((l.route.length : Int) - 1) l.turned.lo l.turned.hi).mono ?_); rintro e v6 ⟨rfl, hb⟩; rw [Q4.out]; have HB := hide (HB.out.trans (hb.mono HB.out.size)); have HK := hide (HK.out.next hb); clear hb k0 k1 k2 zk; have k3 : v6.cell? ⟨w.heap.size, 3, none⟩ = some (.int .i64 l.worth) := HK.out.at_ 3; have zk := HK.out.lt)
              | (go_at_call 33; (with_reducible refine (off_1 (by simp) 1 99 l.worth).mono ?_); rintro e v7 ⟨rfl, hb⟩; rw [Q5.out]))
            go_ret
            exact ⟨ret_i (by rw [HPE.out]; rfl), HB.out.trans (hb.mono HB.out.size)⟩
        · go_wp2_with (go_at_call 33; refine (off_2 (by simp) _ _ _ _).mono ?_; rintro e v6 ⟨rfl, hb⟩; rw [Q4.out])
          go_ret
          exact ⟨ret_i (by rw [HPE.out]; rfl), HB.out.trans (hb.mono HB.out.size)⟩
      · go_wp2_with fail
        go_ret
        exact ⟨ret_i (by rw [HPE.out]; rfl), HB.out⟩
    · go_wp2_with (go_at_call 33; refine (off_any (ints_own HS.out) _ _).mono ?_; rintro e v4 ⟨rfl, hb⟩; rw [HAN.out])
      go_ret
      exact ⟨ret_i (by rw [HPE.out]; rfl), HB.out.trans (hb.mono HB.out.size)⟩
  · go_wp2_with (go_at_call 33; refine (off_1 (by simp) _ _ _).mono ?_; rintro e v3 ⟨rfl, hb⟩; rw [Q1.out])
    go_ret
    exact ⟨ret_i (by rw [HPE.out]; rfl), HB.out.trans (hb.mono HB.out.size)⟩
end Go.Proofs.Ytllmahcanipcpaa
