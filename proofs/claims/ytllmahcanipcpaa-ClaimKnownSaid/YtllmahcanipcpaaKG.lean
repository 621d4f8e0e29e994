/- The contract of Check's function literal for a paper. -/
import Derived.Test.YtllmahcanipcpaaKF
import Derived.BigQuiet
import Derived.IntWalk
set_option linter.unusedVariables false
set_option linter.unusedSimpArgs false
namespace Go.Proofs.Ytllmahcanipcpaa
open Go.RowKit

theorem wanted_no {ops : Array Oper} {a : Act} {o : Oper} {j : Nat} {d : Tmp} {b : Bool} (hg : o.guard = some (j, !b)) (hd : (ops[j]?).bind (·.dst) = some d) (h : a.tmps[d]?.getD undef = .bool b) : Region.wanted o (yielded ops a.tmps) = false := by
  unfold Region.wanted
  rw [hg]
  simp only [yielded_of hd h]
  cases b <;> rfl
theorem wanted_yes {ops : Array Oper} {a : Act} {o : Oper} {j : Nat} {d : Tmp} {b : Bool} (hg : o.guard = some (j, b)) (hd : (ops[j]?).bind (·.dst) = some d) (h : a.tmps[d]?.getD undef = .bool b) : Region.wanted o (yielded ops a.tmps) = true := by
  unfold Region.wanted
  rw [hg]
  simp only [yielded_of hd h]
  cases b <;> rfl
theorem wpOp_enterW {P : Program} {ops : Array Oper} {Q : Exit → Act → World → Prop} {i : Nat} {o : Oper} {K : Act → World → Prop} {a : Act} {W W' : World} {f : FuncId} {args : Array Value} (ho : ops[i]? = some o) (hg : Region.wanted o (yielded ops a.tmps) = true) (hr : (execOp a.eval o).run P W = .ok (.enter f args) W')
    (hc : Calls P f args W' fun e w'' => ∃ v, e = .returned v ∧ K (a.put o.dst v) w'') : wpOp P ops Q i K a W := by
  unfold wpOp
  simp only [ho, hg, if_true]
  left
  unfold Oper.wp
  rw [hr]
  exact hc.mono (fun e w'' ⟨v, he, hk⟩ => by rw [he]; exact hk)
set_option maxHeartbeats 4000000 in
set_option maxRecDepth 100000 in
theorem paper_any {g : Nat} {f : File} {a : FA} {w : World} (h : BoxF w g f a) (i : Nat) (p : Paper) :
    Calls Try.prog 40 #[.int .i64 (i : Int), .agg #[.int .i64 p.says, .int .i64 p.lot, .int .i64 p.of_], .pointer (some ⟨g, 0, none⟩)] w fun e w' => e = .returned (.int .i64 (paperE f i p)) ∧ Below w.heap.size w w' := by
  obtain ⟨ps, pl, po⟩ := p
  have hm3 := h.v.m3
  unfold maxLen at hm3
  have HPE := hide (show paperE f i ⟨ps, pl, po⟩ = if offP 0 3 ps then 7 else if offP 0 ((f.lots.length : Int) - 1) pl then 4 else if ps < 2 then (if hasInt (nth f.lots pl.toNat).route po then 0 else 4) else if offP 0 ((f.lots.length : Int) - 1) po then 4 else if pl = po then 2 else 0 from rfl)
  have hA : Below w.heap.size w (w.alloc (.cells #[.int .i64 ps, .int .i64 pl, .int .i64 po] 48)) := (Below.refl _ _).alloc (Nat.le_refl _) _
  have bk : Blk (w.alloc (.cells #[.int .i64 ps, .int .i64 pl, .int .i64 po] 48)) w.heap.size 48 #[.int .i64 ps, .int .i64 pl, .int .i64 po] := Blk.made
  have HX := hide (h.next hA)
  have HB := hide hA
  have HK := hide bk
  have hw1 : IntKind.i64.wrap ((f.lots.length : Int) - 1) = (f.lots.length : Int) - 1 := IntWalk.i64_in _ (by omega)
  clear h hA bk
  generalize hq1 : offP 0 3 ps = q1 at *
  generalize hq2 : offP 0 ((f.lots.length : Int) - 1) pl = q2 at *
  have Q1 := hide hq1
  have Q2 := hide hq2
  clear hq1 hq2
  go_enter Try.func40, Try.ntmps40
  go_upto_region 1 with (fail)
  generalize (w.alloc (.cells #[.int .i64 ps, .int .i64 pl, .int .i64 po] 48)) = v0 at *
  have k0 : v0.cell? ⟨w.heap.size, 0, none⟩ = some (.int .i64 ps) := HK.out.at_ 0
  have zk := HK.out.lt
  cases q1
  · go_upto_region 3 with (go_at_call 33; refine (off_1 (by simp) _ _ _).mono ?_; rintro e v1 ⟨rfl, hb⟩; rw [Q1.out])
    have HB := hide (HB.out.trans (hb.mono HB.out.size))
    have HX := hide (HX.out.next hb)
    have HK := hide (HK.out.next hb)
    clear hb k0 zk
    obtain ⟨z, _, _, x2, _, _⟩ := HX.out.cells
    have k1 : v1.cell? ⟨w.heap.size, 1, none⟩ = some (.int .i64 pl) := HK.out.at_ 1
    have zk := HK.out.lt
    cases q2
    · go_upto_region 5 with (go_at_call 33; refine (off_1 (by simp) _ _ _).mono ?_; rintro e v2 ⟨rfl, hb⟩; rw [Q2.out])
      have HB := hide (HB.out.trans (hb.mono HB.out.size))
      have HX := hide (HX.out.next hb)
      have HK := hide (HK.out.next hb)
      clear hb k1 z x2 zk
      have hpl := offP_false.1 Q2.out
      obtain ⟨k, rfl⟩ : ∃ k : Nat, pl = (k : Int) := ⟨pl.toNat, by omega⟩
      have hk : k < f.lots.length := by omega
      have hk0 : (0 : Int) ≤ (k : Int) := Int.natCast_nonneg _
      have hk1 : (k : Int) < (f.lots.length : Int) := by omega
      obtain ⟨z, _, _, x2, _, _⟩ := HX.out.cells
      obtain ⟨b3, o3, hA3, hb3, y0, _, _, _⟩ := HX.out.v.lots.lots hk
      have HRT := hide (HX.out.v.routes k hk)
      have k0 : v2.cell? ⟨w.heap.size, 0, none⟩ = some (.int .i64 ps) := HK.out.at_ 0
      have k1 : v2.cell? ⟨w.heap.size, 1, none⟩ = some (.int .i64 (k : Int)) := HK.out.at_ 1
      have k2 : v2.cell? ⟨w.heap.size, 2, none⟩ = some (.int .i64 po) := HK.out.at_ 2
      have zk := HK.out.lt
      have htn : ((k : Int)).toNat = k := by omega
      rw [htn] at HPE
      clear htn hpl
      by_cases hps : ps < 2
      · rw [hA3] at x2
        have hd1 : decide (ps < 2) = true := decide_eq_true hps
        have hd2 : decide (ps ≥ 2) = false := decide_eq_false (by omega)
        have HPS := hide hps
        clear hps
        cases hh : hasInt (nth f.lots k).route po
        all_goals have HH := hide hh
        all_goals clear hh
        all_goals
          go_quiet (first | (go_at_call 41; exact Calls.quiet_of_same ((contains_any (HRT.out.drewN _) po).mono (fun _ _ h => ⟨by rw [h.1, HH.out], h.2.symm⟩))))
          go_wp2_with fail
          go_ret
          exact ⟨ret_i (by rw [HPE.out, if_pos HPS.out, HH.out]; rfl), ⟨HB.out.os, HB.out.tape, HB.out.output, HB.out.size, HB.out.block⟩⟩
      · have hd1 : decide (ps < 2) = false := decide_eq_false hps
        have hd2 : decide (ps ≥ 2) = true := decide_eq_true (by omega)
        have hd3 : decide (2 ≤ ps) = true := decide_eq_true (by omega)
        have HPS := hide hps
        clear hps y0 hb3 hA3 HX HRT
        generalize a.A3 = Aa at *
        generalize a.c3 = ca at *
        generalize hq3 : offP 0 ((f.lots.length : Int) - 1) po = q3 at *
        have Q3 := hide hq3
        clear hq3
        refine wp_post0 (fun act0 a W => ∃ vs : Nat → Value, a = { tmps := setAll (fun oi => [21, 22, 23, 24, 25, 26, 27, 28, 29, 30, 31, 32, 33, 34, 35, 36, 37, 38, 39, 40, 41, 42, 43, 44, 45, 46, 47, 48, 49, 50, 51, 20].getD oi 0) vs [0, 1, 2, 3, 4, 5, 6, 7, 8, 9, 10, 11, 12, 13, 14, 15, 16, 17, 18, 19, 20, 21, 22, 23, 24, 25, 26, 27, 28, 29, 30, 31] act0.tmps, defers := act0.defers } ∧ Below v2.heap.size v2 W ∧ vs 31 = .bool q3) ?reg ?imp
        case reg =>
          have hST : Stab v2.heap.size (fun oi v W => match oi with | 0 => v = .pointer (some ⟨w.heap.size, 0, none⟩) | 1 => v = .int .i64 ps | 2 => v = .bool false | 3 => v = .bool false | 4 => v = undef | 5 => v = undef | 6 => v = undef | 7 => v = undef | 8 => v = undef | 9 => v = undef | 10 => v = undef | 11 => v = undef | 12 => v = undef | 13 => v = undef | 14 => v = undef | 15 => v = .bool false | 16 => v = .bool false | 17 => v = .pointer (some ⟨w.heap.size, 0, none⟩) | 18 => v = .int .i64 ps | 19 => v = .bool true | 20 => v = .bool true | 21 => v = .pointer (some ⟨g, 2, none⟩) | 22 => v = .slice Aa f.lots.length ca | 23 => v = .int .i64 (f.lots.length : Nat) | 24 => v = .int .i64 ((f.lots.length : Int) - 1) | 25 => v = .pointer (some ⟨w.heap.size, 2, none⟩) | 26 => v = .int .i64 po | 27 => ∃ A cp, v = .slice A 1 cp ∧ W.ownsRow v2.heap.size 3 1 (.slice A 1 cp) 1 ([.int .i64 po]) | 28 => v = .bool q3 | 29 => v = .bool q3 | 30 => v = .bool q3 | 31 => v = .bool q3 | _ => True) (fun oi v b => match oi with | 27 => v.ownBlock = some b | _ => False) := by
            intro oi v W W' h hbs hz hk
            match oi, h, hk with
            | 0, h, hk => exact h
            | 1, h, hk => exact h
            | 2, h, hk => exact h
            | 3, h, hk => exact h
            | 4, h, hk => exact h
            | 5, h, hk => exact h
            | 6, h, hk => exact h
            | 7, h, hk => exact h
            | 8, h, hk => exact h
            | 9, h, hk => exact h
            | 10, h, hk => exact h
            | 11, h, hk => exact h
            | 12, h, hk => exact h
            | 13, h, hk => exact h
            | 14, h, hk => exact h
            | 15, h, hk => exact h
            | 16, h, hk => exact h
            | 17, h, hk => exact h
            | 18, h, hk => exact h
            | 19, h, hk => exact h
            | 20, h, hk => exact h
            | 21, h, hk => exact h
            | 22, h, hk => exact h
            | 23, h, hk => exact h
            | 24, h, hk => exact h
            | 25, h, hk => exact h
            | 26, h, hk => exact h
            | 27, h, hk => obtain ⟨A, cp, rfl, h2⟩ := h; exact ⟨A, cp, rfl, own_stab h2 (fun b hb e => hk b hb (.inr e))⟩
            | 28, h, hk => exact h
            | 29, h, hk => exact h
            | 30, h, hk => exact h
            | 31, h, hk => exact h
            | oi + 32, h, hk => exact trivial
          refine wp_region_inv (dst := fun oi => [21, 22, 23, 24, 25, 26, 27, 28, 29, 30, 31, 32, 33, 34, 35, 36, 37, 38, 39, 40, 41, 42, 43, 44, 45, 46, 47, 48, 49, 50, 51, 20].getD oi 0) (mono := fun oi => decide (oi < 32)) (pre := fun oi => decide (oi < 32)) (G := Loose 32 v2.heap.size (fun oi => match oi with  | _ => 32) (fun oi v W => match oi with | 0 => v = .pointer (some ⟨w.heap.size, 0, none⟩) | 1 => v = .int .i64 ps | 2 => v = .bool false | 3 => v = .bool false | 4 => v = undef | 5 => v = undef | 6 => v = undef | 7 => v = undef | 8 => v = undef | 9 => v = undef | 10 => v = undef | 11 => v = undef | 12 => v = undef | 13 => v = undef | 14 => v = undef | 15 => v = .bool false | 16 => v = .bool false | 17 => v = .pointer (some ⟨w.heap.size, 0, none⟩) | 18 => v = .int .i64 ps | 19 => v = .bool true | 20 => v = .bool true | 21 => v = .pointer (some ⟨g, 2, none⟩) | 22 => v = .slice Aa f.lots.length ca | 23 => v = .int .i64 (f.lots.length : Nat) | 24 => v = .int .i64 ((f.lots.length : Int) - 1) | 25 => v = .pointer (some ⟨w.heap.size, 2, none⟩) | 26 => v = .int .i64 po | 27 => ∃ A cp, v = .slice A 1 cp ∧ W.ownsRow v2.heap.size 3 1 (.slice A 1 cp) 1 ([.int .i64 po]) | 28 => v = .bool q3 | 29 => v = .bool q3 | 30 => v = .bool q3 | 31 => v = .bool q3 | _ => True) (fun oi v b => match oi with | 27 => v.ownBlock = some b | _ => False)) (by kernel_rfl) (by kernel_rfl) (Loose.start (Nat.le_refl _)) ?hstep ?hend
          case hstep =>
            intro oi hoi hom listed vs a W hU hsz hG hcl hl haft K hK
            have hb := ((Below.refl v2.heap.size v2).drew).trans hU.below
            have hF := Loose.stepF hU hG hST hoi hK
            match oi, hoi, hom with
            | 0, hoi, hom =>
              have z4 : a.tmps[4]?.getD undef = .pointer (some ⟨w.heap.size, 0, none⟩) := hU.same 4 (by decide)
              refine wpOp_value (v := .pointer (some ⟨w.heap.size, 0, none⟩)) (W' := W) rfl rfl ?_ (hF _ _ (Below.refl _ _) rfl (fun _ h => False.elim h))
              go_simp
            | 1, hoi, hom =>
              have l0 := haft _ rfl { on := 0, ground := .data } (by simp) rfl
              have p0 := hG.pv 0 (by decide) (live_end hsz rfl l0)
              have s0 : a.tmps[21]?.getD undef = vs 0 := hU.slot 0 (by decide) l0
              have hv0 : vs 0 = .pointer (some ⟨w.heap.size, 0, none⟩) := p0
              rw [hv0] at s0
              have y0 := (hb.cell (p := ⟨w.heap.size, 0, none⟩) (zk)).trans (k0)
              refine wpOp_value (v := .int .i64 ps) (W' := W) rfl rfl ?_ (hF _ _ (Below.refl _ _) rfl (fun _ h => False.elim h))
              go_simp
            | 2, hoi, hom =>
              have l1 := haft _ rfl { on := 1, ground := .data } (by simp) rfl
              have p1 := hG.pv 1 (by decide) (live_end hsz rfl l1)
              have s1 : a.tmps[22]?.getD undef = vs 1 := hU.slot 1 (by decide) l1
              have hv1 : vs 1 = .int .i64 ps := p1
              rw [hv1] at s1
              refine wpOp_value (v := .bool false) (W' := W) rfl rfl ?_ (hF _ _ (Below.refl _ _) rfl (fun _ h => False.elim h))
              go_simp
            | 3, hoi, hom =>
              have l2 := haft _ rfl { on := 2, ground := .data } (by simp) rfl
              have p2 := hG.pv 2 (by decide) (live_end hsz rfl l2)
              have s2 : a.tmps[23]?.getD undef = vs 2 := hU.slot 2 (by decide) l2
              have hv2 : vs 2 = .bool false := p2
              rw [hv2] at s2
              refine wpOp_value (v := .bool false) (W' := W) rfl rfl ?_ (hF _ _ (Below.refl _ _) rfl (fun _ h => False.elim h))
              go_simp
            | 4, hoi, hom =>
              have l3 := haft _ rfl { on := 3, ground := .guard } (by simp) rfl
              have p3 := hG.pv 3 (by decide) (live_end hsz rfl l3)
              have s3 : a.tmps[24]?.getD undef = vs 3 := hU.slot 3 (by decide) l3
              have hv3 : vs 3 = .bool false := p3
              rw [hv3] at s3
              refine wpOp_unwanted rfl ?_ (hF _ _ (Below.refl _ _) rfl (fun _ h => False.elim h))
              refine wanted_no (j := 3) (d := 24) ?_ ?_ s3 <;> rfl
            | 5, hoi, hom =>
              have l3 := haft _ rfl { on := 3, ground := .guard } (by simp) rfl
              have p3 := hG.pv 3 (by decide) (live_end hsz rfl l3)
              have s3 : a.tmps[24]?.getD undef = vs 3 := hU.slot 3 (by decide) l3
              have hv3 : vs 3 = .bool false := p3
              rw [hv3] at s3
              refine wpOp_unwanted rfl ?_ (hF _ _ (Below.refl _ _) rfl (fun _ h => False.elim h))
              refine wanted_no (j := 3) (d := 24) ?_ ?_ s3 <;> rfl
            | 6, hoi, hom =>
              have l3 := haft _ rfl { on := 3, ground := .guard } (by simp) rfl
              have p3 := hG.pv 3 (by decide) (live_end hsz rfl l3)
              have s3 : a.tmps[24]?.getD undef = vs 3 := hU.slot 3 (by decide) l3
              have hv3 : vs 3 = .bool false := p3
              rw [hv3] at s3
              refine wpOp_unwanted rfl ?_ (hF _ _ (Below.refl _ _) rfl (fun _ h => False.elim h))
              refine wanted_no (j := 3) (d := 24) ?_ ?_ s3 <;> rfl
            | 7, hoi, hom =>
              have l3 := haft _ rfl { on := 3, ground := .guard } (by simp) rfl
              have p3 := hG.pv 3 (by decide) (live_end hsz rfl l3)
              have s3 : a.tmps[24]?.getD undef = vs 3 := hU.slot 3 (by decide) l3
              have hv3 : vs 3 = .bool false := p3
              rw [hv3] at s3
              refine wpOp_unwanted rfl ?_ (hF _ _ (Below.refl _ _) rfl (fun _ h => False.elim h))
              refine wanted_no (j := 3) (d := 24) ?_ ?_ s3 <;> rfl
            | 8, hoi, hom =>
              have l3 := haft _ rfl { on := 3, ground := .guard } (by simp) rfl
              have p3 := hG.pv 3 (by decide) (live_end hsz rfl l3)
              have s3 : a.tmps[24]?.getD undef = vs 3 := hU.slot 3 (by decide) l3
              have hv3 : vs 3 = .bool false := p3
              rw [hv3] at s3
              refine wpOp_unwanted rfl ?_ (hF _ _ (Below.refl _ _) rfl (fun _ h => False.elim h))
              refine wanted_no (j := 3) (d := 24) ?_ ?_ s3 <;> rfl
            | 9, hoi, hom =>
              have l3 := haft _ rfl { on := 3, ground := .guard } (by simp) rfl
              have p3 := hG.pv 3 (by decide) (live_end hsz rfl l3)
              have s3 : a.tmps[24]?.getD undef = vs 3 := hU.slot 3 (by decide) l3
              have hv3 : vs 3 = .bool false := p3
              rw [hv3] at s3
              refine wpOp_unwanted rfl ?_ (hF _ _ (Below.refl _ _) rfl (fun _ h => False.elim h))
              refine wanted_no (j := 3) (d := 24) ?_ ?_ s3 <;> rfl
            | 10, hoi, hom =>
              have l3 := haft _ rfl { on := 3, ground := .guard } (by simp) rfl
              have p3 := hG.pv 3 (by decide) (live_end hsz rfl l3)
              have s3 : a.tmps[24]?.getD undef = vs 3 := hU.slot 3 (by decide) l3
              have hv3 : vs 3 = .bool false := p3
              rw [hv3] at s3
              refine wpOp_unwanted rfl ?_ (hF _ _ (Below.refl _ _) rfl (fun _ h => False.elim h))
              refine wanted_no (j := 3) (d := 24) ?_ ?_ s3 <;> rfl
            | 11, hoi, hom =>
              have l3 := haft _ rfl { on := 3, ground := .guard } (by simp) rfl
              have p3 := hG.pv 3 (by decide) (live_end hsz rfl l3)
              have s3 : a.tmps[24]?.getD undef = vs 3 := hU.slot 3 (by decide) l3
              have hv3 : vs 3 = .bool false := p3
              rw [hv3] at s3
              refine wpOp_unwanted rfl ?_ (hF _ _ (Below.refl _ _) rfl (fun _ h => False.elim h))
              refine wanted_no (j := 3) (d := 24) ?_ ?_ s3 <;> rfl
            | 12, hoi, hom =>
              have l3 := haft _ rfl { on := 3, ground := .guard } (by simp) rfl
              have p3 := hG.pv 3 (by decide) (live_end hsz rfl l3)
              have s3 : a.tmps[24]?.getD undef = vs 3 := hU.slot 3 (by decide) l3
              have hv3 : vs 3 = .bool false := p3
              rw [hv3] at s3
              refine wpOp_unwanted rfl ?_ (hF _ _ (Below.refl _ _) rfl (fun _ h => False.elim h))
              refine wanted_no (j := 3) (d := 24) ?_ ?_ s3 <;> rfl
            | 13, hoi, hom =>
              have l3 := haft _ rfl { on := 3, ground := .guard } (by simp) rfl
              have p3 := hG.pv 3 (by decide) (live_end hsz rfl l3)
              have s3 : a.tmps[24]?.getD undef = vs 3 := hU.slot 3 (by decide) l3
              have hv3 : vs 3 = .bool false := p3
              rw [hv3] at s3
              refine wpOp_unwanted rfl ?_ (hF _ _ (Below.refl _ _) rfl (fun _ h => False.elim h))
              refine wanted_no (j := 3) (d := 24) ?_ ?_ s3 <;> rfl
            | 14, hoi, hom =>
              have l3 := haft _ rfl { on := 3, ground := .guard } (by simp) rfl
              have p3 := hG.pv 3 (by decide) (live_end hsz rfl l3)
              have s3 : a.tmps[24]?.getD undef = vs 3 := hU.slot 3 (by decide) l3
              have hv3 : vs 3 = .bool false := p3
              rw [hv3] at s3
              refine wpOp_unwanted rfl ?_ (hF _ _ (Below.refl _ _) rfl (fun _ h => False.elim h))
              refine wanted_no (j := 3) (d := 24) ?_ ?_ s3 <;> rfl
            | 15, hoi, hom =>
              have l3 := haft _ rfl { on := 3, ground := .data } (by simp) rfl
              have p3 := hG.pv 3 (by decide) (live_end hsz rfl l3)
              have s3 : a.tmps[24]?.getD undef = vs 3 := hU.slot 3 (by decide) l3
              have hv3 : vs 3 = .bool false := p3
              rw [hv3] at s3
              have l14 := haft _ rfl { on := 14, ground := .data } (by simp) rfl
              have p14 := hG.pv 14 (by decide) (live_end hsz rfl l14)
              have s14 : a.tmps[35]?.getD undef = vs 14 := hU.slot 14 (by decide) l14
              have hv14 : vs 14 = undef := p14
              rw [hv14] at s14
              refine wpOp_value (v := .bool false) (W' := W) rfl rfl ?_ (hF _ _ (Below.refl _ _) rfl (fun _ h => False.elim h))
              go_simp
            | 16, hoi, hom =>
              have l15 := haft _ rfl { on := 15, ground := .data } (by simp) rfl
              have p15 := hG.pv 15 (by decide) (live_end hsz rfl l15)
              have s15 : a.tmps[36]?.getD undef = vs 15 := hU.slot 15 (by decide) l15
              have hv15 : vs 15 = .bool false := p15
              rw [hv15] at s15
              refine wpOp_value (v := .bool false) (W' := W) rfl rfl ?_ (hF _ _ (Below.refl _ _) rfl (fun _ h => False.elim h))
              go_simp
            | 17, hoi, hom =>
              have l16 := haft _ rfl { on := 16, ground := .guard } (by simp) rfl
              have p16 := hG.pv 16 (by decide) (live_end hsz rfl l16)
              have s16 : a.tmps[37]?.getD undef = vs 16 := hU.slot 16 (by decide) l16
              have hv16 : vs 16 = .bool false := p16
              rw [hv16] at s16
              have z4 : a.tmps[4]?.getD undef = .pointer (some ⟨w.heap.size, 0, none⟩) := hU.same 4 (by decide)
              refine wpOp_wanted (v := .pointer (some ⟨w.heap.size, 0, none⟩)) (W' := W) rfl ?_ ?_ (hF _ _ (Below.refl _ _) rfl (fun _ h => False.elim h))
              · refine wanted_yes (j := 16) (d := 37) ?_ ?_ s16 <;> rfl
              go_simp
            | 18, hoi, hom =>
              have l16 := haft _ rfl { on := 16, ground := .guard } (by simp) rfl
              have p16 := hG.pv 16 (by decide) (live_end hsz rfl l16)
              have s16 : a.tmps[37]?.getD undef = vs 16 := hU.slot 16 (by decide) l16
              have hv16 : vs 16 = .bool false := p16
              rw [hv16] at s16
              have l17 := haft _ rfl { on := 17, ground := .data } (by simp) rfl
              have p17 := hG.pv 17 (by decide) (live_end hsz rfl l17)
              have s17 : a.tmps[38]?.getD undef = vs 17 := hU.slot 17 (by decide) l17
              have hv17 : vs 17 = .pointer (some ⟨w.heap.size, 0, none⟩) := p17
              rw [hv17] at s17
              have y0 := (hb.cell (p := ⟨w.heap.size, 0, none⟩) (zk)).trans (k0)
              refine wpOp_wanted (v := .int .i64 ps) (W' := W) rfl ?_ ?_ (hF _ _ (Below.refl _ _) rfl (fun _ h => False.elim h))
              · refine wanted_yes (j := 16) (d := 37) ?_ ?_ s16 <;> rfl
              go_simp
            | 19, hoi, hom =>
              have l16 := haft _ rfl { on := 16, ground := .guard } (by simp) rfl
              have p16 := hG.pv 16 (by decide) (live_end hsz rfl l16)
              have s16 : a.tmps[37]?.getD undef = vs 16 := hU.slot 16 (by decide) l16
              have hv16 : vs 16 = .bool false := p16
              rw [hv16] at s16
              have l18 := haft _ rfl { on := 18, ground := .data } (by simp) rfl
              have p18 := hG.pv 18 (by decide) (live_end hsz rfl l18)
              have s18 : a.tmps[39]?.getD undef = vs 18 := hU.slot 18 (by decide) l18
              have hv18 : vs 18 = .int .i64 ps := p18
              rw [hv18] at s18
              refine wpOp_wanted (v := .bool true) (W' := W) rfl ?_ ?_ (hF _ _ (Below.refl _ _) rfl (fun _ h => False.elim h))
              · refine wanted_yes (j := 16) (d := 37) ?_ ?_ s16 <;> rfl
              go_simp
            | 20, hoi, hom =>
              have l16 := haft _ rfl { on := 16, ground := .guard } (by simp) rfl
              have p16 := hG.pv 16 (by decide) (live_end hsz rfl l16)
              have s16 : a.tmps[37]?.getD undef = vs 16 := hU.slot 16 (by decide) l16
              have hv16 : vs 16 = .bool false := p16
              rw [hv16] at s16
              have l19 := haft _ rfl { on := 19, ground := .data } (by simp) rfl
              have p19 := hG.pv 19 (by decide) (live_end hsz rfl l19)
              have s19 : a.tmps[40]?.getD undef = vs 19 := hU.slot 19 (by decide) l19
              have hv19 : vs 19 = .bool true := p19
              rw [hv19] at s19
              refine wpOp_wanted (v := .bool true) (W' := W) rfl ?_ ?_ (hF _ _ (Below.refl _ _) rfl (fun _ h => False.elim h))
              · refine wanted_yes (j := 16) (d := 37) ?_ ?_ s16 <;> rfl
              go_simp
            | 21, hoi, hom =>
              have l20 := haft _ rfl { on := 20, ground := .guard } (by simp) rfl
              have p20 := hG.pv 20 (by decide) (live_end hsz rfl l20)
              have s20 : a.tmps[41]?.getD undef = vs 20 := hU.slot 20 (by decide) l20
              have hv20 : vs 20 = .bool true := p20
              rw [hv20] at s20
              have z2 : a.tmps[2]?.getD undef = .pointer (some ⟨g, 0, none⟩) := hU.same 2 (by decide)
              refine wpOp_wanted (v := .pointer (some ⟨g, 2, none⟩)) (W' := W) rfl ?_ ?_ (hF _ _ (Below.refl _ _) rfl (fun _ h => False.elim h))
              · refine wanted_yes (j := 20) (d := 41) ?_ ?_ s20 <;> rfl
              go_simp
            | 22, hoi, hom =>
              have l20 := haft _ rfl { on := 20, ground := .guard } (by simp) rfl
              have p20 := hG.pv 20 (by decide) (live_end hsz rfl l20)
              have s20 : a.tmps[41]?.getD undef = vs 20 := hU.slot 20 (by decide) l20
              have hv20 : vs 20 = .bool true := p20
              rw [hv20] at s20
              have l21 := haft _ rfl { on := 21, ground := .data } (by simp) rfl
              have p21 := hG.pv 21 (by decide) (live_end hsz rfl l21)
              have s21 : a.tmps[42]?.getD undef = vs 21 := hU.slot 21 (by decide) l21
              have hv21 : vs 21 = .pointer (some ⟨g, 2, none⟩) := p21
              rw [hv21] at s21
              have y0 := (hb.cell (p := ⟨g, 2, none⟩) (z)).trans (x2)
              refine wpOp_wanted (v := .slice Aa f.lots.length ca) (W' := W) rfl ?_ ?_ (hF _ _ (Below.refl _ _) rfl (fun _ h => False.elim h))
              · refine wanted_yes (j := 20) (d := 41) ?_ ?_ s20 <;> rfl
              go_simp
            | 23, hoi, hom =>
              have l20 := haft _ rfl { on := 20, ground := .guard } (by simp) rfl
              have p20 := hG.pv 20 (by decide) (live_end hsz rfl l20)
              have s20 : a.tmps[41]?.getD undef = vs 20 := hU.slot 20 (by decide) l20
              have hv20 : vs 20 = .bool true := p20
              rw [hv20] at s20
              have l22 := haft _ rfl { on := 22, ground := .data } (by simp) rfl
              have p22 := hG.pv 22 (by decide) (live_end hsz rfl l22)
              have s22 : a.tmps[43]?.getD undef = vs 22 := hU.slot 22 (by decide) l22
              have hv22 : vs 22 = .slice Aa f.lots.length ca := p22
              rw [hv22] at s22
              refine wpOp_wanted (v := .int .i64 (f.lots.length : Nat)) (W' := W) rfl ?_ ?_ (hF _ _ (Below.refl _ _) rfl (fun _ h => False.elim h))
              · refine wanted_yes (j := 20) (d := 41) ?_ ?_ s20 <;> rfl
              go_simp
            | 24, hoi, hom =>
              have l20 := haft _ rfl { on := 20, ground := .guard } (by simp) rfl
              have p20 := hG.pv 20 (by decide) (live_end hsz rfl l20)
              have s20 : a.tmps[41]?.getD undef = vs 20 := hU.slot 20 (by decide) l20
              have hv20 : vs 20 = .bool true := p20
              rw [hv20] at s20
              have l23 := haft _ rfl { on := 23, ground := .data } (by simp) rfl
              have p23 := hG.pv 23 (by decide) (live_end hsz rfl l23)
              have s23 : a.tmps[44]?.getD undef = vs 23 := hU.slot 23 (by decide) l23
              have hv23 : vs 23 = .int .i64 (f.lots.length : Nat) := p23
              rw [hv23] at s23
              refine wpOp_wanted (v := .int .i64 ((f.lots.length : Int) - 1)) (W' := W) rfl ?_ ?_ (hF _ _ (Below.refl _ _) rfl (fun _ h => False.elim h))
              · refine wanted_yes (j := 20) (d := 41) ?_ ?_ s20 <;> rfl
              go_simp
            | 25, hoi, hom =>
              have l20 := haft _ rfl { on := 20, ground := .guard } (by simp) rfl
              have p20 := hG.pv 20 (by decide) (live_end hsz rfl l20)
              have s20 : a.tmps[41]?.getD undef = vs 20 := hU.slot 20 (by decide) l20
              have hv20 : vs 20 = .bool true := p20
              rw [hv20] at s20
              have z4 : a.tmps[4]?.getD undef = .pointer (some ⟨w.heap.size, 0, none⟩) := hU.same 4 (by decide)
              refine wpOp_wanted (v := .pointer (some ⟨w.heap.size, 2, none⟩)) (W' := W) rfl ?_ ?_ (hF _ _ (Below.refl _ _) rfl (fun _ h => False.elim h))
              · refine wanted_yes (j := 20) (d := 41) ?_ ?_ s20 <;> rfl
              go_simp
            | 26, hoi, hom =>
              have l20 := haft _ rfl { on := 20, ground := .guard } (by simp) rfl
              have p20 := hG.pv 20 (by decide) (live_end hsz rfl l20)
              have s20 : a.tmps[41]?.getD undef = vs 20 := hU.slot 20 (by decide) l20
              have hv20 : vs 20 = .bool true := p20
              rw [hv20] at s20
              have l25 := haft _ rfl { on := 25, ground := .data } (by simp) rfl
              have p25 := hG.pv 25 (by decide) (live_end hsz rfl l25)
              have s25 : a.tmps[46]?.getD undef = vs 25 := hU.slot 25 (by decide) l25
              have hv25 : vs 25 = .pointer (some ⟨w.heap.size, 2, none⟩) := p25
              rw [hv25] at s25
              have y0 := (hb.cell (p := ⟨w.heap.size, 2, none⟩) (zk)).trans (k2)
              refine wpOp_wanted (v := .int .i64 po) (W' := W) rfl ?_ ?_ (hF _ _ (Below.refl _ _) rfl (fun _ h => False.elim h))
              · refine wanted_yes (j := 20) (d := 41) ?_ ?_ s20 <;> rfl
              go_simp
            | 27, hoi, hom =>
              have l20 := haft _ rfl { on := 20, ground := .guard } (by simp) rfl
              have p20 := hG.pv 20 (by decide) (live_end hsz rfl l20)
              have s20 : a.tmps[41]?.getD undef = vs 20 := hU.slot 20 (by decide) l20
              have hv20 : vs 20 = .bool true := p20
              rw [hv20] at s20
              have l26 := haft _ rfl { on := 26, ground := .data } (by simp) rfl
              have p26 := hG.pv 26 (by decide) (live_end hsz rfl l26)
              have s26 : a.tmps[47]?.getD undef = vs 26 := hU.slot 26 (by decide) l26
              have hv26 : vs 26 = .int .i64 po := p26
              rw [hv26] at s26
              refine wpOp_wanted (v := .slice (some ⟨W.heap.size, 0, none⟩) 1 1) (W' := (W.alloc (.cells #[.int .i64 po] 3))) rfl ?_ ?_ (hF _ _ ((Below.refl _ _).alloc (Nat.le_refl _) _) (own_lit hG.base #[.int .i64 po] 1 rfl (by simp [maxLen])) (fun b h => by rw [← own_new h]; exact ⟨by simp, .inl (Nat.le_refl _)⟩))
              · refine wanted_yes (j := 20) (d := 41) ?_ ?_ s20 <;> rfl
              go_simp
            | 28, hoi, hom =>
              have l20 := haft _ rfl { on := 20, ground := .guard } (by simp) rfl
              have p20 := hG.pv 20 (by decide) (live_end hsz rfl l20)
              have s20 : a.tmps[41]?.getD undef = vs 20 := hU.slot 20 (by decide) l20
              have hv20 : vs 20 = .bool true := p20
              rw [hv20] at s20
              have l24 := haft _ rfl { on := 24, ground := .data } (by simp) rfl
              have p24 := hG.pv 24 (by decide) (live_end hsz rfl l24)
              have s24 : a.tmps[45]?.getD undef = vs 24 := hU.slot 24 (by decide) l24
              have hv24 : vs 24 = .int .i64 ((f.lots.length : Int) - 1) := p24
              rw [hv24] at s24
              have l27 := haft _ rfl { on := 27, ground := .data } (by simp) rfl
              have p27 := hG.pv 27 (by decide) (live_end hsz rfl l27)
              have s27 : a.tmps[48]?.getD undef = vs 27 := hU.slot 27 (by decide) l27
              obtain ⟨PA27, kp27, hv27, hi27⟩ := p27
              rw [hv27] at s27
              refine wpOp_enterW (f := 33) (args := #[.int .i64 0, .int .i64 ((f.lots.length : Int) - 1), .slice PA27 1 kp27]) (W' := W) rfl ?_ ?_ (((off_any (ints_own (xs := [po]) hi27) 0 ((f.lots.length : Int) - 1)).mono (fun e w'' h => (⟨h.1.trans (by simp [Q3.out]), h.2⟩ : e = .returned (.bool q3) ∧ Below W.heap.size W w''))).mono (fun e w'' h => ?_))
              · refine wanted_yes (j := 20) (d := 41) ?_ ?_ s20 <;> rfl
              · go_simp
              · obtain ⟨he, hbw⟩ := h
                exact ⟨_, he, hF _ _ hbw rfl (fun _ h => False.elim h)⟩
            | 29, hoi, hom =>
              have l16 := haft _ rfl { on := 16, ground := .guard } (by simp) rfl
              have p16 := hG.pv 16 (by decide) (live_end hsz rfl l16)
              have s16 : a.tmps[37]?.getD undef = vs 16 := hU.slot 16 (by decide) l16
              have hv16 : vs 16 = .bool false := p16
              rw [hv16] at s16
              have l20 := haft _ rfl { on := 20, ground := .data } (by simp) rfl
              have p20 := hG.pv 20 (by decide) (live_end hsz rfl l20)
              have s20 : a.tmps[41]?.getD undef = vs 20 := hU.slot 20 (by decide) l20
              have hv20 : vs 20 = .bool true := p20
              rw [hv20] at s20
              have l28 := haft _ rfl { on := 28, ground := .data } (by simp) rfl
              have p28 := hG.pv 28 (by decide) (live_end hsz rfl l28)
              have s28 : a.tmps[49]?.getD undef = vs 28 := hU.slot 28 (by decide) l28
              have hv28 : vs 28 = .bool q3 := p28
              rw [hv28] at s28
              refine wpOp_wanted (v := .bool q3) (W' := W) rfl ?_ ?_ (hF _ _ (Below.refl _ _) rfl (fun _ h => False.elim h))
              · refine wanted_yes (j := 16) (d := 37) ?_ ?_ s16 <;> rfl
              go_simp
            | 30, hoi, hom =>
              have l16 := haft _ rfl { on := 16, ground := .data } (by simp) rfl
              have p16 := hG.pv 16 (by decide) (live_end hsz rfl l16)
              have s16 : a.tmps[37]?.getD undef = vs 16 := hU.slot 16 (by decide) l16
              have hv16 : vs 16 = .bool false := p16
              rw [hv16] at s16
              have l29 := haft _ rfl { on := 29, ground := .data } (by simp) rfl
              have p29 := hG.pv 29 (by decide) (live_end hsz rfl l29)
              have s29 : a.tmps[50]?.getD undef = vs 29 := hU.slot 29 (by decide) l29
              have hv29 : vs 29 = .bool q3 := p29
              rw [hv29] at s29
              refine wpOp_value (v := .bool q3) (W' := W) rfl rfl ?_ (hF _ _ (Below.refl _ _) rfl (fun _ h => False.elim h))
              go_simp
            | 31, hoi, hom =>
              have l30 := haft _ rfl { on := 30, ground := .data } (by simp) rfl
              have p30 := hG.pv 30 (by decide) (live_end hsz rfl l30)
              have s30 : a.tmps[51]?.getD undef = vs 30 := hU.slot 30 (by decide) l30
              have hv30 : vs 30 = .bool q3 := p30
              rw [hv30] at s30
              refine wpOp_value (v := .bool q3) (W' := W) rfl rfl ?_ (hF _ _ (Below.refl _ _) rfl (fun _ h => False.elim h))
              go_simp
            | oi + 32, hoi, hom => exact absurd (of_decide_eq_true hom) (by omega)
          case hend =>
            intro listed vs a W hG0 hG hpre
            have hb := ((Below.refl v2.heap.size v2).drew).trans hG0.below
            have hact := hG0.act
            have hT := hG0.lst hpre 0 #[true, true, true, true, true, true, true, true, true, true, true, true, true, true, true, true, true, true, true, true, true, true, true, true, true, true, true, true, true, true, true, true] rfl (by kernel_rfl) (hpre 0 (by decide) (by decide))
            rw [hG0.ix hT (l := [0, 1, 2, 3, 4, 5, 6, 7, 8, 9, 10, 11, 12, 13, 14, 15, 16, 17, 18, 19, 20, 21, 22, 23, 24, 25, 26, 27, 28, 29, 30, 31]) (by kernel_rfl)] at hact
            rw [hG0.lo hT (k := 0) (by kernel_rfl)]
            have p31 := hG.pv 31 (by decide) (live_end hG.size rfl (hpre 31 (by decide) (by decide)))
            subst hT
            refine wpAny_done (by kernel_rfl) ?_ _
            exact ⟨rfl, vs, hact, hb, p31⟩
        case imp =>
        rintro act v3 ⟨vs, rfl, hb, hv31⟩
        simp only [setAll, List.setIfInBounds_toArray, List.set_cons_succ, List.set_cons_zero, List.getD_cons_succ, List.getD_cons_zero]
        rw [hv31]
        have HB := hide (HB.out.trans (hb.mono HB.out.size))
        have HK := hide (HK.out.next hb)
        clear hb k0 k1 k2 zk z x2
        have k0 : v3.cell? ⟨w.heap.size, 0, none⟩ = some (.int .i64 ps) := HK.out.at_ 0
        have k1 : v3.cell? ⟨w.heap.size, 1, none⟩ = some (.int .i64 (k : Int)) := HK.out.at_ 1
        have k2 : v3.cell? ⟨w.heap.size, 2, none⟩ = some (.int .i64 po) := HK.out.at_ 2
        have zk := HK.out.lt
        cases q3
        · by_cases hkp : (k : Int) = po
          · have he1 : ((k : Int) == po) = true := by simpa using hkp
            have HE := hide hkp
            clear hkp
            go_wp2_with fail
            go_ret
            exact ⟨ret_i (by rw [HPE.out, if_neg (Int.not_lt.2 HPS.out), if_pos HE.out]; rfl), HB.out⟩
          · have he1 : ((k : Int) == po) = false := by simpa using hkp
            have HE := hide hkp
            clear hkp
            go_wp2_with fail
            go_ret
            exact ⟨ret_i (by rw [HPE.out, if_neg (Int.not_lt.2 HPS.out), if_neg HE.out]; rfl), HB.out⟩
        · go_wp2_with fail
          go_ret
          exact ⟨ret_i (by rw [HPE.out, if_neg (Int.not_lt.2 HPS.out)]; rfl), HB.out⟩
    · go_wp2_with (go_at_call 33; refine (off_1 (by simp) _ _ _).mono ?_; rintro e v2 ⟨rfl, hb⟩; rw [Q2.out])
      go_ret
      exact ⟨ret_i (by rw [HPE.out]; rfl), HB.out.trans (hb.mono HB.out.size)⟩
  · go_wp2_with (go_at_call 33; refine (off_1 (by simp) _ _ _).mono ?_; rintro e v1 ⟨rfl, hb⟩; rw [Q1.out])
    go_ret
    exact ⟨ret_i (by rw [HPE.out]; rfl), HB.out.trans (hb.mono HB.out.size)⟩
end Go.Proofs.Ytllmahcanipcpaa
