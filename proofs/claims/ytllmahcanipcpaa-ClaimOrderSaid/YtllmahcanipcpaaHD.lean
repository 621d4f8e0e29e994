/- The contract of Check's function literal for a paper. -/
import Derived.Test.YtllmahcanipcpaaHC
import Derived.BigQuiet
import Derived.IntWalk
import Derived.Maps.OwnOps
import Derived.DeepKeys4
import Derived.Laws.EntriesVeiled
set_option linter.unusedVariables false
set_option linter.unusedSimpArgs false
namespace Go.Proofs.Ytllmahcanipcpaa
open Go.RowKit

theorem wanted_no {ops : Array Oper} {a : Act} {o : Oper} {j : Nat} {d : Tmp} {b : Bool} (hg : o.guard = some (j, !b)) (hd : (ops[j]?).bind (·.dst) = some d) (h : a.tmps[d]?.getD undef = .bool b) : Region.wanted o (yielded ops a.tmps) = false := by
  unfold Region.wanted
  rw [hg]
  simp only [yielded_of hd h]
  cases b <;> rfl
theorem wanted_yes {ops : Array Oper} {a : Act} {o : Oper} {j : Nat} {d : Tmp} {b : Bool} (hg : o.guard = some (j, b)) (hd : (ops[j]?).bind (·.dst) = some d) (h : a.tmps[d]?.getD undef = .bool b) : Region.wanted o (yielded ops a.tmps) = true := by
  unfold Region.wanted
  rw [hg]
  simp only [yielded_of hd h]
  cases b <;> rfl
theorem wpOp_enterW {P : Program} {ops : Array Oper} {Q : Exit → Act → World → Prop} {i : Nat} {o : Oper} {K : Act → World → Prop} {a : Act} {W W' : World} {f : FuncId} {args : Array Value} (ho : ops[i]? = some o) (hg : Region.wanted o (yielded ops a.tmps) = true) (hr : (execOp a.eval o).run P W = .ok (.enter f args) W')
    (hc : Calls P f args W' fun e w'' => ∃ v, e = .returned v ∧ K (a.put o.dst v) w'') : wpOp P ops Q i K a W := by
  unfold wpOp
  simp only [ho, hg, if_true]
  left
  unfold Oper.wp
  rw [hr]
  exact hc.mono (fun e w'' ⟨v, he, hk⟩ => by rw [he]; exact hk)
set_option maxHeartbeats 4000000 in
set_option maxRecDepth 100000 in
theorem paper_any {g : Nat} {f : File} {a : FA} {w : World} (h : BoxF w g f a) (i : Nat) (p : Paper) :
    Calls Try.prog 40 #[.int .i64 (i : Int), .agg #[.int .i64 p.says, .int .i64 p.lot, .int .i64 p.of_], .pointer (some ⟨g, 0, none⟩)] w fun e w' => e = .returned (.int .i64 (paperE f i p)) ∧ Below w.heap.size w w' := by
  obtain ⟨ps, pl, po⟩ := p
  have hm3 := h.v.m3
  unfold maxLen at hm3
  have HPE := hide (show paperE f i ⟨ps, pl, po⟩ = if offP 0 3 ps then 7 else if offP 0 ((f.lots.length : Int) - 1) pl then 4 else if ps < 2 then (if hasInt (nth f.lots pl.toNat).route po then 0 else 4) else if offP 0 ((f.lots.length : Int) - 1) po then 4 else if pl = po then 2 else 0 from rfl)
  have hA : Below w.heap.size w (w.alloc (.cells #[.int .i64 ps, .int .i64 pl, .int .i64 po] 48)) := (Below.refl _ _).alloc (Nat.le_refl _) _
  have bk : Blk (w.alloc (.cells #[.int .i64 ps, .int .i64 pl, .int .i64 po] 48)) w.heap.size 48 #[.int .i64 ps, .int .i64 pl, .int .i64 po] := Blk.made
  have HX := hide (h.next hA)
  have HB := hide hA
  have HK := hide bk
  have hw1 : IntKind.i64.wrap ((f.lots.length : Int) - 1) = (f.lots.length : Int) - 1 := IntWalk.i64_in _ (by omega)
  clear h hA bk
  generalize hq1 : offP 0 3 ps = q1 at *
  generalize hq2 : offP 0 ((f.lots.length : Int) - 1) pl = q2 at *
  have Q1 := hide hq1
  have Q2 := hide hq2
  clear hq1 hq2
  go_enter Try.func40, Try.ntmps40
  go_upto_region 1 with (fail)
  generalize (w.alloc (.cells #[.int .i64 ps, .int .i64 pl, .int .i64 po] 48)) = v0 at *
  have k0 : v0.cell? ⟨w.heap.size, 0, none⟩ = some (.int .i64 ps) := HK.out.at_ 0
  have zk := HK.out.lt
  cases q1
  · go_upto_region 3 with (go_at_call 33; refine (off_1 (by simp) _ _ _).mono ?_; rintro e v1 ⟨rfl, hb⟩; rw [Q1.out])
    have HB := hide (HB.out.trans (hb.mono HB.out.size))
    have HX := hide (HX.out.next hb)
    have HK := hide (HK.out.next hb)
    clear hb k0 zk
    obtain ⟨z, _, _, x2, _, _⟩ := HX.out.cells
    have k1 : v1.cell? ⟨w.heap.size, 1, none⟩ = some (.int .i64 pl) := HK.out.at_ 1
    have zk := HK.out.lt
    cases q2
    · go_upto_region 5 with (go_at_call 33; refine (off_1 (by simp) _ _ _).mono ?_; rintro e v2 ⟨rfl, hb⟩; rw [Q2.out])
      have HB := hide (HB.out.trans (hb.mono HB.out.size))
      have HX := hide (HX.out.next hb)
      have HK := hide (HK.out.next hb)
      clear hb k1 z x2 zk
      have hpl := offP_false.1 Q2.out
      obtain ⟨k, rfl⟩ : ∃ k : Nat, pl = (k : Int) := ⟨pl.toNat, by omega⟩
      have hk : k < f.lots.length := by omega
      have hk0 : (0 : Int) ≤ (k : Int) := Int.natCast_nonneg _
      have hk1 : (k : Int) < (f.lots.length : Int) := by omega
      obtain ⟨z, _, _, x2, _, _⟩ := HX.out.cells
      obtain ⟨b3, o3, hA3, hb3, y0, _, _, _⟩ := HX.out.v.lots.lots hk
      have HRT := hide (HX.out.v.routes k hk)
      have k0 : v2.cell? ⟨w.heap.size, 0, none⟩ = some (.int .i64 ps) := HK.out.at_ 0
      have k1 : v2.cell? ⟨w.heap.size, 1, none⟩ = some (.int .i64 (k : Int)) := HK.out.at_ 1
      have k2 : v2.cell? ⟨w.heap.size, 2, none⟩ = some (.int .i64 po) := HK.out.at_ 2
      have zk := HK.out.lt
      have htn : ((k : Int)).toNat = k := by omega
      rw [htn] at HPE
      clear htn hpl
      by_cases hps : ps < 2
      · rw [hA3] at x2
        have hd1 : decide (ps < 2) = true := decide_eq_true hps
        have hd2 : decide (ps ≥ 2) = false := decide_eq_false (by omega)
        have HPS := hide hps
        clear hps
        cases hh : hasInt (nth f.lots k).route po
        all_goals have HH := hide hh
        all_goals clear hh
        all_goals
          go_quiet (first | (go_at_call 41; exact Calls.quiet_of_same ((contains_any (HRT.out.drewN _) po).mono (fun _ _ h => ⟨by rw [h.1, HH.out], h.2.symm⟩))))
          go_wp2_with fail
          go_ret
          exact ⟨ret_i (by rw [HPE.out, if_pos HPS.out, HH.out]; rfl), ⟨HB.out.os, HB.out.tape, HB.out.output, HB.out.size, HB.out.block⟩⟩
      · have hd1 : decide (ps < 2) = false := decide_eq_false hps
        have hd2 : decide (ps ≥ 2) = true := decide_eq_true (by omega)
        have hd3 : decide (2 ≤ ps) = true := decide_eq_true (by omega)
        have HPS := hide hps
        clear hps y0 hb3 hA3 HX HRT
        generalize a.A3 = Aa at *
        generalize a.c3 = ca at *
        generalize hq3 : offP 0 ((f.lots.length : Int) - 1) po = q3 at *
        have Q3 := hide hq3
        clear hq3
        refine wp_post0 (fun act0 a W => ∃ vs : Nat → Value, a = { tmps := setAll (fun oi => [21, 22, 23, 24, 25, 26, 27, 28, 29, 30, 31, 32, 33, 34, 35, 36, 37, 38, 39, 40, 41, 42, 43, 44, 45, 46, 47, 48, 49, 50, 51, 20].getD oi 0) vs [0, 1, 2, 3, 4, 5, 6, 7, 8, 9, 10, 11, 12, 13, 14, 15, 16, 17, 18, 19, 20, 21, 22, 23, 24, 25, 26, 27, 28, 29, 30, 31] act0.tmps, defers := act0.defers } ∧ Below v2.heap.size v2 W ∧ vs 31 = .bool q3) ?reg ?imp
        case reg =>
          have hST : Stab v2.heap.size (fun oi v W => match oi with | 0 => v = .pointer (some ⟨w.heap.size, 0, none⟩) | 1 => v = .int .i64 ps | 2 => v = .bool false | 3 => v = .bool false | 4 => v = undef | 5 => v = undef | 6 => v = undef | 7 => v = undef | 8 => v = undef | 9 => v = undef | 10 => v = undef | 11 => v = undef | 12 => v = undef | 13 => v = undef | 14 => v = undef | 15 => v = .bool false | 16 => v = .bool false | 17 => v = .pointer (some ⟨w.heap.size, 0, none⟩) | 18 => v = .int .i64 ps | 19 => v = .bool true | 20 => v = .bool true | 21 => v = .pointer (some ⟨g, 2, none⟩) | 22 => v = .slice Aa f.lots.length ca | 23 => v = .int .i64 (f.lots.length : Nat) | 24 => v = .int .i64 ((f.lots.length : Int) - 1) | 25 => v = .pointer (some ⟨w.heap.size, 2, none⟩) | 26 => v = .int .i64 po | 27 => ∃ A cp, v = .slice A 1 cp ∧ W.ownsRow v2.heap.size 3 1 (.slice A 1 cp) 1 ([.int .i64 po]) | 28 => v = .bool q3 | 29 => v = .bool q3 | 30 => v = .bool q3 | 31 => v = .bool q3 | _ => True) (fun oi v b => match oi with | 27 => v.ownBlock = some b | _ => False) := by
            intro oi v W W' h hbs hz hk
            match oi, h, hk with
            | 0, h, hk => exact h
            | 1, h, hk => exact h
            | 2, h, hk => exact h
            | 3, h, hk => exact h
            | 4, h, hk => exact h
            | 5, h, hk => exact h
            | 6, h, hk => exact h
            | 7, h, hk => exact h
            | 8, h, hk => exact h
            | 9, h, hk => exact h
            | 10, h, hk => exact h
            | 11, h, hk => exact h
            | 12, h, hk => exact h
            | 13, h, hk => exact h
            | 14, h, hk => exact h
            | 15, h, hk => exact h
            | 16, h, hk => exact h
            | 17, h, hk => exact h
            | 18, h, hk => exact h
            | 19, h, hk => exact h
            | 20, h, hk => exact h
            | 21, h, hk => exact h
            | 22, h, hk => exact h
            | 23, h, hk => exact h
            | 24, h, hk => exact h
            | 25, h, hk => exact h
            | 26, h, hk => exact h
            | 27, h, hk => obtain ⟨A, cp, rfl, h2⟩ := h; exact ⟨A, cp, rfl, own_stab h2 (fun b hb e => hk b hb (.inr e))⟩
            | 28, h, hk => exact h
            | 29, h, hk => exact h
            | 30, h, hk => exact h
            | 31, h, hk => exact h
            | oi + 32, h, hk => exact trivial
          refine wp_region_inv (dst := fun oi => [21, 22, 23, 24, 25, 26, 27, 28, 29, 30, 31, 32, 33, 34, 35, 36, 37, 38, 39, 40, 41, 42, 43, 44, 45, 46, 47, 48, 49, 50, 51, 20].getD oi 0) (mono := fun oi => decide (oi < 32)) (pre := fun oi => decide (oi < 32)) (G := Loose 32 v2.heap.size (fun oi => match oi with  | _ => 32) (fun oi v W => match oi with | 0 => v = .pointer (some ⟨w.heap.size, 0, none⟩) | 1 => v = .int .i64 ps | 2 => v = .bool false | 3 => v = .bool false | 4 => v = undef | 5 => v = undef | 6 => v = undef | 7 => v = undef | 8 => v = undef | 9 => v = undef | 10 => v = undef | 11 => v = undef | 12 => v = undef | 13 => v = undef | 14 => v = undef | 15 => v = .bool false | 16 => v = .bool false | 17 => v = .pointer (some ⟨w.heap.size, 0, none⟩) | 18 => v = .int .i64 ps | 19 => v = .bool true | 20 => v = .bool true | 21 => v = .pointer (some ⟨g, 2, none⟩) | 22 => v = .slice Aa f.lots.length ca | 23 => v = .int .i64 (f.lots.length : Nat) | 24 => v = .int .i64 ((f.lots.length : Int) - 1) | 25 => v = .pointer (some ⟨w.heap.size, 2, none⟩) | 26 => v = .int .i64 po | 27 => ∃ A cp, v = .slice A 1 cp ∧ W.ownsRow v2.heap.size 3 1 (.slice A 1 cp) 1 ([.int .i64 po]) | 28 => v = .bool q3 | 29 => v = .bool q3 | 30 => v = .bool q3 | 31 => v = .bool q3 | _ => True) (fun oi v b => match oi with | 27 => v.ownBlock = some b | _ => False)) (by kernel_rfl) (by kernel_rfl) (Loose.start (Nat.le_refl _)) ?hstep ?hend
          case hstep =>
            intro oi hoi hom listed vs a W hU hsz hG hcl hl haft K hK
            have hb := ((Below.refl v2.heap.size v2).drew).trans hU.below
            have hF := Loose.stepF hU hG hST hoi hK
            match oi, hoi, hom with
            | 0, hoi, hom =>
              have z4 : a.tmps[4]?.getD undef = .pointer (some ⟨w.heap.size, 0, none⟩) := hU.same 4 (by decide)
              refine wpOp_value (v := .pointer (some ⟨w.heap.size, 0, none⟩)) (W' := W) rfl rfl ?_ (hF _ _ (Below.refl _ _) rfl (fun _ h => False.elim h))
              go_simp
            | 1, hoi, hom =>
              have l0 := haft _ rfl { on := 0, ground := .data } (by simp) rfl
              have p0 := hG.pv 0 (by decide) (live_end hsz rfl l0)
              have s0 : a.tmps[21]?.getD undef = vs 0 := hU.slot 0 (by decide) l0
              have hv0 : vs 0 = .pointer (some ⟨w.heap.size, 0, none⟩) := p0
              rw [hv0] at s0
              have y0 := (hb.cell (p := ⟨w.heap.size, 0, none⟩) (zk)).trans (k0)
              refine wpOp_value (v := .int .i64 ps) (W' := W) rfl rfl ?_ (hF _ _ (Below.refl _ _) rfl (fun _ h => False.elim h))
              go_simp
            | 2, hoi, hom =>
              have l1 := haft _ rfl { on := 1, ground := .data } (by simp) rfl
              have p1 := hG.pv 1 (by decide) (live_end hsz rfl l1)
              have s1 : a.tmps[22]?.getD undef = vs 1 := hU.slot 1 (by decide) l1
              have hv1 : vs 1 = .int .i64 ps := p1
              rw [hv1] at s1
              refine wpOp_value (v := .bool false) (W' := W) rfl rfl ?_ (hF _ _ (Below.refl _ _) rfl (fun _ h => False.elim h))
              go_simp
            | 3, hoi, hom =>
              have l2 := haft _ rfl { on := 2, ground := .data } (by simp) rfl
              have p2 := hG.pv 2 (by decide) (live_end hsz rfl l2)
              have s2 : a.tmps[23]?.getD undef = vs 2 := hU.slot 2 (by decide) l2
              have hv2 : vs 2 = .bool false := p2
              rw [hv2] at s2
              refine wpOp_value (v := .bool false) (W' := W) rfl rfl ?_ (hF _ _ (Below.refl _ _) rfl (fun _ h => False.elim h))
              go_simp
            | 4, hoi, hom =>
              have l3 := haft _ rfl { on := 3, ground := .guard } (by simp) rfl
              have p3 := hG.pv 3 (by decide) (live_end hsz rfl l3)
              have s3 : a.tmps[24]?.getD undef = vs 3 := hU.slot 3 (by decide) l3
              have hv3 : vs 3 = .bool false := p3
              rw [hv3] at s3
              refine wpOp_unwanted rfl ?_ (hF _ _ (Below.refl _ _) rfl (fun _ h => False.elim h))
              refine wanted_no (j := 3) (d := 24) ?_ ?_ s3 <;> rfl
            | 5, hoi, hom =>
              have l3 := haft _ rfl { on := 3, ground := .guard } (by simp) rfl
              have p3 := hG.pv 3 (by decide) (live_end hsz rfl l3)
              have s3 : a.tmps[24]?.getD undef = vs 3 := hU.slot 3 (by decide) l3
              have hv3 : vs 3 = .bool false := p3
              rw [hv3] at s3
              refine wpOp_unwanted rfl ?_ (hF _ _ (Below.refl _ _) rfl (fun _ h => False.elim h))
              refine wanted_no (j := 3) (d := 24) ?_ ?_ s3 <;> rfl
            | 6, hoi, hom =>
              have l3 := haft _ rfl { on := 3, ground := .guard } (by simp) rfl
              have p3 := hG.pv 3 (by decide) (live_end hsz rfl l3)
              have s3 : a.tmps[24]?.getD undef = vs 3 := hU.slot 3 (by decide) l3
              have hv3 : vs 3 = .bool false := p3
              rw [hv3] at s3
              refine wpOp_unwanted rfl ?_ (hF _ _ (Below.refl _ _) rfl (fun _ h => False.elim h))
              refine wanted_no (j := 3) (d := 24) ?_ ?_ s3 <;> rfl
            | 7, hoi, hom =>
              have l3 := haft _ rfl { on := 3, ground := .guard } (by simp) rfl
              have p3 := hG.pv 3 (by decide) (live_end hsz rfl l3)
              have s3 : a.tmps[24]?.getD undef = vs 3 := hU.slot 3 (by decide) l3
              have hv3 : vs 3 = .bool false := p3
              rw [hv3] at s3
              refine wpOp_unwanted rfl ?_ (hF _ _ (Below.refl _ _) rfl (fun _ h => False.elim h))
              refine wanted_no (j := 3) (d := 24) ?_ ?_ s3 <;> rfl
            | 8, hoi, hom =>
              have l3 := haft _ rfl { on := 3, ground := .guard } (by simp) rfl
              have p3 := hG.pv 3 (by decide) (live_end hsz rfl l3)
              have s3 : a.tmps[24]?.getD undef = vs 3 := hU.slot 3 (by decide) l3
              have hv3 : vs 3 = .bool false := p3
              rw [hv3] at s3
              refine wpOp_unwanted rfl ?_ (hF _ _ (Below.refl _ _) rfl (fun _ h => False.elim h))
              refine wanted_no (j := 3) (d := 24) ?_ ?_ s3 <;> rfl
            | 9, hoi, hom =>
              have l3 := haft _ rfl { on := 3, ground := .guard } (by simp) rfl
              have p3 := hG.pv 3 (by decide) (live_end hsz rfl l3)
              have s3 : a.tmps[24]?.getD undef = vs 3 := hU.slot 3 (by decide) l3
              have hv3 : vs 3 = .bool false := p3
              rw [hv3] at s3
              refine wpOp_unwanted rfl ?_ (hF _ _ (Below.refl _ _) rfl (fun _ h => False.elim h))
              refine wanted_no (j := 3) (d := 24) ?_ ?_ s3 <;> rfl
            | 10, hoi, hom =>
              have l3 := haft _ rfl { on := 3, ground := .guard } (by simp) rfl
              have p3 := hG.pv 3 (by decide) (live_end hsz rfl l3)
              have s3 : a.tmps[24]?.getD undef = vs 3 := hU.slot 3 (by decide) l3
              have hv3 : vs 3 = .bool false := p3
              rw [hv3] at s3
              refine wpOp_unwanted rfl ?_ (hF _ _ (Below.refl _ _) rfl (fun _ h => False.elim h))
              refine wanted_no (j := 3) (d := 24) ?_ ?_ s3 <;> rfl
            | 11, hoi, hom =>
              have l3 := haft _ rfl { on := 3, ground := .guard } (by simp) rfl
              have p3 := hG.pv 3 (by decide) (live_end hsz rfl l3)
              have s3 : a.tmps[24]?.getD undef = vs 3 := hU.slot 3 (by decide) l3
              have hv3 : vs 3 = .bool false := p3
              rw [hv3] at s3
              refine wpOp_unwanted rfl ?_ (hF _ _ (Below.refl _ _) rfl (fun _ h => False.elim h))
              refine wanted_no (j := 3) (d := 24) ?_ ?_ s3 <;> rfl
            | 12, hoi, hom =>
              have l3 := haft _ rfl { on := 3, ground := .guard } (by simp) rfl
              have p3 := hG.pv 3 (by decide) (live_end hsz rfl l3)
              have s3 : a.tmps[24]?.getD undef = vs 3 := hU.slot 3 (by decide) l3
              have hv3 : vs 3 = .bool false := p3
              rw [hv3] at s3
              refine wpOp_unwanted rfl ?_ (hF _ _ (Below.refl _ _) rfl (fun _ h => False.elim h))
              refine wanted_no (j := 3) (d := 24) ?_ ?_ s3 <;> rfl
            | 13, hoi, hom =>
              have l3 := haft _ rfl { on := 3, ground := .guard } (by simp) rfl
              have p3 := hG.pv 3 (by decide) (live_end hsz rfl l3)
              have s3 : a.tmps[24]?.getD undef = vs 3 := hU.slot 3 (by decide) l3
              have hv3 : vs 3 = .bool false := p3
              rw [hv3] at s3
              refine wpOp_unwanted rfl ?_ (hF _ _ (Below.refl _ _) rfl (fun _ h => False.elim h))
              refine wanted_no (j := 3) (d := 24) ?_ ?_ s3 <;> rfl
            | 14, hoi, hom =>
              have l3 := haft _ rfl { on := 3, ground := .guard } (by simp) rfl
              have p3 := hG.pv 3 (by decide) (live_end hsz rfl l3)
              have s3 : a.tmps[24]?.getD undef = vs 3 := hU.slot 3 (by decide) l3
              have hv3 : vs 3 = .bool false := p3
              rw [hv3] at s3
              refine wpOp_unwanted rfl ?_ (hF _ _ (Below.refl _ _) rfl (fun _ h => False.elim h))
              refine wanted_no (j := 3) (d := 24) ?_ ?_ s3 <;> rfl
            | 15, hoi, hom =>
              have l3 := haft _ rfl { on := 3, ground := .data } (by simp) rfl
              have p3 := hG.pv 3 (by decide) (live_end hsz rfl l3)
              have s3 : a.tmps[24]?.getD undef = vs 3 := hU.slot 3 (by decide) l3
              have hv3 : vs 3 = .bool false := p3
              rw [hv3] at s3
              have l14 := haft _ rfl { on := 14, ground := .data } (by simp) rfl
              have p14 := hG.pv 14 (by decide) (live_end hsz rfl l14)
              have s14 : a.tmps[35]?.getD undef = vs 14 := hU.slot 14 (by decide) l14
              have hv14 : vs 14 = undef := p14
              rw [hv14] at s14
              refine wpOp_value (v := .bool false) (W' := W) rfl rfl ?_ (hF _ _ (Below.refl _ _) rfl (fun _ h => False.elim h))
              go_simp
            | 16, hoi, hom =>
              have l15 := haft _ rfl { on := 15, ground := .data } (by simp) rfl
              have p15 := hG.pv 15 (by decide) (live_end hsz rfl l15)
              have s15 : a.tmps[36]?.getD undef = vs 15 := hU.slot 15 (by decide) l15
              have hv15 : vs 15 = .bool false := p15
              rw [hv15] at s15
              refine wpOp_value (v := .bool false) (W' := W) rfl rfl ?_ (hF _ _ (Below.refl _ _) rfl (fun _ h => False.elim h))
              go_simp
            | 17, hoi, hom =>
              have l16 := haft _ rfl { on := 16, ground := .guard } (by simp) rfl
              have p16 := hG.pv 16 (by decide) (live_end hsz rfl l16)
              have s16 : a.tmps[37]?.getD undef = vs 16 := hU.slot 16 (by decide) l16
              have hv16 : vs 16 = .bool false := p16
              rw [hv16] at s16
              have z4 : a.tmps[4]?.getD undef = .pointer (some ⟨w.heap.size, 0, none⟩) := hU.same 4 (by decide)
              refine wpOp_wanted (v := .pointer (some ⟨w.heap.size, 0, none⟩)) (W' := W) rfl ?_ ?_ (hF _ _ (Below.refl _ _) rfl (fun _ h => False.elim h))
              · refine wanted_yes (j := 16) (d := 37) ?_ ?_ s16 <;> rfl
              go_simp
            | 18, hoi, hom =>
              have l16 := haft _ rfl { on := 16, ground := .guard } (by simp) rfl
              have p16 := hG.pv 16 (by decide) (live_end hsz rfl l16)
              have s16 : a.tmps[37]?.getD undef = vs 16 := hU.slot 16 (by decide) l16
              have hv16 : vs 16 = .bool false := p16
              rw [hv16] at s16
              have l17 := haft _ rfl { on := 17, ground := .data } (by simp) rfl
              have p17 := hG.pv 17 (by decide) (live_end hsz rfl l17)
              have s17 : a.tmps[38]?.getD undef = vs 17 := hU.slot 17 (by decide) l17
              have hv17 : vs 17 = .pointer (some ⟨w.heap.size, 0, none⟩) := p17
              rw [hv17] at s17
              have y0 := (hb.cell (p := ⟨w.heap.size, 0, none⟩) (zk)).trans (k0)
              refine wpOp_wanted (v := .int .i64 ps) (W' := W) rfl ?_ ?_ (hF _ _ (Below.refl _ _) rfl (fun _ h => False.elim h))
              · refine wanted_yes (j := 16) (d := 37) ?_ ?_ s16 <;> rfl
              go_simp
            | 19, hoi, hom =>
              have l16 := haft _ rfl { on := 16, ground := .guard } (by simp) rfl
              have p16 := hG.pv 16 (by decide) (live_end hsz rfl l16)
              have s16 : a.tmps[37]?.getD undef = vs 16 := hU.slot 16 (by decide) l16
              have hv16 : vs 16 = .bool false := p16
              rw [hv16] at s16
              have l18 := haft _ rfl { on := 18, ground := .data } (by simp) rfl
              have p18 := hG.pv 18 (by decide) (live_end hsz rfl l18)
              have s18 : a.tmps[39]?.getD undef = vs 18 := hU.slot 18 (by decide) l18
              have hv18 : vs 18 = .int .i64 ps := p18
              rw [hv18] at s18
              refine wpOp_wanted (v := .bool true) (W' := W) rfl ?_ ?_ (hF _ _ (Below.refl _ _) rfl (fun _ h => False.elim h))
              · refine wanted_yes (j := 16) (d := 37) ?_ ?_ s16 <;> rfl
              go_simp
            | 20, hoi, hom =>
              have l16 := haft _ rfl { on := 16, ground := .guard } (by simp) rfl
              have p16 := hG.pv 16 (by decide) (live_end hsz rfl l16)
              have s16 : a.tmps[37]?.getD undef = vs 16 := hU.slot 16 (by decide) l16
              have hv16 : vs 16 = .bool false := p16
              rw [hv16] at s16
              have l19 := haft _ rfl { on := 19, ground := .data } (by simp) rfl
              have p19 := hG.pv 19 (by decide) (live_end hsz rfl l19)
              have s19 : a.tmps[40]?.getD undef = vs 19 := hU.slot 19 (by decide) l19
              have hv19 : vs 19 = .bool true := p19
              rw [hv19] at s19
              refine wpOp_wanted (v := .bool true) (W' := W) rfl ?_ ?_ (hF _ _ (Below.refl _ _) rfl (fun _ h => False.elim h))
              · refine wanted_yes (j := 16) (d := 37) ?_ ?_ s16 <;> rfl
              go_simp
            | 21, hoi, hom =>
              have l20 := haft _ rfl { on := 20, ground := .guard } (by simp) rfl
              have p20 := hG.pv 20 (by decide) (live_end hsz rfl l20)
              have s20 : a.tmps[41]?.getD undef = vs 20 := hU.slot 20 (by decide) l20
              have hv20 : vs 20 = .bool true := p20
              rw [hv20] at s20
              have z2 : a.tmps[2]?.getD undef = .pointer (some ⟨g, 0, none⟩) := hU.same 2 (by decide)
              refine wpOp_wanted (v := .pointer (some ⟨g, 2, none⟩)) (W' := W) rfl ?_ ?_ (hF _ _ (Below.refl _ _) rfl (fun _ h => False.elim h))
              · refine wanted_yes (j := 20) (d := 41) ?_ ?_ s20 <;> rfl
              go_simp
            | 22, hoi, hom =>
              have l20 := haft _ rfl { on := 20, ground := .guard } (by simp) rfl
              have p20 := hG.pv 20 (by decide) (live_end hsz rfl l20)
              have s20 : a.tmps[41]?.getD undef = vs 20 := hU.slot 20 (by decide) l20
              have hv20 : vs 20 = .bool true := p20
              rw [hv20] at s20
              have l21 := haft _ rfl { on := 21, ground := .data } (by simp) rfl
              have p21 := hG.pv 21 (by decide) (live_end hsz rfl l21)
              have s21 : a.tmps[42]?.getD undef = vs 21 := hU.slot 21 (by decide) l21
              have hv21 : vs 21 = .pointer (some ⟨g, 2, none⟩) := p21
              rw [hv21] at s21
              have y0 := (hb.cell (p := ⟨g, 2, none⟩) (z)).trans (x2)
              refine wpOp_wanted (v := .slice Aa f.lots.length ca) (W' := W) rfl ?_ ?_ (hF _ _ (Below.refl _ _) rfl (fun _ h => False.elim h))
              · refine wanted_yes (j := 20) (d := 41) ?_ ?_ s20 <;> rfl
              go_simp
            | 23, hoi, hom =>
              have l20 := haft _ rfl { on := 20, ground := .guard } (by simp) rfl
              have p20 := hG.pv 20 (by decide) (live_end hsz rfl l20)
              have s20 : a.tmps[41]?.getD undef = vs 20 := hU.slot 20 (by decide) l20
              have hv20 : vs 20 = .bool true := p20
              rw [hv20] at s20
              have l22 := haft _ rfl { on := 22, ground := .data } (by simp) rfl
              have p22 := hG.pv 22 (by decide) (live_end hsz rfl l22)
              have s22 : a.tmps[43]?.getD undef = vs 22 := hU.slot 22 (by decide) l22
              have hv22 : vs 22 = .slice Aa f.lots.length ca := p22
              rw [hv22] at s22
              refine wpOp_wanted (v := .int .i64 (f.lots.length : Nat)) (W' := W) rfl ?_ ?_ (hF _ _ (Below.refl _ _) rfl (fun _ h => False.elim h))
              · refine wanted_yes (j := 20) (d := 41) ?_ ?_ s20 <;> rfl
              go_simp
            | 24, hoi, hom =>
              have l20 := haft _ rfl { on := 20, ground := .guard } (by simp) rfl
              have p20 := hG.pv 20 (by decide) (live_end hsz rfl l20)
              have s20 : a.tmps[41]?.getD undef = vs 20 := hU.slot 20 (by decide) l20
              have hv20 : vs 20 = .bool true := p20
              rw [hv20] at s20
              have l23 := haft _ rfl { on := 23, ground := .data } (by simp) rfl
              have p23 := hG.pv 23 (by decide) (live_end hsz rfl l23)
              have s23 : a.tmps[44]?.getD undef = vs 23 := hU.slot 23 (by decide) l23
              have hv23 : vs 23 = .int .i64 (f.lots.length : Nat) := p23
              rw [hv23] at s23
              refine wpOp_wanted (v := .int .i64 ((f.lots.length : Int) - 1)) (W' := W) rfl ?_ ?_ (hF _ _ (Below.refl _ _) rfl (fun _ h => False.elim h))
              · refine wanted_yes (j := 20) (d := 41) ?_ ?_ s20 <;> rfl
              go_simp
            | 25, hoi, hom =>
              have l20 := haft _ rfl { on := 20, ground := .guard } (by simp) rfl
              have p20 := hG.pv 20 (by decide) (live_end hsz rfl l20)
              have s20 : a.tmps[41]?.getD undef = vs 20 := hU.slot 20 (by decide) l20
              have hv20 : vs 20 = .bool true := p20
              rw [hv20] at s20
              have z4 : a.tmps[4]?.getD undef = .pointer (some ⟨w.heap.size, 0, none⟩) := hU.same 4 (by decide)
              refine wpOp_wanted (v := .pointer (some ⟨w.heap.size, 2, none⟩)) (W' := W) rfl ?_ ?_ (hF _ _ (Below.refl _ _) rfl (fun _ h => False.elim h))
              · refine wanted_yes (j := 20) (d := 41) ?_ ?_ s20 <;> rfl
              go_simp
            | 26, hoi, hom =>
              have l20 := haft _ rfl { on := 20, ground := .guard } (by simp) rfl
              have p20 := hG.pv 20 (by decide) (live_end hsz rfl l20)
              have s20 : a.tmps[41]?.getD undef = vs 20 := hU.slot 20 (by decide) l20
              have hv20 : vs 20 = .bool true := p20
              rw [hv20] at s20
              have l25 := haft _ rfl { on := 25, ground := .data } (by simp) rfl
              have p25 := hG.pv 25 (by decide) (live_end hsz rfl l25)
              have s25 : a.tmps[46]?.getD undef = vs 25 := hU.slot 25 (by decide) l25
              have hv25 : vs 25 = .pointer (some ⟨w.heap.size, 2, none⟩) := p25
              rw [hv25] at s25
              have y0 := (hb.cell (p := ⟨w.heap.size, 2, none⟩) (zk)).trans (k2)
              refine wpOp_wanted (v := .int .i64 po) (W' := W) rfl ?_ ?_ (hF _ _ (Below.refl _ _) rfl (fun _ h => False.elim h))
              · refine wanted_yes (j := 20) (d := 41) ?_ ?_ s20 <;> rfl
              go_simp
            | 27, hoi, hom =>
              have l20 := haft _ rfl { on := 20, ground := .guard } (by simp) rfl
              have p20 := hG.pv 20 (by decide) (live_end hsz rfl l20)
              have s20 : a.tmps[41]?.getD undef = vs 20 := hU.slot 20 (by decide) l20
              have hv20 : vs 20 = .bool true := p20
              rw [hv20] at s20
              have l26 := haft _ rfl { on := 26, ground := .data } (by simp) rfl
              have p26 := hG.pv 26 (by decide) (live_end hsz rfl l26)
              have s26 : a.tmps[47]?.getD undef = vs 26 := hU.slot 26 (by decide) l26
              have hv26 : vs 26 = .int .i64 po := p26
              rw [hv26] at s26
              refine wpOp_wanted (v := .slice (some ⟨W.heap.size, 0, none⟩) 1 1) (W' := (W.alloc (.cells #[.int .i64 po] 3))) rfl ?_ ?_ (hF _ _ ((Below.refl _ _).alloc (Nat.le_refl _) _) (own_lit hG.base #[.int .i64 po] 1 rfl (by simp [maxLen])) (fun b h => by rw [← own_new h]; exact ⟨by simp, .inl (Nat.le_refl _)⟩))
              · refine wanted_yes (j := 20) (d := 41) ?_ ?_ s20 <;> rfl
              go_simp
            | 28, hoi, hom =>
              have l20 := haft _ rfl { on := 20, ground := .guard } (by simp) rfl
              have p20 := hG.pv 20 (by decide) (live_end hsz rfl l20)
              have s20 : a.tmps[41]?.getD undef = vs 20 := hU.slot 20 (by decide) l20
              have hv20 : vs 20 = .bool true := p20
              rw [hv20] at s20
              have l24 := haft _ rfl { on := 24, ground := .data } (by simp) rfl
              have p24 := hG.pv 24 (by decide) (live_end hsz rfl l24)
              have s24 : a.tmps[45]?.getD undef = vs 24 := hU.slot 24 (by decide) l24
              have hv24 : vs 24 = .int .i64 ((f.lots.length : Int) - 1) := p24
              rw [hv24] at s24
              have l27 := haft _ rfl { on := 27, ground := .data } (by simp) rfl
              have p27 := hG.pv 27 (by decide) (live_end hsz rfl l27)
              have s27 : a.tmps[48]?.getD undef = vs 27 := hU.slot 27 (by decide) l27
              obtain ⟨PA27, kp27, hv27, hi27⟩ := p27
              rw [hv27] at s27
              refine wpOp_enterW (f := 33) (args := #[.int .i64 0, .int .i64 ((f.lots.length : Int) - 1), .slice PA27 1 kp27]) (W' := W) rfl ?_ ?_ (((off_any (ints_own (xs := [po]) hi27) 0 ((f.lots.length : Int) - 1)).mono (fun e w'' h => (⟨h.1.trans (by simp [Q3.out]), h.2⟩ : e = .returned (.bool q3) ∧ Below W.heap.size W w''))).mono (fun e w'' h => ?_))
              · refine wanted_yes (j := 20) (d := 41) ?_ ?_ s20 <;> rfl
              · go_simp
              · obtain ⟨he, hbw⟩ := h
                exact ⟨_, he, hF _ _ hbw rfl (fun _ h => False.elim h)⟩
            | 29, hoi, hom =>
              have l16 := haft _ rfl { on := 16, ground := .guard } (by simp) rfl
              have p16 := hG.pv 16 (by decide) (live_end hsz rfl l16)
              have s16 : a.tmps[37]?.getD undef = vs 16 := hU.slot 16 (by decide) l16
              have hv16 : vs 16 = .bool false := p16
              rw [hv16] at s16
              have l20 := haft _ rfl { on := 20, ground := .data } (by simp) rfl
              have p20 := hG.pv 20 (by decide) (live_end hsz rfl l20)
              have s20 : a.tmps[41]?.getD undef = vs 20 := hU.slot 20 (by decide) l20
              have hv20 : vs 20 = .bool true := p20
              rw [hv20] at s20
              have l28 := haft _ rfl { on := 28, ground := .data } (by simp) rfl
              have p28 := hG.pv 28 (by decide) (live_end hsz rfl l28)
              have s28 : a.tmps[49]?.getD undef = vs 28 := hU.slot 28 (by decide) l28
              have hv28 : vs 28 = .bool q3 := p28
              rw [hv28] at s28
              refine wpOp_wanted (v := .bool q3) (W' := W) rfl ?_ ?_ (hF _ _ (Below.refl _ _) rfl (fun _ h => False.elim h))
              · refine wanted_yes (j := 16) (d := 37) ?_ ?_ s16 <;> rfl
              go_simp
            | 30, hoi, hom =>
              have l16 := haft _ rfl { on := 16, ground := .data } (by simp) rfl
              have p16 := hG.pv 16 (by decide) (live_end hsz rfl l16)
              have s16 : a.tmps[37]?.getD undef = vs 16 := hU.slot 16 (by decide) l16
              have hv16 : vs 16 = .bool false := p16
              rw [hv16] at s16
              have l29 := haft _ rfl { on := 29, ground := .data } (by simp) rfl
              have p29 := hG.pv 29 (by decide) (live_end hsz rfl l29)
              have s29 : a.tmps[50]?.getD undef = vs 29 := hU.slot 29 (by decide) l29
              have hv29 : vs 29 = .bool q3 := p29
              rw [hv29] at s29
              refine wpOp_value (v := .bool q3) (W' := W) rfl rfl ?_ (hF _ _ (Below.refl _ _) rfl (fun _ h => False.elim h))
              go_simp
            | 31, hoi, hom =>
              have l30 := haft _ rfl { on := 30, ground := .data } (by simp) rfl
              have p30 := hG.pv 30 (by decide) (live_end hsz rfl l30)
              have s30 : a.tmps[51]?.getD undef = vs 30 := hU.slot 30 (by decide) l30
              have hv30 : vs 30 = .bool q3 := p30
              rw [hv30] at s30
              refine wpOp_value (v := .bool q3) (W' := W) rfl rfl ?_ (hF _ _ (Below.refl _ _) rfl (fun _ h => False.elim h))
              go_simp
            | oi + 32, hoi, hom => exact absurd (of_decide_eq_true hom) (by omega)
          case hend =>
            intro listed vs a W hG0 hG hpre
            have hb := ((Below.refl v2.heap.size v2).drew).trans hG0.below
            have hact := hG0.act
            have hT := hG0.lst hpre 0 #[true, true, true, true, true, true, true, true, true, true, true, true, true, true, true, true, true, true, true, true, true, true, true, true, true, true, true, true, true, true, true, true] rfl (by kernel_rfl) (hpre 0 (by decide) (by decide))
            rw [hG0.ix hT (l := [0, 1, 2, 3, 4, 5, 6, 7, 8, 9, 10, 11, 12, 13, 14, 15, 16, 17, 18, 19, 20, 21, 22, 23, 24, 25, 26, 27, 28, 29, 30, 31]) (by kernel_rfl)] at hact
            rw [hG0.lo hT (k := 0) (by kernel_rfl)]
            have p31 := hG.pv 31 (by decide) (live_end hG.size rfl (hpre 31 (by decide) (by decide)))
            subst hT
            refine wpAny_done (by kernel_rfl) ?_ _
            exact ⟨rfl, vs, hact, hb, p31⟩
        case imp =>
        rintro act v3 ⟨vs, rfl, hb, hv31⟩
        simp only [setAll, List.setIfInBounds_toArray, List.set_cons_succ, List.set_cons_zero, List.getD_cons_succ, List.getD_cons_zero]
        rw [hv31]
        have HB := hide (HB.out.trans (hb.mono HB.out.size))
        have HK := hide (HK.out.next hb)
        clear hb k0 k1 k2 zk z x2
        have k0 : v3.cell? ⟨w.heap.size, 0, none⟩ = some (.int .i64 ps) := HK.out.at_ 0
        have k1 : v3.cell? ⟨w.heap.size, 1, none⟩ = some (.int .i64 (k : Int)) := HK.out.at_ 1
        have k2 : v3.cell? ⟨w.heap.size, 2, none⟩ = some (.int .i64 po) := HK.out.at_ 2
        have zk := HK.out.lt
        cases q3
        · by_cases hkp : (k : Int) = po
          · have he1 : ((k : Int) == po) = true := by simpa using hkp
            have HE := hide hkp
            clear hkp
            go_wp2_with fail
            go_ret
            exact ⟨ret_i (by rw [HPE.out, if_neg (Int.not_lt.2 HPS.out), if_pos HE.out]; rfl), HB.out⟩
          · have he1 : ((k : Int) == po) = false := by simpa using hkp
            have HE := hide hkp
            clear hkp
            go_wp2_with fail
            go_ret
            exact ⟨ret_i (by rw [HPE.out, if_neg (Int.not_lt.2 HPS.out), if_neg HE.out]; rfl), HB.out⟩
        · go_wp2_with fail
          go_ret
          exact ⟨ret_i (by rw [HPE.out, if_neg (Int.not_lt.2 HPS.out)]; rfl), HB.out⟩
    · go_wp2_with (go_at_call 33; refine (off_1 (by simp) _ _ _).mono ?_; rintro e v2 ⟨rfl, hb⟩; rw [Q2.out])
      go_ret
      exact ⟨ret_i (by rw [HPE.out]; rfl), HB.out.trans (hb.mono HB.out.size)⟩
  · go_wp2_with (go_at_call 33; refine (off_1 (by simp) _ _ _).mono ?_; rintro e v1 ⟨rfl, hb⟩; rw [Q1.out])
    go_ret
    exact ⟨ret_i (by rw [HPE.out]; rfl), HB.out.trans (hb.mono HB.out.size)⟩
end Go.Proofs.Ytllmahcanipcpaa
/- The contract of claim.Check. -/
namespace Go.Proofs.Ytllmahcanipcpaa
open Go.RowKit
attribute [local go_sem ↓] Go.wp_at_zero Go.wp_at_succ

set_option maxHeartbeats 4000000 in
set_option maxRecDepth 100000 in
theorem check_any {f : File} {a : FA} {w : World} (h : FileV w w.heap.size f a) :
    Calls Try.prog 8 #[fileVal f a] w fun e w' => e = .returned (.tuple #[.int .i64 (checkM f).1, .int .i64 (checkM f).2.1, .int .i64 (checkM f).2.2]) ∧ Below w.heap.size w w' := by
  have HPE := hide (show checkM f = if (failM (partyE f) f.parties 4).2 ≠ 0 then (1, failM (partyE f) f.parties 4) else if f.untils.length ≠ f.parties.length then (2, 0, 3) else if (failM dayE f.untils 4).2 ≠ 0 then (2, failM dayE f.untils 4)
    else if (failM (lotE f) f.lots 4).2 ≠ 0 then (3, failM (lotE f) f.lots 4) else if (failM (paperE f) f.papers 5).2 ≠ 0 then (4, failM (paperE f) f.papers 5) else if (failM (claimE f) f.claims 5).2 ≠ 0 then (5, failM (claimE f) f.claims 5) else (0, 0, 0) from rfl)
  have HX := hide (BoxF.made h)
  have HB := hide (show Below w.heap.size w (w.alloc (.cells (fileCells f a) 28)) from (Below.refl _ _).alloc (Nat.le_refl _) _)
  have hm1 := h.m1
  have hm2 := h.m2
  unfold maxLen at hm1 hm2
  clear h
  generalize hq1 : failM (partyE f) f.parties 4 = r1 at *
  obtain ⟨i1, e1⟩ := r1
  have Q1 := hide hq1
  clear hq1
  generalize hq2 : failM dayE f.untils 4 = r2 at *
  obtain ⟨i2, e2⟩ := r2
  have Q2 := hide hq2
  clear hq2
  generalize hq3 : failM (lotE f) f.lots 4 = r3 at *
  obtain ⟨i3, e3⟩ := r3
  have Q3 := hide hq3
  clear hq3
  generalize hq4 : failM (paperE f) f.papers 5 = r4 at *
  obtain ⟨i4, e4⟩ := r4
  have Q4 := hide hq4
  clear hq4
  generalize hq5 : failM (claimE f) f.claims 5 = r5 at *
  obtain ⟨i5, e5⟩ := r5
  have Q5 := hide hq5
  clear hq5
  go_enter Try.func8, Try.ntmps8
  go_upto_region 1 with (fail)
  generalize (w.alloc (.cells #[.slice a.A1 f.parties.length a.c1, .slice a.A2 f.untils.length a.c2, .slice a.A3 f.lots.length a.c3, .slice a.A4 f.papers.length a.c4, .slice a.A5 f.claims.length a.c5] 28)) = v0 at *
  obtain ⟨z, x0, _, _, _, _⟩ := HX.out.cells
  by_cases he1 : e1 = 0
  · have E1 := hide he1
    subst he1
    go_upto_region 4 with (go_at_call 27; refine (failingS_any HX.out.v.parties HX.out.v.m1 4 28 #[.pointer (some ⟨w.heap.size, 0, none⟩)] (partyE f) (fun j W hj hW => party_any (HX.out.next hW) hj) (enters_of Try.func28 (by kernel_rfl) rfl)).mono ?_; rintro e v1 ⟨rfl, hb⟩; rw [Q1.out])
    have HB := hide (HB.out.trans (hb.mono HB.out.size)); have HX := hide (HX.out.next hb); clear hb
    obtain ⟨z, x0, x1, _, _, _⟩ := HX.out.cells
    by_cases hl : f.untils.length = f.parties.length
    · have hd : ((f.untils.length : Int) == (f.parties.length : Int)) = true := by simp [hl]
      have HL := hide hl
      clear hl
      go_upto_region 6 with (fail)
      clear hd z x0 x1
      obtain ⟨z, _, x1, _, _, _⟩ := HX.out.cells
      by_cases he2 : e2 = 0
      · have E2 := hide he2
        subst he2
        go_upto_region 9 with (go_at_call 31; refine (failingI_any HX.out.v.untils HX.out.v.m2 4 32 #[] dayE (fun j W _ _ => day_any _ _ _) (enters_of Try.func32 (by kernel_rfl) rfl)).mono ?_; rintro e v2 ⟨rfl, hb⟩; rw [Q2.out])
        have HB := hide (HB.out.trans (hb.mono HB.out.size)); have HX := hide (HX.out.next hb); clear hb
        clear z x1
        obtain ⟨z, _, _, x2, _, _⟩ := HX.out.cells
        by_cases he3 : e3 = 0
        · have E3 := hide he3
          subst he3
          go_upto_region 12 with (go_at_call 34; refine (failingL_any HX.out.v.lots HX.out.v.m3 4 35 #[.pointer (some ⟨w.heap.size, 0, none⟩)] (lotE f) (fun j W hj hW => lot_any (HX.out.next hW) j _ ((HX.out.next hW).v.routes j hj) (HX.out.v.fit j hj)) (enters_of Try.func35 (by kernel_rfl) rfl)).mono ?_; rintro e v3 ⟨rfl, hb⟩; rw [Q3.out])
          have HB := hide (HB.out.trans (hb.mono HB.out.size)); have HX := hide (HX.out.next hb); clear hb
          clear z x2
          obtain ⟨z, _, _, _, x3, _⟩ := HX.out.cells
          by_cases he4 : e4 = 0
          · have E4 := hide he4
            subst he4
            go_upto_region 15 with (go_at_call 39; refine (failingP_any HX.out.v.papers HX.out.v.m4 5 40 #[.pointer (some ⟨w.heap.size, 0, none⟩)] (paperE f) (fun j W hj hW => paper_any (HX.out.next hW) j _) (enters_of Try.func40 (by kernel_rfl) rfl)).mono ?_; rintro e v4 ⟨rfl, hb⟩; rw [Q4.out])
            have HB := hide (HB.out.trans (hb.mono HB.out.size)); have HX := hide (HX.out.next hb); clear hb
            clear z x3
            obtain ⟨z, _, _, _, _, x4⟩ := HX.out.cells
            by_cases he5 : e5 = 0
            · have E5 := hide he5
              subst he5
              go_wp2_with (go_at_call 42; refine (failingC_any HX.out.v.claims HX.out.v.m5 5 43 #[.pointer (some ⟨w.heap.size, 0, none⟩)] (claimE f) (fun j W hj hW => claimE_any (HX.out.next hW) j _) (enters_of Try.func43 (by kernel_rfl) rfl)).mono ?_; rintro e v5 ⟨rfl, hb⟩; rw [Q5.out])
              have HB := hide (HB.out.trans (hb.mono HB.out.size)); have HX := hide (HX.out.next hb); clear hb
              go_ret3
              exact ⟨ret_t3 (by rw [HPE.out, if_neg (by simp), if_neg (Classical.not_not.2 HL.out), if_neg (by simp), if_neg (by simp), if_neg (by simp), if_neg (by simp)]) (by rw [HPE.out, if_neg (by simp), if_neg (Classical.not_not.2 HL.out), if_neg (by simp), if_neg (by simp), if_neg (by simp), if_neg (by simp)]) (by rw [HPE.out, if_neg (by simp), if_neg (Classical.not_not.2 HL.out), if_neg (by simp), if_neg (by simp), if_neg (by simp), if_neg (by simp)]), HB.out⟩
            · have hn5 : (e5 == 0) = false := by simpa using he5
              have E5 := hide he5
              clear he5
              go_wp2_with (go_at_call 42; refine (failingC_any HX.out.v.claims HX.out.v.m5 5 43 #[.pointer (some ⟨w.heap.size, 0, none⟩)] (claimE f) (fun j W hj hW => claimE_any (HX.out.next hW) j _) (enters_of Try.func43 (by kernel_rfl) rfl)).mono ?_; rintro e v5 ⟨rfl, hb⟩; rw [Q5.out])
              have HB := hide (HB.out.trans (hb.mono HB.out.size)); have HX := hide (HX.out.next hb); clear hb
              go_ret3
              exact ⟨ret_t3 (by rw [HPE.out, if_neg (by simp), if_neg (Classical.not_not.2 HL.out), if_neg (by simp), if_neg (by simp), if_neg (by simp), if_pos E5.out]) (by rw [HPE.out, if_neg (by simp), if_neg (Classical.not_not.2 HL.out), if_neg (by simp), if_neg (by simp), if_neg (by simp), if_pos E5.out]) (by rw [HPE.out, if_neg (by simp), if_neg (Classical.not_not.2 HL.out), if_neg (by simp), if_neg (by simp), if_neg (by simp), if_pos E5.out]), HB.out⟩
          · have hn4 : (e4 == 0) = false := by simpa using he4
            have E4 := hide he4
            clear he4
            go_wp2_with (go_at_call 39; refine (failingP_any HX.out.v.papers HX.out.v.m4 5 40 #[.pointer (some ⟨w.heap.size, 0, none⟩)] (paperE f) (fun j W hj hW => paper_any (HX.out.next hW) j _) (enters_of Try.func40 (by kernel_rfl) rfl)).mono ?_; rintro e v4 ⟨rfl, hb⟩; rw [Q4.out])
            have HB := hide (HB.out.trans (hb.mono HB.out.size)); have HX := hide (HX.out.next hb); clear hb
            go_ret3
            exact ⟨ret_t3 (by rw [HPE.out, if_neg (by simp), if_neg (Classical.not_not.2 HL.out), if_neg (by simp), if_neg (by simp), if_pos E4.out]) (by rw [HPE.out, if_neg (by simp), if_neg (Classical.not_not.2 HL.out), if_neg (by simp), if_neg (by simp), if_pos E4.out]) (by rw [HPE.out, if_neg (by simp), if_neg (Classical.not_not.2 HL.out), if_neg (by simp), if_neg (by simp), if_pos E4.out]), HB.out⟩
        · have hn3 : (e3 == 0) = false := by simpa using he3
          have E3 := hide he3
          clear he3
          go_wp2_with (go_at_call 34; refine (failingL_any HX.out.v.lots HX.out.v.m3 4 35 #[.pointer (some ⟨w.heap.size, 0, none⟩)] (lotE f) (fun j W hj hW => lot_any (HX.out.next hW) j _ ((HX.out.next hW).v.routes j hj) (HX.out.v.fit j hj)) (enters_of Try.func35 (by kernel_rfl) rfl)).mono ?_; rintro e v3 ⟨rfl, hb⟩; rw [Q3.out])
          have HB := hide (HB.out.trans (hb.mono HB.out.size)); have HX := hide (HX.out.next hb); clear hb
          go_ret3
          exact ⟨ret_t3 (by rw [HPE.out, if_neg (by simp), if_neg (Classical.not_not.2 HL.out), if_neg (by simp), if_pos E3.out]) (by rw [HPE.out, if_neg (by simp), if_neg (Classical.not_not.2 HL.out), if_neg (by simp), if_pos E3.out]) (by rw [HPE.out, if_neg (by simp), if_neg (Classical.not_not.2 HL.out), if_neg (by simp), if_pos E3.out]), HB.out⟩
      · have hn2 : (e2 == 0) = false := by simpa using he2
        have E2 := hide he2
        clear he2
        go_wp2_with (go_at_call 31; refine (failingI_any HX.out.v.untils HX.out.v.m2 4 32 #[] dayE (fun j W _ _ => day_any _ _ _) (enters_of Try.func32 (by kernel_rfl) rfl)).mono ?_; rintro e v2 ⟨rfl, hb⟩; rw [Q2.out])
        have HB := hide (HB.out.trans (hb.mono HB.out.size)); have HX := hide (HX.out.next hb); clear hb
        go_ret3
        exact ⟨ret_t3 (by rw [HPE.out, if_neg (by simp), if_neg (Classical.not_not.2 HL.out), if_pos E2.out]) (by rw [HPE.out, if_neg (by simp), if_neg (Classical.not_not.2 HL.out), if_pos E2.out]) (by rw [HPE.out, if_neg (by simp), if_neg (Classical.not_not.2 HL.out), if_pos E2.out]), HB.out⟩
    · have hd : ((f.untils.length : Int) == (f.parties.length : Int)) = false := by simp; omega
      have HL := hide hl
      clear hl
      go_wp2_with fail
      go_ret3
      exact ⟨ret_t3 (by rw [HPE.out, if_neg (by simp), if_pos HL.out]) (by rw [HPE.out, if_neg (by simp), if_pos HL.out]) (by rw [HPE.out, if_neg (by simp), if_pos HL.out]), HB.out⟩
  · have hn1 : (e1 == 0) = false := by simpa using he1
    have E1 := hide he1
    clear he1
    go_wp2_with (go_at_call 27; refine (failingS_any HX.out.v.parties HX.out.v.m1 4 28 #[.pointer (some ⟨w.heap.size, 0, none⟩)] (partyE f) (fun j W hj hW => party_any (HX.out.next hW) hj) (enters_of Try.func28 (by kernel_rfl) rfl)).mono ?_; rintro e v1 ⟨rfl, hb⟩; rw [Q1.out])
    have HB := hide (HB.out.trans (hb.mono HB.out.size)); have HX := hide (HX.out.next hb); clear hb
    go_ret3
    exact ⟨ret_t3 (by rw [HPE.out, if_pos E1.out]) (by rw [HPE.out, if_pos E1.out]) (by rw [HPE.out, if_pos E1.out]), HB.out⟩
end Go.Proofs.Ytllmahcanipcpaa
/- The contract of claim's with: who is where, in a state. -/
namespace Go.Proofs.Ytllmahcanipcpaa
open Go.RowKit

set_option maxHeartbeats 2000000 in
set_option maxRecDepth 100000 in
theorem with_any {w : World} {b k : Nat} {f : File} {a : FA} (h : FileV w w.heap.size f a) (e2 : w.cell? ⟨b, 2, none⟩ = some (.slice a.A3 f.lots.length a.c3)) (s0 s1 s2 s3 : Int) (hk : k < f.lots.length) (hk4 : k < 4) {j : Nat}
    (hs : nth [s0, s1, s2, s3] k = (j : Int)) (hj : j < (nth f.lots k).route.length) :
    Calls Try.prog 50 #[.pointer (some ⟨b, 0, none⟩), .agg #[.int .i64 s0, .int .i64 s1, .int .i64 s2, .int .i64 s3], .int .i64 (k : Int)] w fun e w' => e = .returned (.int .i64 (nth (nth f.lots k).route j)) ∧ Below w.heap.size w w' := by
  have hA : Below w.heap.size w (w.alloc (.cells #[.int .i64 s0, .int .i64 s1, .int .i64 s2, .int .i64 s3] 86)) := (Below.refl _ _).alloc (Nat.le_refl _) _
  have bk : Blk (w.alloc (.cells #[.int .i64 s0, .int .i64 s1, .int .i64 s2, .int .i64 s3] 86)) w.heap.size 86 #[.int .i64 s0, .int .i64 s1, .int .i64 s2, .int .i64 s3] := Blk.made
  have zb := cell_lt e2
  obtain ⟨b3, o3, hA3, hb3, y0, _, _, _⟩ := h.lots.lots hk
  obtain ⟨b4, o4, hA4, hb4, y4⟩ := (h.routes k hk).at_ hj
  have hm4 := (h.routes k hk).bd
  have hm3 := h.m3
  unfold maxLen at hm3
  rw [hA3] at e2
  rw [hA4] at y0
  have e2' := (hA.cell (p := ⟨b, 2, none⟩) zb).trans e2
  have y0' := (hA.cell (p := ⟨b3, o3 + k * 4, none⟩) hb3).trans y0
  have y4' := (hA.cell (p := ⟨b4, o4 + j, none⟩) hb4).trans y4
  have hkc : (w.alloc (.cells #[.int .i64 s0, .int .i64 s1, .int .i64 s2, .int .i64 s3] 86)).cell? ⟨w.heap.size, k, none⟩ = some (.int .i64 (j : Int)) := by
    rw [bk.at_, ← hs]
    match k, hk4 with
    | 0, _ => rfl
    | 1, _ => rfl
    | 2, _ => rfl
    | 3, _ => rfl
  have HB := hide hA
  have hz := bk.lt
  have hk0 : (0 : Int) ≤ (k : Int) := Int.natCast_nonneg _
  have hk1 : (k : Int) < (f.lots.length : Int) := by omega
  have hk2 : (k : Int) < 4 := by omega
  have hj0 : (0 : Int) ≤ (j : Int) := Int.natCast_nonneg _
  have hj1 : (j : Int) < ((nth f.lots k).route.length : Int) := by omega
  clear h hA bk hs e2 y0 y4 hA3 hA4 hb3 hb4 zb
  go_enter Try.func50, Try.ntmps50
  go_upto_region 1 with (fail)
  generalize (w.alloc (.cells #[.int .i64 s0, .int .i64 s1, .int .i64 s2, .int .i64 s3] 86)) = v0 at *
  go_quiet (fail)
  go_wp2_with fail
  go_ret
  exact ⟨rfl, ⟨HB.out.os, HB.out.tape, HB.out.output, HB.out.size, HB.out.block⟩⟩
end Go.Proofs.Ytllmahcanipcpaa
/- The map from places to a number: every entry says the same. -/
namespace Go.Proofs.Ytllmahcanipcpaa
open Go.RowKit

def wfI (x : Int) : Prop := (Lit.int .i64 x).wf = true
theorem wfI_iff (x : Int) : wfI x ↔ -9223372036854775808 ≤ x ∧ x ≤ 9223372036854775807 := by
  unfold wfI
  constructor
  · intro h
    have h' : IntKind.i64.min ≤ x ∧ x ≤ 9223372036854775807 := by simpa [Lit.wf, IntKind.signed, IntKind.bits] using h
    have e : IntKind.i64.min = -9223372036854775808 := by decide
    omega
  · intro h; exact WalkArith.wf_i64 h

def plVal (s : List Int) : Value := .agg #[iv (nth s 0), iv (nth s 1), iv (nth s 2), iv (nth s 3)]
structure PlOk (s : List Int) : Prop where
  len : s.length = 4
  wf : ∀ i, wfI (nth s i)
theorem plVal_inj {s t : List Int} (hs : s.length = 4) (ht : t.length = 4) (h : plVal s = plVal t) : s = t := by
  match s, t, hs, ht with
  | [a, b, c, d], [a', b', c', d'], _, _ => simp [plVal, nth] at h; simp; exact h
theorem Try.laidOut : laidOutB Try.prog = true := by kernel_rfl
theorem Try.rowPl : (86 : TypeId) < Try.prog.types.size := of_decide_eq_true (by kernel_rfl)
theorem Try.widePl : (match Try.prog.underlying 86 with | some (.array _ _) | some (.struct _) => true | _ => false) = true := by kernel_rfl
set_option maxRecDepth 100000 in
theorem Try.keyPl : WideMaps.KeyLaw Try.prog 86 := deep_law_laid Try.laidOut (m := 3) (by omega) Try.rowPl (by kernel_rfl) Try.widePl
theorem Try.keyedPl : Maps.Keyed Try.prog 86 := Maps.Keyed.of_law Try.keyPl
theorem Try.cellsPl : Try.prog.cellsOf 86 = 4 := by kernel_rfl
theorem Try.cellsInt : Try.prog.cellsOf 3 = 1 := by kernel_rfl
theorem Try.sizeTypes : ∃ d, Try.prog.types.size + 1 = d + 2 := ⟨Try.prog.types.size - 1, by have h : 3 ≤ Try.prog.types.size := of_decide_eq_true (by kernel_rfl); omega⟩
theorem Try.keyTypePl : Try.prog.keyType 86 = true := by kernel_rfl
theorem lits_int (d : Nat) {x : Int} (h : wfI x) : Try.prog.keyLits (d + 1) 3 [iv x] = some [.int .i64 x] := by
  have h' : (Lit.int .i64 x).wf = true := h
  unfold Program.keyLits
  simp [Try.underlying3, h']
theorem lits_pl (d : Nat) {a b c e : Int} (ha : wfI a) (hb : wfI b) (hc : wfI c) (he : wfI e) :
    Try.prog.keyLits (d + 2) 86 [iv a, iv b, iv c, iv e] = some [.int .i64 a, .int .i64 b, .int .i64 c, .int .i64 e] := by
  have e4 : List.range 4 = [0, 1, 2, 3] := by decide
  unfold Program.keyLits
  rw [Try.underlying86]
  simp only [Try.cellsPl, Try.cellsInt, e4, List.length_cons, List.length_nil, List.mapM_cons, List.mapM_nil]
  simp [lits_int d ha, lits_int d hb, lits_int d hc, lits_int d he]
theorem plVal_key (s : List Int) (h : PlOk s) : ∃ l, keyOf Try.prog 86 (plVal s) = some l := by
  obtain ⟨d, hd⟩ := Try.sizeTypes
  have hu := Try.underlying86
  have hf : (plVal s).formed Try.prog 86 = true := by simp [plVal, Value.formed, hu, Try.cellsPl]
  have hls : Try.prog.keyLits (d + 2) 86 (plVal s).cells.toList = some [.int .i64 (nth s 0), .int .i64 (nth s 1), .int .i64 (nth s 2), .int .i64 (nth s 3)] := lits_pl d (h.wf 0) (h.wf 1) (h.wf 2) (h.wf 3)
  refine ⟨.string (keyBytes [.int .i64 (nth s 0), .int .i64 (nth s 1), .int .i64 (nth s 2), .int .i64 (nth s 3)]), ?_⟩
  unfold keyOf
  rw [hu]
  simp only [Try.keyTypePl, hf, hd, hls]
  simp

/-- Block b is a map of which every entry says V. -/
def Known (w : World) (b : Nat) (V : List Int → Int) : Prop :=
  ∃ es clock, w.heap[b]? = some (.map es clock) ∧ ∀ e ∈ es.toList, ∃ s : List Int, PlOk s ∧ e.key = plVal s ∧ e.val = iv (V s)

section
variable {w w' : World} {b : Nat} {V : List Int → Int}
theorem Known.lt (h : Known w b V) : b < w.heap.size := by
  obtain ⟨es, c, hb, _⟩ := h
  exact (Array.getElem?_eq_some_iff.1 hb).1
theorem Known.block (h : Known w b V) (hk : w'.heap[b]? = w.heap[b]?) : Known w' b V := by
  obtain ⟨es, c, hb, he⟩ := h
  exact ⟨es, c, hk.trans hb, he⟩
theorem known_made (w : World) (V : List Int → Int) : Known (w.alloc (.map #[] 0)) w.heap.size V := ⟨#[], 0, (MapKept.heap_alloc w _).1, by simp⟩

theorem run_zeroInt (w : World) : (zeroValue 3).run Try.prog w = .ok (iv 0) w := by kernel_rfl

theorem entries_keyed {es : Array MapEntry} (he : ∀ e ∈ es.toList, ∃ s : List Int, PlOk s ∧ e.key = plVal s ∧ e.val = iv (V s)) : ∀ e ∈ es.toList, ∃ l, keyOf Try.prog 86 e.key = some l := fun e hm => by
  obtain ⟨s, h1, h2, _⟩ := he e hm
  rw [h2]
  exact plVal_key s h1

theorem Known.look (h : Known w b V) (s : List Int) (hs : PlOk s) : ∃ l ok, (∀ w', w'.heap[b]? = w.heap[b]? → (Instr.lookup 109 (.map (some b)) (plVal s) true).run Try.prog w' = .ok (.tuple #[iv l, .bool ok]) w') ∧ (ok = true → iv l = iv (V s)) := by
  obtain ⟨es, c, hb, he⟩ := h
  obtain ⟨kl, hkl⟩ := plVal_key s hs
  have K := Try.keyedPl
  by_cases hex : ∃ e ∈ es.toList, e.key = plVal s
  · refine ⟨V s, true, fun w' hw' => ?_, fun _ => rfl⟩
    rcases K.find w' hkl es.toList (entries_keyed he) with ⟨_, h2⟩ | ⟨j, e, h1, h2, h3⟩
    · obtain ⟨e, hm, hk⟩ := hex
      exact absurd hk (h2 e hm)
    · have hm : e ∈ es.toList := List.mem_of_getElem? h2
      obtain ⟨s', g1, g2, g3⟩ := he e hm
      have hss : s' = s := plVal_inj g1.len hs.len (g2.symm.trans h3)
      subst hss
      have hck := K.check w' es.isEmpty hkl
      simp [Instr.lookup, run_underlying Try.underlying109, MapKept.run_getObj_map (hw'.trans hb), hck, h1, g3, Result.andThen]
  · refine ⟨0, false, fun w' hw' => ?_, fun h => by cases h⟩
    rcases K.find w' hkl es.toList (entries_keyed he) with ⟨h1, h2⟩ | ⟨j, e, h1, h2, h3⟩
    · have hck := K.check w' es.isEmpty hkl
      simp [Instr.lookup, run_underlying Try.underlying109, MapKept.run_getObj_map (hw'.trans hb), hck, h1, run_zeroInt, Result.andThen]
    · exact absurd ⟨e, List.mem_of_getElem? h2, h3⟩ hex

theorem Known.store (h : Known w b V) (s : List Int) (hs : PlOk s) : ∃ w', (Instr.mapUpdate 109 (.map (some b)) (plVal s) (iv (V s))).run Try.prog w = .ok () w' ∧ Known w' b V ∧ w.grownBy w' (some b) := by
  obtain ⟨es, c, hb, he⟩ := h
  obtain ⟨kl, hkl⟩ := plVal_key s hs
  have K := Try.keyedPl
  have hck := K.check w false hkl
  rcases K.find w hkl es.toList (entries_keyed he) with ⟨h1, h2⟩ | ⟨j, e, h1, h2, h3⟩
  · refine ⟨ChangeMaps.setBlock w b (.map (es.push { key := plVal s, val := iv (V s), born := c }) (c + 1)), ?_, ⟨_, _, ChangeMaps.heap_setBlock_same hb _, ?_⟩, ⟨rfl, rfl, rfl, by simp [ChangeMaps.setBlock], fun i _ hi => ChangeMaps.heap_setBlock_other hb _ (fun e => hi (by rw [e]))⟩⟩
    · simp [Instr.mapUpdate, run_underlying Try.underlying109, MapKept.run_getObj_map hb, MapKept.run_setObj_map _ hb, hck, h1, ChangeMaps.setBlock, Result.andThen]
    · intro e hm
      simp only [Array.toList_push, List.mem_append, List.mem_singleton] at hm
      rcases hm with hm | rfl
      · exact he e hm
      · exact ⟨s, hs, rfl, rfl⟩
  · have hst := K.stays w hkl
    refine ⟨ChangeMaps.setBlock w b (.map (es.modify j fun e => { e with key := plVal s, val := iv (V s) }) c), ?_, ⟨_, _, ChangeMaps.heap_setBlock_same hb _, ?_⟩, ⟨rfl, rfl, rfl, by simp [ChangeMaps.setBlock], fun i _ hi => ChangeMaps.heap_setBlock_other hb _ (fun e => hi (by rw [e]))⟩⟩
    · have h2' : es[j]? = some e := by simpa using h2
      simp [Instr.mapUpdate, run_underlying Try.underlying109, MapKept.run_getObj_map hb, MapKept.run_setObj_map _ hb, hck, h1, h2', h3, hst, ChangeMaps.setBlock, Result.andThen]
    · intro e' hm
      obtain ⟨i, hi⟩ := List.mem_iff_getElem?.1 hm
      have hi' : (es.modify j fun e => { e with key := plVal s, val := iv (V s) })[i]? = some e' := by rw [← Array.getElem?_toList]; exact hi
      rw [Array.getElem?_modify] at hi'
      split at hi'
      · obtain ⟨e0, _, rfl⟩ := Option.map_eq_some_iff.1 hi'
        exact ⟨s, hs, rfl, rfl⟩
      · exact he e' (List.mem_of_getElem? (by simpa using hi'))
end
end Go.Proofs.Ytllmahcanipcpaa
/- A looked-at file in memory; the contract of claim's look. -/
namespace Go.Proofs.Ytllmahcanipcpaa
open Go.RowKit

/-- Block b is a looked-at file: its five slices, the papers and claims left out, the map of what is known. -/
structure LookF (w : World) (b bm : Nat) (f : File) (a : FA) (but : Int) (V : List Int → Int) : Prop where
  v : FileV w w.heap.size f a
  q0 : w.cell? ⟨b, 0, none⟩ = some (.slice a.A1 f.parties.length a.c1)
  q1 : w.cell? ⟨b, 1, none⟩ = some (.slice a.A2 f.untils.length a.c2)
  q2 : w.cell? ⟨b, 2, none⟩ = some (.slice a.A3 f.lots.length a.c3)
  q3 : w.cell? ⟨b, 3, none⟩ = some (.slice a.A4 f.papers.length a.c4)
  q4 : w.cell? ⟨b, 4, none⟩ = some (.slice a.A5 f.claims.length a.c5)
  q5 : w.cell? ⟨b, 5, none⟩ = some (.int .i64 but)
  q6 : w.cell? ⟨b, 6, none⟩ = some (.map (some bm))
  k : Known w bm V
set_option maxHeartbeats 1000000 in
set_option maxRecDepth 100000 in
theorem look_any {w : World} {f : File} {a : FA} {but : Int} (h : FileV w w.heap.size f a) (V : List Int → Int) :
    Calls Try.prog 62 #[fileVal f a, .int .i64 but] w fun e w' => ∃ b bm, e = .returned (.pointer (some ⟨b, 0, none⟩)) ∧ w.heap.size ≤ b ∧ w.heap.size ≤ bm ∧ Below w.heap.size w w' ∧ LookF w' b bm f a but V := by
  have hmm := @run_makeMap Try.prog
  go_enter Try.func62, Try.ntmps62
  go_wp2_with fail
  refine bodyPost_ret (v := .pointer (some ⟨w.heap.size + 1 + 1, 0, none⟩)) (by simp [results, Try.results62, go_sem]) rfl ⟨w.heap.size + 1 + 1, w.heap.size + 1, rfl, by omega, by omega, ?_, ?_⟩
  · exact (((Below.refl _ _).alloc (Nat.le_refl _) _).alloc (by simp) _).alloc (by simp; omega) _
  · generalize hw1 : w.alloc (Obj.cells #[.slice a.A1 f.parties.length a.c1, .slice a.A2 f.untils.length a.c2, .slice a.A3 f.lots.length a.c3, .slice a.A4 f.papers.length a.c4, .slice a.A5 f.claims.length a.c5] 28) = wa
    have hs1 : wa.heap.size = w.heap.size + 1 := by rw [← hw1]; simp
    have hB1 : Below w.heap.size w wa := by rw [← hw1]; exact (Below.refl _ _).alloc (Nat.le_refl _) _
    rw [← hs1]
    have hB2 : Below wa.heap.size wa (wa.alloc (Obj.map #[] 0)) := (Below.refl _ _).alloc (Nat.le_refl _) _
    have hkn := known_made wa V
    generalize hw2 : wa.alloc (Obj.map #[] 0) = wb at *
    have hs2 : wb.heap.size = wa.heap.size + 1 := by rw [← hw2]; simp
    rw [← hs2]
    have q := @Blk.made wb 111 #[.slice a.A1 f.parties.length a.c1, .slice a.A2 f.untils.length a.c2, .slice a.A3 f.lots.length a.c3, .slice a.A4 f.papers.length a.c4, .slice a.A5 f.claims.length a.c5, .int .i64 but, .map (some wa.heap.size)]
    have hB3 : Below wb.heap.size wb (wb.alloc (Obj.cells #[.slice a.A1 f.parties.length a.c1, .slice a.A2 f.untils.length a.c2, .slice a.A3 f.lots.length a.c3, .slice a.A4 f.papers.length a.c4, .slice a.A5 f.claims.length a.c5, .int .i64 but, .map (some wa.heap.size)] 111)) := (Below.refl _ _).alloc (Nat.le_refl _) _
    exact ⟨((h.next hB1).next hB2).next hB3, q.at_ 0, q.at_ 1, q.at_ 2, q.at_ 3, q.at_ 4, q.at_ 5, q.at_ 6, hkn.block (hB3.block _ (by omega))⟩
set_option maxRecDepth 100000 in
theorem truths_any {w : World} {b : Nat} :
    Calls Try.prog 49 #[.pointer (some ⟨b, 0, none⟩)] w fun e w' => ∃ p1, e = .returned (.func (.func 77) #[] #[.pointer (some ⟨p1, 0, none⟩)]) ∧
      w.heap.size ≤ p1 ∧ p1 < w'.heap.size ∧ w'.cell? ⟨p1, 0, none⟩ = some (.pointer (some ⟨b, 0, none⟩)) ∧ Below w.heap.size w w' := by
  go_enter Try.func49, Try.ntmps49
  go_wp2_with fail
  go_ret
  refine ⟨w.heap.size, rfl, by omega, by simp, ?_, (Below.refl _ _).alloc (Nat.le_refl _) _⟩
  rw [World.cell?_alloc_at _ _ _ _ (by simp)]; rfl
end Go.Proofs.Ytllmahcanipcpaa
/- What the papers' sayings ask: the four function values. -/
namespace Go.Proofs.Ytllmahcanipcpaa
open Go.RowKit

theorem say1_any (x y : Int) (w : World) : Calls Try.prog 102 #[.int .i64 x, .int .i64 y] w fun e w' => e = .returned (.bool (decide (y ≤ x))) ∧ w = w' := by
  go_enter Try.func102, Try.ntmps102
  go_wp2_with fail
  go_ret
  exact ⟨rfl, rfl⟩
theorem say2_any (x y : Int) (w : World) : Calls Try.prog 103 #[.int .i64 x, .int .i64 y] w fun e w' => e = .returned (.bool (decide (x < y))) ∧ w = w' := by
  go_enter Try.func103, Try.ntmps103
  go_wp2_with fail
  go_ret
  exact ⟨rfl, rfl⟩
theorem say3_any (x y : Int) (w : World) : Calls Try.prog 104 #[.int .i64 x, .int .i64 y] w fun e w' => e = .returned (.bool (x == y)) ∧ w = w' := by
  go_enter Try.func104, Try.ntmps104
  go_wp2_with fail
  go_ret
  exact ⟨rfl, rfl⟩
theorem say4_any (x y : Int) (w : World) : Calls Try.prog 105 #[.int .i64 x, .int .i64 y] w fun e w' => e = .returned (.bool (x != y)) ∧ w = w' := by
  go_enter Try.func105, Try.ntmps105
  go_wp2_with fail
  go_ret
  exact ⟨rfl, rfl⟩
end Go.Proofs.Ytllmahcanipcpaa
/- The contract of claim.sayings. -/
namespace Go.Proofs.Ytllmahcanipcpaa
open Go.RowKit
set_option maxHeartbeats 400000 in
set_option maxRecDepth 100000 in
theorem sayings_any (w : World) : Calls Try.prog 89 #[] w fun e w' => e = .returned (.agg #[.func (.func 102) #[] #[], .func (.func 103) #[] #[], .func (.func 104) #[] #[], .func (.func 105) #[] #[]]) ∧ Below w.heap.size w w' := by
  have bk : Blk (w.alloc (.cells #[.nilFunc, .nilFunc, .nilFunc, .nilFunc] 124)) w.heap.size 124 #[.nilFunc, .nilFunc, .nilFunc, .nilFunc] := Blk.made
  have HB := hide (show Below w.heap.size w (w.alloc (.cells #[.nilFunc, .nilFunc, .nilFunc, .nilFunc] 124)) from (Below.refl _ _).alloc (Nat.le_refl _) _)
  go_enter Try.func89, Try.ntmps89
  go_upto_region 1 with (fail)
  generalize (w.alloc (.cells #[.nilFunc, .nilFunc, .nilFunc, .nilFunc] 124)) = v0 at *
  have k0 := bk.at_ 0
  have k1 := bk.at_ 1
  have k2 := bk.at_ 2
  have k3 := bk.at_ 3
  have f0 := bk.free 0
  have f1 := bk.free 1
  have f2 := bk.free 2
  have f3 := bk.free 3
  have z := bk.lt
  go_wp2_with fail
  have b4 : Blk ((((v0.setCell ⟨w.heap.size, 0, none⟩ (.func (.func 102) #[] #[])).setCell ⟨w.heap.size, 1, none⟩ (.func (.func 103) #[] #[])).setCell ⟨w.heap.size, 2, none⟩ (.func (.func 104) #[] #[])).setCell ⟨w.heap.size, 3, none⟩ (.func (.func 105) #[] #[])) w.heap.size 124 #[.func (.func 102) #[] #[], .func (.func 103) #[] #[], .func (.func 104) #[] #[], .func (.func 105) #[] #[]] := (((bk.store 0 _).store 1 _).store 2 _).store 3 _
  have hb4 : Below w.heap.size w ((((v0.setCell ⟨w.heap.size, 0, none⟩ (.func (.func 102) #[] #[])).setCell ⟨w.heap.size, 1, none⟩ (.func (.func 103) #[] #[])).setCell ⟨w.heap.size, 2, none⟩ (.func (.func 104) #[] #[])).setCell ⟨w.heap.size, 3, none⟩ (.func (.func 105) #[] #[])) := (((HB.out.trans ((Keep.setCell _ _ _ (fun k => w.heap.size ≤ k) (Nat.le_refl _)).below (fun _ h => h) (by omega))).trans ((Keep.setCell _ _ _ (fun k => w.heap.size ≤ k) (Nat.le_refl _)).below (fun _ h => h) (by simp; omega))).trans ((Keep.setCell _ _ _ (fun k => w.heap.size ≤ k) (Nat.le_refl _)).below (fun _ h => h) (by simp; omega))).trans ((Keep.setCell _ _ _ (fun k => w.heap.size ≤ k) (Nat.le_refl _)).below (fun _ h => h) (by simp; omega))
  generalize ((((v0.setCell ⟨w.heap.size, 0, none⟩ (.func (.func 102) #[] #[])).setCell ⟨w.heap.size, 1, none⟩ (.func (.func 103) #[] #[])).setCell ⟨w.heap.size, 2, none⟩ (.func (.func 104) #[] #[])).setCell ⟨w.heap.size, 3, none⟩ (.func (.func 105) #[] #[])) = v4 at *
  clear k0 k1 k2 k3 f0 f1 f2 f3 bk z
  have k0 := b4.at_ 0
  have k1 := b4.at_ 1
  have k2 := b4.at_ 2
  have k3 := b4.at_ 3
  simp only [List.getElem?_toArray, List.getElem?_cons_succ, List.getElem?_cons_zero] at k0 k1 k2 k3
  refine bodyPost_ret (v := .agg #[.func (.func 102) #[] #[], .func (.func 103) #[] #[], .func (.func 104) #[] #[], .func (.func 105) #[] #[]]) (by simp [results, Try.results89, go_sem, k0, k1, k2, k3]) rfl ⟨rfl, hb4⟩
end Go.Proofs.Ytllmahcanipcpaa
