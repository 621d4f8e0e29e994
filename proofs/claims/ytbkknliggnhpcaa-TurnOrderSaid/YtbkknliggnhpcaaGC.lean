/- The contract of the reference's Times of chapter 07: the hours at which lots turn. -/
import Derived.Test.YtbkknliggnhpcaaGB
import Derived.Test.YtbkknliggnhpcaaGA
import Derived.StillTailTactics
import Derived.WalkSmall
import Derived.Deep.RegionHeld3
import Derived.Deep.AppendLies
set_option linter.unusedVariables false
set_option linter.unusedSimpArgs false
namespace Go.Proofs.Ytbkknliggnhpcaa
open Go.RowKit
attribute [local go_sem ↓] Go.wp_at_zero Go.wp_at_succ

theorem nth_natInts {l : List Nat} {i : Nat} (h : i < l.length) : nth (natInts l) i = ((nth l i : Nat) : Int) := by simp [natInts, nth, h]
/-- The boxes of a cargo and of a way, as they lie in a world. -/
structure Boxed7 (w0 : World) (b : Nat) (c : Cargo) (A1 A2 A3 A4 : Option Addr) (c1 c2 c3 c4 : Nat) : Prop where
  q0 : w0.cell? ⟨b, 0, none⟩ = some (.slice A1 c.heat.length c1)
  q1 : w0.cell? ⟨b, 1, none⟩ = some (.int .i64 c.gas)
  q2 : w0.cell? ⟨b, 2, none⟩ = some (.slice A2 c.holds.length c2)
  q3 : w0.cell? ⟨b, 3, none⟩ = some (.slice A3 c.lots.length c3)
  q4 : w0.cell? ⟨b, 4, none⟩ = some (.slice A4 c.seen.length c4)

set_option maxHeartbeats 4000000 in
set_option maxRecDepth 100000 in
theorem times7_own {A1 A2 A3 A4 Al Ag : Option Addr} {c1 c2 c3 c4 nl cl ng cg : Nat} {c : Cargo} {l : List Nat} {g : List Int} {w : World} (h : CargoV w w.heap.size c A1 A2 A3 A4 c1 c2 c3 c4) (hs : Small c)
    (hl : IntsS w w.heap.size Al nl cl (natInts l)) (hlb : ∀ q ∈ l, q < c.lots.length) (hnd : l.Nodup) (hg : IntsS w w.heap.size Ag ng cg g) (hgn : ng = c.lots.length) (hgb : ∀ i, -100 ≤ nth g i ∧ nth g i ≤ 100) {warm : Int} (hw : 0 ≤ warm ∧ warm ≤ 6) :
    Calls Try.prog 85 #[cargoVal c A1 A2 A3 A4 c1 c2 c3 c4, .slice Al nl cl, .agg #[.int .i64 warm, .slice Ag ng cg]] w fun e w' =>
      ∃ A c', e = .returned (.slice A c.lots.length c') ∧ w'.ownsRow w.heap.size 3 1 (.slice A c.lots.length c') c.lots.length ((timesM c l warm g).map (Value.int .i64)) ∧ Below w.heap.size w w' := by
  have hm1 := h.m1
  have hm3 := h.m3
  have hsm1 := hs.hours
  have hsm2 := hs.lots
  have hll : l.length = nl := by have := hl.len; simpa [natInts] using this
  have HLL := hide hll
  have HGN := hide hgn
  have hlbd := hl.bd
  unfold maxLen at hm1 hm3
  obtain ⟨i0, hi, hz0, hz1, hz2⟩ := info_parts Try.infoInt
  clear hll hgn
  have hs2 : (((w.alloc (.cells #[.slice A1 c.heat.length c1, .int .i64 c.gas, .slice A2 c.holds.length c2, .slice A3 c.lots.length c3, .slice A4 c.seen.length c4] 27)).alloc (.cells #[.int .i64 warm, .slice Ag ng cg] 66))).heap.size = w.heap.size + 2 := by simp
  have hB0 : Below w.heap.size w (((w.alloc (.cells #[.slice A1 c.heat.length c1, .int .i64 c.gas, .slice A2 c.holds.length c2, .slice A3 c.lots.length c3, .slice A4 c.seen.length c4] 27)).alloc (.cells #[.int .i64 warm, .slice Ag ng cg] 66))) := ((Below.refl _ _).alloc (Nat.le_refl _) _).alloc (by simp) _
  have hcl0 : ∀ o : Nat, (((w.alloc (.cells #[.slice A1 c.heat.length c1, .int .i64 c.gas, .slice A2 c.holds.length c2, .slice A3 c.lots.length c3, .slice A4 c.seen.length c4] 27)).alloc (.cells #[.int .i64 warm, .slice Ag ng cg] 66))).cell? ⟨w.heap.size, o, none⟩ = (#[Value.slice A1 c.heat.length c1, .int .i64 c.gas, .slice A2 c.holds.length c2, .slice A3 c.lots.length c3, .slice A4 c.seen.length c4])[o]? := fun o => by
    rw [World.cell?_alloc_past _ _ _ (by simp), World.cell?_alloc_at _ _ _ _ rfl]
  have hcl1 : ∀ o : Nat, (((w.alloc (.cells #[.slice A1 c.heat.length c1, .int .i64 c.gas, .slice A2 c.holds.length c2, .slice A3 c.lots.length c3, .slice A4 c.seen.length c4] 27)).alloc (.cells #[.int .i64 warm, .slice Ag ng cg] 66))).cell? ⟨w.heap.size + 1, o, none⟩ = (#[Value.int .i64 warm, .slice Ag ng cg])[o]? := fun o => by
    rw [World.cell?_alloc_at _ _ _ _ (by simp)]
  have HCL0 := hide hcl0
  have HCL1 := hide hcl1
  have HS2 := hide hs2
  have HB0 := hide hB0
  clear hcl0 hcl1 hs2 hB0
  go_enter Try.func85, Try.ntmps85
  go_wp2_with (first
    | (at_make
       go_must (refine wpList_make_full _ rfl _ _ 22 rfl (w.heap.size + 2) 3 i0 (.int .i64 0) 1 Try.underlying22 hi hz0 hz1 _ _ _ _ c.lots.length rfl rfl rfl rfl (by rw [hz2]; omega) (by simp [maxLen]; omega) (by simp) ?_)
       intro wm hown1 hg1
       have hbm := (Below.refl (w.heap.size + 2) _).grown hg1 (by simp) (by simp)
       have hO1 : OwnI wm (w.heap.size + 2) (w.heap.size + 1 + 1) c.lots.length c.lots.length (List.replicate c.lots.length 0) := by simpa [OwnI, Value.cells, toList_madeCells_one] using hown1
       have hszm : w.heap.size + 1 + 1 < wm.heap.size := hO1.lt.2
       have hzA : w.heap.size < wm.heap.size := by omega
       have hzB : w.heap.size + 1 < wm.heap.size := by omega
       have qb : Boxed7 wm w.heap.size c A1 A2 A3 A4 c1 c2 c3 c4 := ⟨by rw [hbm.cell (by simp), HCL0.out]; simp, by rw [hbm.cell (by simp), HCL0.out]; simp, by rw [hbm.cell (by simp), HCL0.out]; simp, by rw [hbm.cell (by simp), HCL0.out]; simp, by rw [hbm.cell (by simp), HCL0.out]; simp⟩
       have qw0 : wm.cell? ⟨w.heap.size + 1, 0, none⟩ = some (.int .i64 warm) := by rw [hbm.cell (by simp), HCL1.out]; simp
       have qw1 : wm.cell? ⟨w.heap.size + 1, 1, none⟩ = some (.slice Ag ng cg) := by rw [hbm.cell (by simp), HCL1.out]; simp
       have HB1 := hide (HB0.out.trans (hbm.mono (by omega)))
       have h' := h.below HB1.out
       have hl' := hl.below HB1.out
       have hg' := hg.below HB1.out
       clear hown1 hg1 hbm h hl hg HB0 HCL0 HCL1 HS2
       have qb0 := qb.q0
       have qb1 := qb.q1
       have qb3 := qb.q3)
    | (at_builtin
       go_must (refine wpList_app_ints _ rfl _ _ rfl (w.heap.size + 2) (.slice (some ⟨wm.heap.size, 0, none⟩) 0 0) 0 [] rfl (World.ownsRow_lit _ #[] 0 (by omega) (by simp [maxLen]) rfl) Ag ng cg w.heap.size g rfl (hg'.below ((Below.refl _ _).alloc (by omega) _)) (by have := HGN.out; omega) (by simp; omega) ?_)
       intro v' w1 hown2 hg2 hat2))
  obtain ⟨g2, cap2, rfl, hO2, hg2n⟩ : ∃ g2 cap2, v' = .slice (some ⟨g2, 0, none⟩) ng cap2 ∧ OwnI w1 (w.heap.size + 2) g2 ng cap2 g ∧ w.heap.size + 1 + 1 < g2 := by
    rw [Nat.zero_add, List.nil_append] at hown2
    rcases hown2.2 with ⟨rfl, _⟩ | ⟨gg, cap, cur, rfl, r⟩
    · rcases hat2 with e | e <;> simp [Value.ownBlock] at e
    · refine ⟨gg, cap, rfl, hown2, ?_⟩
      rcases hat2 with e | e <;> simp [Value.ownBlock] at e <;> omega
  have hbm1 := ((Below.refl (w.heap.size + 3) wm).alloc (by omega) (.cells #[] 3)).grown hg2 (by simp; omega) (fun k hk => by simp [Value.ownBlock] at hk; omega)
  have hO1' := hO1.below hbm1 (by omega)
  have pb0 := (hbm1.cell (p := ⟨w.heap.size, 0, none⟩) (by show _ < _; simp only []; omega)).trans qb0
  have pb1 := (hbm1.cell (p := ⟨w.heap.size, 1, none⟩) (by show _ < _; simp only []; omega)).trans qb1
  have pb2 := (hbm1.cell (p := ⟨w.heap.size, 2, none⟩) (by show _ < _; simp only []; omega)).trans qb.q2
  have pb3 := (hbm1.cell (p := ⟨w.heap.size, 3, none⟩) (by show _ < _; simp only []; omega)).trans qb3
  have pb4 := (hbm1.cell (p := ⟨w.heap.size, 4, none⟩) (by show _ < _; simp only []; omega)).trans qb.q4
  have pw0 := (hbm1.cell (p := ⟨w.heap.size + 1, 0, none⟩) (by show _ < _; simp only []; omega)).trans qw0
  have pw1 := (hbm1.cell (p := ⟨w.heap.size + 1, 1, none⟩) (by show _ < _; simp only []; omega)).trans qw1
  have HH := hide (h'.below (hbm1.mono (by omega)))
  have HLI := hide (hl'.below (hbm1.mono (by omega)))
  have hsz1 : w.heap.size + 3 ≤ w1.heap.size := by have := hO2.lt; omega
  have keep : ∀ wr, Below (w.heap.size + 2) w1 wr → Below w.heap.size w wr := fun wr hk => HB1.out.trans ((hbm1.mono (by omega)).trans (hk.mono (by omega)))
  have KEEP := hide keep
  have HB1 := hide hO1'
  have HO2 := hide hO2
  clear keep hown2 hg2 hat2 hbm1 hO1 hO1' qb0 qb1 qb3 qb qw0 qw1 h' hl' hg' hzA hzB hszm hO2
  clear hi hz0 hz1 hz2
  have hzA : w.heap.size < w1.heap.size := by omega
  have hzB : w.heap.size + 1 < w1.heap.size := by omega
  have HHL := hide hlb
  clear hlb
  go_loopw [9] (fun i wr => ∃ j : Nat, j ≤ c.lots.length ∧ i = .int .i64 j ∧ Below (w.heap.size + 2) w1 wr ∧ ∃ out, OwnI wr (w.heap.size + 2) (w.heap.size + 1 + 1) c.lots.length c.lots.length out ∧ Hid (∀ k, k < j → nth out k = (c.heat.length : Int) + 1) ∧ OwnI wr (w.heap.size + 2) g2 ng cap2 g) (fun i _ => c.lots.length - (intOf i).toNat)
  case atStart => exact ⟨0, Nat.zero_le _, rfl, Below.refl _ _, _, HB1.out, fun k hk => by omega, HO2.out⟩
  case round =>
    obtain ⟨j, hj, rfl, hB, out, hO1, HF, hO2⟩ := hrel
    obtain ⟨k1, f1⟩ := bcell hB
    have hszr := hB.size
    have hszr' : w.heap.size + 2 ≤ wr.heap.size := by omega
    by_cases hlt : j < c.lots.length
    · have hg1 := hO1.lt
      have hg2 := hO2.lt
      have hj1 : (j : Int) < (c.lots.length : Int) := by omega
      go_wp2_with (go_at_call 39; refine (never_any c _ (by omega)).mono ?_; rintro e w2 ⟨rfl, hb2⟩; have hO1' := hO1.below hb2 (by omega); have hc2 := hO1'.cell hlt; have hf2 := hO1'.frozen j)
      go_roundw
      case rel =>
        refine ⟨j + 1, by omega, by go_num, (hB.trans (hb2.mono hszr')).setCell (by show _ ≤ _; simp only []; omega) _, _, hO1'.set j _, fun k hk => ?_, (hO2.below hb2 (by omega)).far (by show g2 ≠ _; simp only []; omega) _⟩
        rw [nth_set (by rw [hO1'.len]; exact hlt)]
        split
        · rfl
        · exact HF.out k (by omega)
      case measure => simp [intOf]; omega
    · obtain ⟨HF1⟩ : Nonempty (Hid (∀ k, k < c.lots.length → nth out k = (c.heat.length : Int) + 1)) := ⟨fun k hk => HF.out k (by omega)⟩
      clear HF
      go_wp2_with fail
      go_loopw [10, 11, 12, 13, 14, 15, 16] (fun hh _ _ _ _ _ _ wr => ∃ t : Nat, t ≤ c.heat.length + 1 ∧ hh = .int .i64 t ∧ Below (w.heap.size + 2) w1 wr ∧ ∃ out left, OwnI wr (w.heap.size + 2) (w.heap.size + 1 + 1) c.lots.length c.lots.length out ∧ OwnI wr (w.heap.size + 2) g2 ng cap2 left ∧
          Hid (OutG c l warm g t [] out) ∧ Hid (left = leftL c l warm g (min t c.heat.length))) (fun hh _ _ _ _ _ _ _ => c.heat.length + 1 - (intOf hh).toNat)
      case atStart => exact ⟨0, Nat.zero_le _, rfl, hB, out, g, hO1, hO2, fun q hq => by rw [HF1.out q hq, outAt_zero]; simp, by simp [Hid, leftL]⟩
      case round =>
        clear HF1 hB hO1 hO2 k1 f1 hszr hszr' out
        obtain ⟨t, ht, rfl, hB, out, left, hO1, hO2, HF1, HF2⟩ := hrel
        obtain ⟨k1, f1⟩ := bcell hB
        by_cases hth : t ≤ c.heat.length
        · have hmin : min t c.heat.length = t := Nat.min_eq_left hth
          rw [hmin] at HF2
          clear hmin
          go_wp2_with fail
          go_loopw [11, 12] (fun ii _ wr => ∃ i : Nat, i ≤ nl ∧ ii = .int .i64 i ∧ Below (w.heap.size + 2) w1 wr ∧ ∃ out, OwnI wr (w.heap.size + 2) (w.heap.size + 1 + 1) c.lots.length c.lots.length out ∧ OwnI wr (w.heap.size + 2) g2 ng cap2 left ∧
             Hid (OutG c l warm g t (l.take i) out)) (fun ii _ _ => nl - (intOf ii).toNat)
          case atStart => exact ⟨0, Nat.zero_le _, rfl, hB, out, hO1, hO2, HF1.out⟩
          case round =>
            clear hB hO1 hO2 k1 f1 HF1 out
            obtain ⟨i, hi, rfl, hB, out, hO1, hO2, HF3⟩ := hrel
            obtain ⟨k1, f1⟩ := bcell hB
            have hszr := hB.size
            have hg1 := hO1.lt
            have hg2 := hO2.lt
            by_cases hlt : i < nl
            · obtain ⟨bl, ol, rfl, hbl, hcl⟩ := HLI.out.at_ hlt
              have hll : i < l.length := by rw [HLL.out]; exact hlt
              rw [nth_natInts hll] at hcl
              have hql : nth l i ∈ l := by rw [nth_eq hll]; exact List.getElem_mem hll
              have hqn := HHL.out _ hql
              have HT := hide (take_nth hll)
              have HQL := hide (show l.contains (nth l i) = true by simpa using hql)
              have HNT := hide (nodup_take hnd hll)
              have HCU := hide (show nth out (nth l i) = outAt c l warm g t (nth l i) by rw [HF3.out _ hqn, HQL.out, HNT.out]; simp)
              have HST := hide (show outAt c l warm g (t + 1) (nth l i) = if nth out (nth l i) = (c.heat.length : Int) + 1 ∧ (nth c.lots (nth l i)).frm ≤ t ∧ nth left (nth l i) ≤ 0 then (t : Int) else nth out (nth l i) by rw [HCU.out, HF2.out]; exact outAt_step hth)
              clear hql hll
              generalize nth l i = q at *
              obtain ⟨b3, o3, rfl, hb3, -, hfr, -, -⟩ := HH.out.lots.lots hqn
              have hcO := hO1.cell hqn
              have hcL := hO2.cell (show q < ng by rw [HGN.out]; exact hqn)
              have hq0 : (0 : Int) ≤ (q : Int) := Int.natCast_nonneg _
              have hq1 : (q : Int) < (c.lots.length : Int) := by omega
              have hq2 : (q : Int) < (ng : Int) := by have := HGN.out; omega
              have hbl2 : bl < w.heap.size + 2 := by omega
              have hb32 : b3 < w.heap.size + 2 := by omega
              have hblz : bl < wr.heap.size := by omega
              have hb3z : b3 < wr.heap.size := by omega
              have hzAr : w.heap.size < wr.heap.size := by omega
              have hg1z : w.heap.size + 1 + 1 < wr.heap.size := by omega
              have hg2z : g2 < wr.heap.size := by omega
              go_wp2_with fail
              by_cases hA : nth out q = (c.heat.length : Int) + 1 ∧ (nth c.lots q).frm ≤ t ∧ nth left q ≤ 0
              · obtain ⟨ha1, ha2, ha3⟩ := hA
                have hAb : (nth out q == (c.heat.length : Int) + 1) = true := by simpa using ha1
                have HA := hide (And.intro ha1 (And.intro ha2 ha3))
                clear ha1
                refine wp_region_grow (by kernel_rfl) (by kernel_rfl) ?_
                have hgc := @grow_cell
                repeat (first | go_big_quiet_step ((go_at_call 39; exact Calls.grow_of (never_any c _ (by omega)))) | quiet_step ((go_at_call 39; exact Calls.grow_of (never_any c _ (by omega)))))
                refine wpQuiet_nil ?_
                rintro _ ⟨tt, rfl⟩
                have hbt := grow_below (w := wr) (t := tt)
                have hbt2 := hB.trans (hbt.mono (by omega))
                have hO1t := hO1.below hbt (by omega)
                have hO2t := hO2.below hbt (by omega)
                clear hgc
                generalize grow wr tt = wt at *
                have hcO2 := hO1t.cell hqn
                have hfO2 := hO1t.frozen q
                go_wp2
                go_roundw
                case rel => exact ⟨i + 1, by omega, by go_num, hbt2.setCell (by show _ ≤ _; simp only []; omega) _, _, hO1t.set q _, hO2t.far (by show g2 ≠ _; simp only []; omega) _, by rw [HT.out]; exact HF3.out.set HQL.out (by rw [hO1t.len]; exact hqn) (by rw [HST.out, if_pos HA.out])⟩
                case measure => simp [intOf]; omega
              by_cases hA1 : nth out q = (c.heat.length : Int) + 1
              · have hAb : (nth out q == (c.heat.length : Int) + 1) = true := by simpa using hA1
                by_cases hA2 : (nth c.lots q).frm ≤ t
                · have hA3 : ¬ nth left q ≤ 0 := fun h => hA ⟨hA1, hA2, h⟩
                  have HA := hide (show ¬ (nth out q = (c.heat.length : Int) + 1 ∧ (nth c.lots q).frm ≤ t ∧ nth left q ≤ 0) from hA)
                  clear hA hA1
                  refine wp_region_grow (by kernel_rfl) (by kernel_rfl) ?_
                  have hgc := @grow_cell
                  repeat (first | go_big_quiet_step ((go_at_call 39; exact Calls.grow_of (never_any c _ (by omega)))) | quiet_step ((go_at_call 39; exact Calls.grow_of (never_any c _ (by omega)))))
                  refine wpQuiet_nil ?_
                  rintro _ ⟨tt, rfl⟩
                  have hbt := grow_below (w := wr) (t := tt)
                  have hbt2 := hB.trans (hbt.mono (by omega))
                  have hO1t := hO1.below hbt (by omega)
                  have hO2t := hO2.below hbt (by omega)
                  clear hgc
                  generalize grow wr tt = wt at *
                  go_wp2
                  go_roundw
                  case rel => exact ⟨i + 1, by omega, by go_num, hbt2, out, hO1t, hO2t, by rw [HT.out]; exact HF3.out.same HQL.out (by rw [HST.out, if_neg (fun h => HA.out (by simp_all))])⟩
                  case measure => simp [intOf]; omega
                · have hA4 : decide ((nth c.lots q).frm ≤ (t : Int)) = false := by simpa using hA2
                  have HA := hide (show ¬ (nth out q = (c.heat.length : Int) + 1 ∧ (nth c.lots q).frm ≤ t ∧ nth left q ≤ 0) from hA)
                  clear hA hA1
                  refine wp_region_grow (by kernel_rfl) (by kernel_rfl) ?_
                  have hgc := @grow_cell
                  repeat (first | go_big_quiet_step ((go_at_call 39; exact Calls.grow_of (never_any c _ (by omega)))) | quiet_step ((go_at_call 39; exact Calls.grow_of (never_any c _ (by omega)))))
                  refine wpQuiet_nil ?_
                  rintro _ ⟨tt, rfl⟩
                  have hbt := grow_below (w := wr) (t := tt)
                  have hbt2 := hB.trans (hbt.mono (by omega))
                  have hO1t := hO1.below hbt (by omega)
                  have hO2t := hO2.below hbt (by omega)
                  clear hgc
                  generalize grow wr tt = wt at *
                  go_wp2
                  go_roundw
                  case rel => exact ⟨i + 1, by omega, by go_num, hbt2, out, hO1t, hO2t, by rw [HT.out]; exact HF3.out.same HQL.out (by rw [HST.out, if_neg (fun h => HA.out (by simp_all))])⟩
                  case measure => simp [intOf]; omega
              · have hAb : (nth out q == (c.heat.length : Int) + 1) = false := by simpa using hA1
                have HA := hide (show ¬ (nth out q = (c.heat.length : Int) + 1 ∧ (nth c.lots q).frm ≤ t ∧ nth left q ≤ 0) from hA)
                clear hA hA1
                refine wp_region_grow (by kernel_rfl) (by kernel_rfl) ?_
                have hgc := @grow_cell
                repeat (first | go_big_quiet_step ((go_at_call 39; exact Calls.grow_of (never_any c _ (by omega)))) | quiet_step ((go_at_call 39; exact Calls.grow_of (never_any c _ (by omega)))))
                refine wpQuiet_nil ?_
                rintro _ ⟨tt, rfl⟩
                have hbt := grow_below (w := wr) (t := tt)
                have hbt2 := hB.trans (hbt.mono (by omega))
                have hO1t := hO1.below hbt (by omega)
                have hO2t := hO2.below hbt (by omega)
                clear hgc
                generalize grow wr tt = wt at *
                go_wp2
                go_roundw
                case rel => exact ⟨i + 1, by omega, by go_num, hbt2, out, hO1t, hO2t, by rw [HT.out]; exact HF3.out.same HQL.out (by rw [HST.out, if_neg (fun h => HA.out (by simp_all))])⟩
                case measure => simp [intOf]; omega
            · have hee : i = nl := by omega
              have HF4 := hide (show OutG c l warm g t l out by have := HF3.out; rwa [hee, ← HLL.out, List.take_length] at this)
              have hge : nl ≤ i := by omega
              have hdd : decide (i < nl) = false := by simp; omega
              clear hlt hee HF3
              by_cases htH : t = c.heat.length
              · have hdt : ((t : Int) == (c.heat.length : Int)) = true := by simp [htH]
                have HtH := hide htH
                clear htH
                go_wp2
                go_roundw
                case rel => exact ⟨t + 1, by omega, by go_num, hB, out, left, hO1, hO2, HF4.out.next, by show _ = _; rw [HF2.out, HtH.out, Nat.min_eq_right (by omega)]⟩
                case measure => simp [intOf]; omega
              · have hdt : ((t : Int) == (c.heat.length : Int)) = false := by simp; omega
                go_wp2_with fail
                have htl : t < c.heat.length := by omega
                go_loopw [13, 14, 15, 16] (fun ii _ _ _ wr => ∃ i : Nat, i ≤ nl ∧ ii = .int .i64 i ∧ Below (w.heap.size + 2) w1 wr ∧ ∃ lf, OwnI wr (w.heap.size + 2) (w.heap.size + 1 + 1) c.lots.length c.lots.length out ∧ OwnI wr (w.heap.size + 2) g2 ng cap2 lf ∧
                    Hid (LeftG c l warm g t (l.take i) lf)) (fun ii _ _ _ _ => nl - (intOf ii).toNat)
                case atStart => exact ⟨0, Nat.zero_le _, rfl, hB, left, hO1, hO2, fun q hq => by rw [HF2.out]; simp⟩
                case round =>
                  have HL2 := hide hO2.len
                  have HSm := hide hs
                  have hmn : Hid (g.length = c.lots.length) := by rw [← HGN.out, ← HL2.out, HF2.out, leftL_length]; rfl
                  clear hB hO1 hO2 k1 f1
                  obtain ⟨i, hi, rfl, hB, lf, hO1, hO2, HF5⟩ := hrel
                  obtain ⟨k1, f1⟩ := bcell hB
                  have hszr := hB.size
                  have hg1 := hO1.lt
                  have hg2 := hO2.lt
                  by_cases hlt : i < nl
                  · obtain ⟨bl, ol, rfl, hbl, hcl⟩ := HLI.out.at_ hlt
                    have hll : i < l.length := by rw [HLL.out]; exact hlt
                    rw [nth_natInts hll] at hcl
                    have hql : nth l i ∈ l := by rw [nth_eq hll]; exact List.getElem_mem hll
                    have hqn := HHL.out _ hql
                    have HT := hide (take_nth hll)
                    have HQL := hide (show l.contains (nth l i) = true by simpa using hql)
                    have HNT := hide (nodup_take hnd hll)
                    have HCU := hide (show nth out (nth l i) = outAt c l warm g (t + 1) (nth l i) by rw [HF4.out _ hqn, HQL.out]; simp)
                    have HCL := hide (show nth lf (nth l i) = nth (leftL c l warm g t) (nth l i) by rw [HF5.out _ hqn, HNT.out]; simp)
                    have hLb := leftL_bd hs l hw hgb t (nth l i)
                    rw [← HCL.out] at hLb
                    clear hql hll
                    generalize nth l i = q at *
                    obtain ⟨b3, o3, rfl, hb3, -, hfr, -, -⟩ := HH.out.lots.lots hqn
                    obtain ⟨b1, o1, rfl, hb1, hht⟩ := HH.out.heat.ints htl
                    have hcO := hO1.cell hqn
                    have hcL := hO2.cell (show q < ng by rw [HGN.out]; exact hqn)
                    have hfL := hO2.frozen q
                    have hq0 : (0 : Int) ≤ (q : Int) := Int.natCast_nonneg _
                    have hq1 : (q : Int) < (c.lots.length : Int) := by omega
                    have hq2 : (q : Int) < (ng : Int) := by have := HGN.out; omega
                    have ht0 : (0 : Int) ≤ (t : Int) := Int.natCast_nonneg _
                    have ht1 : (t : Int) < (c.heat.length : Int) := by omega
                    have hbl2 : bl < w.heap.size + 2 := by omega
                    have hb32 : b3 < w.heap.size + 2 := by omega
                    have hb12 : b1 < w.heap.size + 2 := by omega
                    have hblz : bl < wr.heap.size := by omega
                    have hb3z : b3 < wr.heap.size := by omega
                    have hb1z : b1 < wr.heap.size := by omega
                    have hzAr : w.heap.size < wr.heap.size := by omega
                    have hzBr : w.heap.size + 1 < wr.heap.size := by omega
                    have hg1z : w.heap.size + 1 + 1 < wr.heap.size := by omega
                    have hg2z : g2 < wr.heap.size := by omega
                    go_wp2_with fail
                    by_cases hA1 : nth out q = (c.heat.length : Int) + 1
                    · have hAb : (nth out q != (c.heat.length : Int) + 1) = false := by simpa using hA1
                      have HNV := hide ((outAt_never (by rw [hmn.out]; exact hqn) hth).1 (HCU.out.symm.trans hA1))
                      clear hA1
                      by_cases hA2 : (nth c.lots q).frm ≤ t
                      · have hpos : 0 < nth lf q := by
                          have := HNV.out
                          rw [turnedB, ← HCL.out] at this
                          simp [hA2] at this
                          omega
                        refine wp_region_grow (by kernel_rfl) (by kernel_rfl) ?_
                        have hgc := @grow_cell
                        repeat (first | go_big_quiet_step ((go_at_call 39; exact Calls.grow_of (never_any c _ (by omega)))) | quiet_step ((go_at_call 39; exact Calls.grow_of (never_any c _ (by omega)))))
                        refine wpQuiet_nil ?_
                        rintro _ ⟨tt, rfl⟩
                        have hbt := grow_below (w := wr) (t := tt)
                        have hbt2 := hB.trans (hbt.mono (by omega))
                        have hO1t := hO1.below hbt (by omega)
                        have hO2t := hO2.below hbt (by omega)
                        have hszt := hbt2.size
                        clear hgc
                        generalize grow wr tt = wt at *
                        go_wp2_with fail
                        obtain ⟨kt, ft⟩ := bcell hbt2
                        go_loop [15, 16] (fun gg kk => ∃ k : Nat, k ≤ nl ∧ kk = .int .i64 k ∧ gg = .bool (gasTo c l t (leftL c l warm g t) k)) (fun _ kk => nl - (intOf kk).toNat)
                        case atStart => exact ⟨0, Nat.zero_le _, rfl, rfl⟩
                        case round =>
                          obtain ⟨k, hk, rfl, rfl⟩ := hrel
                          by_cases hlt2 : k < nl
                          · obtain ⟨bl', ol', hbe, hbl', hcl'⟩ := HLI.out.at_ hlt2
                            simp only [Option.some.injEq, Addr.mk.injEq, and_true] at hbe
                            obtain ⟨rfl, rfl⟩ := hbe
                            have hll : k < l.length := by rw [HLL.out]; exact hlt2
                            rw [nth_natInts hll] at hcl'
                            have hql : nth l k ∈ l := by rw [nth_eq hll]; exact List.getElem_mem hll
                            have hqn' := HHL.out _ hql
                            have HCU' := hide (show decide (nth out (nth l k) ≤ (t : Int)) = turnedB c t (leftL c l warm g t) (nth l k) by
                              rw [HF4.out _ hqn', if_pos (by simpa using hql), if_pos (by simpa using hql), Bool.eq_iff_iff, decide_eq_true_eq]; exact outAt_le (by rw [hmn.out]; exact hqn') hth)
                            have HGS := hide (gasTo_succ (c := c) (t := t) (left := leftL c l warm g t) hll)
                            clear hql hll
                            generalize nth l k = q' at *
                            have hcO' := hO1t.cell hqn'
                            have hq0' : (0 : Int) ≤ (q' : Int) := Int.natCast_nonneg _
                            have hq1' : (q' : Int) < (c.lots.length : Int) := by omega
                            cases hgt : gasTo c l t (leftL c l warm g t) k with
                            | true =>
                              have HGT := hide hgt
                              clear hgt
                              go_wp2
                              go_round
                              case rel => exact ⟨k + 1, by omega, by go_num, by rw [HGS.out, HGT.out]; rfl⟩
                              case measure => simp [intOf]; omega
                            | false =>
                              have HGT := hide hgt
                              clear hgt
                              go_wp2
                              go_round
                              case rel => exact ⟨k + 1, by omega, by go_num, by rw [HGS.out, HGT.out, Bool.false_or, ← HCU'.out]⟩
                              case measure => simp [intOf]; omega
                          · have HGA := hide (gasTo_all (c := c) (t := t) (left := leftL c l warm g t) (show l.length ≤ k by rw [HLL.out]; omega))
                            have hcL := hO2t.cell (show q < ng by rw [HGN.out]; exact hqn)
                            have hfL := hO2t.frozen q
                            have hhb := HSm.out.heat t
                            have hgb' := HSm.out.gas
                            cases hgt : gasTo c l t (leftL c l warm g t) k with
                            | true =>
                              have HGT := hide (HGA.out.symm.trans hgt)
                              have HTV := hide (show nth lf q - nth c.heat t - warm - c.gas = takeAt c l warm t (leftL c l warm g t) q by
                                rw [takeAt, if_pos (by rw [HQL.out, ← HCL.out]; simp; omega), HGT.out, ← HCL.out]; simp)
                              clear hgt
                              go_wp2_with fail
                              go_region
                              go_wp2_with fail
                              generalize hwx : (wt.setCell ⟨g2, q, none⟩ (.int .i64 (nth lf q - nth c.heat t - warm))).drew = wx
                              have hO1x : OwnI wx (w.heap.size + 2) (w.heap.size + 1 + 1) c.lots.length c.lots.length out := by rw [← hwx]; exact (hO1t.far (by show w.heap.size + 1 + 1 ≠ _; simp only []; omega) _).block rfl
                              have hO2x : OwnI wx (w.heap.size + 2) g2 ng cap2 (lf.set q (nth lf q - nth c.heat t - warm)) := by rw [← hwx]; exact (hO2t.set q _).block rfl
                              have hbx : Below (w.heap.size + 2) w1 wx := by rw [← hwx]; exact (hbt2.setCell (by show _ ≤ _; simp only []; omega) _).drew
                              clear hwx hcL hfL
                              have hcL := hO2x.cell (show q < ng by rw [HGN.out]; exact hqn)
                              have hfL := hO2x.frozen q
                              rw [nth_set (by rw [hO2t.len, HGN.out]; exact hqn), if_pos rfl] at hcL
                              obtain ⟨kx, fx⟩ := bcell hbx
                              go_region
                              go_wp2
                              go_roundw
                              case rel =>
                                exact ⟨i + 1, by omega, by go_num, (hbx.setCell (by show _ ≤ _; simp only []; omega) _).drew, _, (hO1x.far (by show w.heap.size + 1 + 1 ≠ _; simp only []; omega) _).block rfl, (hO2x.set q _).block rfl, by rw [HT.out, List.set_set]; exact HF5.out.set (by rw [hO2t.len, HGN.out]; exact hqn) HTV.out⟩
                              case measure => simp [intOf]; omega
                            | false =>
                              have HGT := hide (HGA.out.symm.trans hgt)
                              have HTV := hide (show nth lf q - nth c.heat t - warm = takeAt c l warm t (leftL c l warm g t) q by
                                rw [takeAt, if_pos (by rw [HQL.out, ← HCL.out]; simp; omega), HGT.out, ← HCL.out]; simp)
                              clear hgt
                              go_wp2_with fail
                              go_region
                              go_wp2
                              go_roundw
                              case rel =>
                                exact ⟨i + 1, by omega, by go_num, (hbt2.setCell (by show _ ≤ _; simp only []; omega) _).drew, _, (hO1t.far (by show w.heap.size + 1 + 1 ≠ _; simp only []; omega) _).block rfl, (hO2t.set q _).block rfl, by rw [HT.out]; exact HF5.out.set (by rw [hO2t.len, HGN.out]; exact hqn) HTV.out⟩
                              case measure => simp [intOf]; omega
                      · have hA4 : decide ((t : Int) < (nth c.lots q).frm) = true := by simp; omega
                        have HTK := hide (show nth lf q = takeAt c l warm t (leftL c l warm g t) q by rw [takeAt, if_neg (by simp; omega)]; exact HCL.out)
                        refine wp_region_grow (by kernel_rfl) (by kernel_rfl) ?_
                        have hgc := @grow_cell
                        repeat (first | go_big_quiet_step ((go_at_call 39; exact Calls.grow_of (never_any c _ (by omega)))) | quiet_step ((go_at_call 39; exact Calls.grow_of (never_any c _ (by omega)))))
                        refine wpQuiet_nil ?_
                        rintro _ ⟨tt, rfl⟩
                        have hbt := grow_below (w := wr) (t := tt)
                        have hbt2 := hB.trans (hbt.mono (by omega))
                        have hO1t := hO1.below hbt (by omega)
                        have hO2t := hO2.below hbt (by omega)
                        have hszt := hbt2.size
                        clear hgc
                        generalize grow wr tt = wt at *
                        go_wp2
                        go_roundw
                        case rel => exact ⟨i + 1, by omega, by go_num, hbt2, lf, hO1t, hO2t, by rw [HT.out]; exact HF5.out.same HTK.out⟩
                        case measure => simp [intOf]; omega
                    · have hAb : (nth out q != (c.heat.length : Int) + 1) = true := by simpa using hA1
                      have HTB := hide (show turnedB c t (leftL c l warm g t) q = true by
                        cases hx : turnedB c t (leftL c l warm g t) q with
                        | true => rfl
                        | false => exact absurd (HCU.out.trans ((outAt_never (by rw [hmn.out]; exact hqn) hth).2 hx)) hA1)
                      have HTK := hide (show nth lf q = takeAt c l warm t (leftL c l warm g t) q by
                        have := HTB.out
                        simp only [turnedB, Bool.and_eq_true, decide_eq_true_eq] at this
                        rw [takeAt, if_neg (by simp; omega)]; exact HCL.out)
                      clear hA1
                      refine wp_region_grow (by kernel_rfl) (by kernel_rfl) ?_
                      have hgc := @grow_cell
                      repeat (first | go_big_quiet_step ((go_at_call 39; exact Calls.grow_of (never_any c _ (by omega)))) | quiet_step ((go_at_call 39; exact Calls.grow_of (never_any c _ (by omega)))))
                      refine wpQuiet_nil ?_
                      rintro _ ⟨tt, rfl⟩
                      have hbt := grow_below (w := wr) (t := tt)
                      have hbt2 := hB.trans (hbt.mono (by omega))
                      have hO1t := hO1.below hbt (by omega)
                      have hO2t := hO2.below hbt (by omega)
                      have hszt := hbt2.size
                      clear hgc
                      generalize grow wr tt = wt at *
                      go_wp2
                      go_roundw
                      case rel => exact ⟨i + 1, by omega, by go_num, hbt2, lf, hO1t, hO2t, by rw [HT.out]; exact HF5.out.same HTK.out⟩
                      case measure => simp [intOf]; omega
                  · go_wp2
                    go_roundw
                    case rel =>
                      have HF6 := hide (show LeftG c l warm g t l lf by have := HF5.out; rwa [show i = nl by omega, ← HLL.out, List.take_length] at this)
                      exact ⟨t + 1, by omega, by go_num, hB, out, lf, hO1, hO2, HF4.out.next, by show _ = _; rw [Nat.min_eq_left (by omega)]; exact HF6.out.next (by rw [hO2.len, HGN.out]) hmn.out⟩
                    case measure => simp [intOf]; omega
        · have htt : t = c.heat.length + 1 := by omega
          go_wp2
          go_ret
          exact ⟨_, _, rfl, by rw [← OutG.done' HF1.out htt hO1.len]; exact own_base hO1 (by omega), KEEP.out _ hB⟩
theorem times7_any {A1 A2 A3 A4 Al Ag : Option Addr} {c1 c2 c3 c4 nl cl ng cg : Nat} {c : Cargo} {l : List Nat} {g : List Int} {w : World} (h : CargoV w w.heap.size c A1 A2 A3 A4 c1 c2 c3 c4) (hs : Small c)
    (hl : IntsS w w.heap.size Al nl cl (natInts l)) (hlb : ∀ q ∈ l, q < c.lots.length) (hnd : l.Nodup) (hg : IntsS w w.heap.size Ag ng cg g) (hgn : ng = c.lots.length) (hgb : ∀ i, -100 ≤ nth g i ∧ nth g i ≤ 100) {warm : Int} (hw : 0 ≤ warm ∧ warm ≤ 6) :
    Calls Try.prog 85 #[cargoVal c A1 A2 A3 A4 c1 c2 c3 c4, .slice Al nl cl, .agg #[.int .i64 warm, .slice Ag ng cg]] w fun e w' =>
      ∃ A c', e = .returned (.slice A c.lots.length c') ∧ IntsS w' w'.heap.size A c.lots.length c' (timesM c l warm g) ∧ Below w.heap.size w w' :=
  (times7_own h hs hl hlb hnd hg hgn hgb hw).mono fun _ _ ⟨A, c', h1, h2, h3⟩ => ⟨A, c', h1, ints_own h2, h3⟩
end Go.Proofs.Ytbkknliggnhpcaa
/- Words for slices of slices of integers, and of ways: read (below a block), and owned by a call. -/
namespace Go.Proofs.Ytbkknliggnhpcaa
open Go.RowKit

/-- A slice of slices that reads as lists of integers, all below block B. -/
structure ListsS (w : World) (B : Nat) (A : Option Addr) (n c : Nat) (gs : List (List Int)) : Prop where
  len : gs.length = n
  cap : n ≤ c
  max : c ≤ maxLen
  row : 0 < n → ∃ b off, A = some ⟨b, off, none⟩ ∧ b < B ∧ ∀ j, j < n → ∃ A' c', w.cell? ⟨b, off + j, none⟩ = some (.slice A' (nth gs j).length c') ∧ IntsS w B A' (nth gs j).length c' (nth gs j)
/-- A slice of ways: how warm, and a slice of greens. -/
structure WaysS (w : World) (B : Nat) (A : Option Addr) (n c : Nat) (ws : List (Int × List Int)) : Prop where
  len : ws.length = n
  cap : n ≤ c
  max : c ≤ maxLen
  row : 0 < n → ∃ b off, A = some ⟨b, off, none⟩ ∧ b < B ∧ ∀ j, j < n → ∃ A' c', w.cell? ⟨b, off + j * 2, none⟩ = some (.int .i64 (nth ws j).1) ∧ w.cell? ⟨b, off + j * 2 + 1, none⟩ = some (.slice A' (nth ws j).2.length c') ∧ IntsS w B A' (nth ws j).2.length c' (nth ws j).2
section
variable {w w' : World} {B B' n c : Nat} {A : Option Addr} {gs : List (List Int)} {ws : List (Int × List Int)}
theorem ListsS.bd (h : ListsS w B A n c gs) : n ≤ 9223372036854775807 := by have h1 := h.cap; have h2 := h.max; unfold maxLen at h2; omega
theorem WaysS.bd (h : WaysS w B A n c ws) : n ≤ 9223372036854775807 := by have h1 := h.cap; have h2 := h.max; unfold maxLen at h2; omega
theorem ListsS.below (h : ListsS w B A n c gs) (hb : Below B w w') : ListsS w' B A n c gs := ⟨h.len, h.cap, h.max, fun hn => by
  obtain ⟨b, off, e, hbb, hc⟩ := h.row hn
  refine ⟨b, off, e, hbb, fun j hj => ?_⟩
  obtain ⟨A', c', h1, h2⟩ := hc j hj
  exact ⟨A', c', (hb.cell (p := ⟨_, _, _⟩) hbb).trans h1, h2.below hb⟩⟩
theorem WaysS.below (h : WaysS w B A n c ws) (hb : Below B w w') : WaysS w' B A n c ws := ⟨h.len, h.cap, h.max, fun hn => by
  obtain ⟨b, off, e, hbb, hc⟩ := h.row hn
  refine ⟨b, off, e, hbb, fun j hj => ?_⟩
  obtain ⟨A', c', h1, h2, h3⟩ := hc j hj
  exact ⟨A', c', (hb.cell (p := ⟨_, _, _⟩) hbb).trans h1, (hb.cell (p := ⟨_, _, _⟩) hbb).trans h2, h3.below hb⟩⟩
theorem ListsS.more (h : ListsS w B A n c gs) (hB : B ≤ B') : ListsS w B' A n c gs := ⟨h.len, h.cap, h.max, fun hn => by
  obtain ⟨b, off, e, hbb, hc⟩ := h.row hn
  exact ⟨b, off, e, by omega, fun j hj => by obtain ⟨A', c', h1, h2⟩ := hc j hj; exact ⟨A', c', h1, h2.more hB⟩⟩⟩
theorem WaysS.more (h : WaysS w B A n c ws) (hB : B ≤ B') : WaysS w B' A n c ws := ⟨h.len, h.cap, h.max, fun hn => by
  obtain ⟨b, off, e, hbb, hc⟩ := h.row hn
  exact ⟨b, off, e, by omega, fun j hj => by obtain ⟨A', c', h1, h2, h3⟩ := hc j hj; exact ⟨A', c', h1, h2, h3.more hB⟩⟩⟩
theorem ListsS.next (h : ListsS w w.heap.size A n c gs) (hb : Below w.heap.size w w') : ListsS w' w'.heap.size A n c gs := (h.below hb).more hb.size
theorem WaysS.next (h : WaysS w w.heap.size A n c ws) (hb : Below w.heap.size w w') : WaysS w' w'.heap.size A n c ws := (h.below hb).more hb.size
theorem ListsS.at_ (h : ListsS w B A n c gs) {j : Nat} (hj : j < n) : ∃ b off A' c', A = some ⟨b, off, none⟩ ∧ b < B ∧ w.cell? ⟨b, off + j, none⟩ = some (.slice A' (nth gs j).length c') ∧ IntsS w B A' (nth gs j).length c' (nth gs j) := by
  obtain ⟨b, off, e, hbb, hc⟩ := h.row (by omega)
  obtain ⟨A', c', h1, h2⟩ := hc j hj
  exact ⟨b, off, A', c', e, hbb, h1, h2⟩
theorem WaysS.at_ (h : WaysS w B A n c ws) {j : Nat} (hj : j < n) : ∃ b off A' c', A = some ⟨b, off, none⟩ ∧ b < B ∧ w.cell? ⟨b, off + j * 2, none⟩ = some (.int .i64 (nth ws j).1) ∧ w.cell? ⟨b, off + j * 2 + 1, none⟩ = some (.slice A' (nth ws j).2.length c') ∧ IntsS w B A' (nth ws j).2.length c' (nth ws j).2 := by
  obtain ⟨b, off, e, hbb, hc⟩ := h.row (by omega)
  obtain ⟨A', c', h1, h2, h3⟩ := hc j hj
  exact ⟨b, off, A', c', e, hbb, h1, h2, h3⟩
end

theorem own_below {w w' : World} {base : Nat} {e : TypeId} {size n : Nat} {v : Value} {xs : List Value} (h : w.ownsRow base e size v n xs) (hb : Below w.heap.size w w') : w'.ownsRow base e size v n xs := by
  refine ⟨h.1, ?_⟩
  rcases h.2 with h' | ⟨g, cap, cur, hv, hg, hh, r⟩
  · exact .inl h'
  · exact .inr ⟨g, cap, cur, hv, hg, by rw [hb.block g (Array.getElem?_eq_some_iff.1 hh).1]; exact hh, r⟩
theorem own_types {w w' : World} {base base' : Nat} {e e' : TypeId} {size size' n n' : Nat} {v v' : Value} {xs xs' : List Value} (h : w.ownsRow base e size v n xs) (h' : w.ownsRow base' e' size' v' n' xs') (hne : e ≠ e') {o : Obj}
    (hg : (w.alloc o).grownBy w' v'.ownBlock) : w'.ownsRow base e size v n xs := by
  refine (h.alloc o).kept hg ?_
  rcases h.2 with ⟨rfl, _⟩ | ⟨g, cap, cur, rfl, _, hh, _⟩
  · exact .inl rfl
  · refine .inr fun e1 => ?_
    rcases h'.2 with ⟨rfl, _⟩ | ⟨g', cap', cur', rfl, _, hh', _⟩
    · simp [Value.ownBlock] at e1
    · simp only [Value.ownBlock, Option.some.injEq] at e1
      subst e1
      rw [hh] at hh'
      simp only [Option.some.injEq, Obj.cells.injEq] at hh'
      exact hne hh'.2.1

/-- A row of the call's own that holds lists of integers, each a row of the call's own. -/
def OwnLists (w : World) (base : Nat) (v : Value) (gs : List (List Int)) : Prop :=
  ∃ vs : List Value, w.ownsRow base 22 1 v gs.length vs ∧ ∀ j, j < gs.length → ∃ u, vs[j]? = some u ∧ w.ownsRow base 3 1 u (nth gs j).length ((nth gs j).map (Value.int .i64))
/-- A row of the call's own that holds ways, whose greens lie below block B. -/
def OwnWays (w : World) (base B : Nat) (v : Value) (ws : List (Int × List Int)) : Prop :=
  ∃ vs : List Value, w.ownsRow base 66 2 v ws.length vs ∧ ∀ j, j < ws.length → vs[j * 2]? = some (.int .i64 (nth ws j).1) ∧ ∃ A c, vs[j * 2 + 1]? = some (.slice A (nth ws j).2.length c) ∧ IntsS w B A (nth ws j).2.length c (nth ws j).2
section
variable {w w' : World} {base B : Nat} {v : Value} {gs : List (List Int)} {ws : List (Int × List Int)}
theorem OwnLists.nil_ : OwnLists w base (.slice none 0 0) [] := ⟨[], World.ownsRow_nil _ _ _ _, fun j hj => absurd hj (Nat.not_lt_zero _)⟩
theorem OwnWays.nil_ : OwnWays w base B (.slice none 0 0) [] := ⟨[], World.ownsRow_nil _ _ _ _, fun j hj => absurd hj (Nat.not_lt_zero _)⟩
theorem OwnLists.below (h : OwnLists w base v gs) (hb : Below w.heap.size w w') : OwnLists w' base v gs := by
  obtain ⟨vs, h1, h2⟩ := h
  refine ⟨vs, own_below h1 hb, fun j hj => ?_⟩
  obtain ⟨u, h3, h4⟩ := h2 j hj
  exact ⟨u, h3, own_below h4 hb⟩
theorem OwnWays.below (h : OwnWays w base B v ws) (hB : B ≤ w.heap.size) (hb : Below w.heap.size w w') : OwnWays w' base B v ws := by
  obtain ⟨vs, h1, h2⟩ := h
  refine ⟨vs, own_below h1 hb, fun j hj => ?_⟩
  obtain ⟨h3, A, c, h4, h5⟩ := h2 j hj
  exact ⟨h3, A, c, h4, h5.below (hb.mono hB)⟩
theorem nth_snoc_lt {α : Type} [Inhabited α] (l : List α) (x : α) {j : Nat} (h : j < l.length) : nth (l ++ [x]) j = nth l j := by simp [nth, List.getElem?_append_left h]
theorem nth_snoc_eq {α : Type} [Inhabited α] (l : List α) (x : α) : nth (l ++ [x]) l.length = x := by simp [nth]
theorem OwnLists.lists (h : OwnLists w base v gs) : ∃ A c, v = .slice A gs.length c ∧ ListsS w w.heap.size A gs.length c gs := by
  obtain ⟨vs, h1, h2⟩ := h
  rcases h1.2 with ⟨rfl, h0⟩ | ⟨g, cap, cur, rfl, hg, hh, h3, h4, h5, h6⟩
  · rw [h0]
    obtain rfl : gs = [] := List.eq_nil_of_length_eq_zero h0
    exact ⟨none, 0, rfl, rfl, Nat.le_refl _, by simp [maxLen], fun h => absurd h (by omega)⟩
  · refine ⟨_, cap, rfl, rfl, h3, h4, fun hm => ⟨g, 0, rfl, (Array.getElem?_eq_some_iff.1 hh).1, fun j hj => ?_⟩⟩
    obtain ⟨u, h7, h8⟩ := h2 j hj
    obtain ⟨A', c', rfl, h9⟩ := IntsS.of_own h8
    refine ⟨A', c', ?_, h9⟩
    have := h1.cells (g := g) rfl j _ h7
    have hadd : (⟨g, 0, none⟩ : Addr).add j = ⟨g, 0 + j, none⟩ := by unfold Addr.add; split <;> simp_all
    rwa [hadd] at this
theorem OwnWays.ways (h : OwnWays w base B v ws) (hB : B ≤ w.heap.size) : ∃ A c, v = .slice A ws.length c ∧ WaysS w w.heap.size A ws.length c ws := by
  obtain ⟨vs, h1, h2⟩ := h
  rcases h1.2 with ⟨rfl, h0⟩ | ⟨g, cap, cur, rfl, hg, hh, h3, h4, h5, h6⟩
  · rw [h0]
    obtain rfl : ws = [] := List.eq_nil_of_length_eq_zero h0
    exact ⟨none, 0, rfl, rfl, Nat.le_refl _, by simp [maxLen], fun h => absurd h (by omega)⟩
  · refine ⟨_, cap, rfl, rfl, h3, h4, fun hm => ⟨g, 0, rfl, (Array.getElem?_eq_some_iff.1 hh).1, fun j hj => ?_⟩⟩
    obtain ⟨h7, A', c', h8, h9⟩ := h2 j hj
    refine ⟨A', c', ?_, ?_, h9.more hB⟩
    · have := h1.cells (g := g) rfl _ _ h7
      have hadd : (⟨g, 0, none⟩ : Addr).add (j * 2) = ⟨g, 0 + j * 2, none⟩ := by unfold Addr.add; split <;> simp_all
      rwa [hadd] at this
    · have := h1.cells (g := g) rfl _ _ h8
      have hadd : (⟨g, 0, none⟩ : Addr).add (j * 2 + 1) = ⟨g, 0 + j * 2 + 1, none⟩ := by unfold Addr.add; split <;> simp_all
      rwa [hadd] at this
theorem OwnLists.snoc {vs : List Value} {u : Value} {xs : List Int} {w1 : World} {v' : Value} {o : Obj} (h1 : w.ownsRow base 22 1 v gs.length vs) (h2 : ∀ j, j < gs.length → ∃ u, vs[j]? = some u ∧ w.ownsRow base 3 1 u (nth gs j).length ((nth gs j).map (Value.int .i64)))
    (hu : w.ownsRow base 3 1 u xs.length (xs.map (Value.int .i64))) (ho : w1.ownsRow base 22 1 v' (gs.length + 1) (vs ++ [u])) (hg : (w.alloc o).grownBy w1 v.ownBlock) : OwnLists w1 base v' (gs ++ [xs]) := by
  have hl : vs.length = gs.length := by have := h1.1; omega
  refine ⟨vs ++ [u], by simpa using ho, fun j hj => ?_⟩
  by_cases hjl : j < gs.length
  · obtain ⟨u', h3, h4⟩ := h2 j hjl
    rw [nth_snoc_lt _ _ hjl]
    exact ⟨u', by rw [List.getElem?_append_left (by omega)]; exact h3, own_types h4 h1 (by decide) hg⟩
  · obtain rfl : j = gs.length := by simp at hj; omega
    rw [nth_snoc_eq]
    exact ⟨u, by rw [← hl]; simp, own_types hu h1 (by decide) hg⟩
theorem OwnWays.snoc {vs : List Value} {wm : Int} {xs : List Int} {A : Option Addr} {c : Nat} {w1 : World} {v' : Value} (h1 : w.ownsRow base 66 2 v ws.length vs)
    (h2 : ∀ j, j < ws.length → vs[j * 2]? = some (.int .i64 (nth ws j).1) ∧ ∃ A c, vs[j * 2 + 1]? = some (.slice A (nth ws j).2.length c) ∧ IntsS w B A (nth ws j).2.length c (nth ws j).2)
    (hu : IntsS w B A xs.length c xs) (ho : w1.ownsRow base 66 2 v' (ws.length + 1) (vs ++ [.int .i64 wm, .slice A xs.length c])) (hb : Below B w w1) : OwnWays w1 base B v' (ws ++ [(wm, xs)]) := by
  have hl : vs.length = ws.length * 2 := h1.1
  refine ⟨_, by simpa using ho, fun j hj => ?_⟩
  by_cases hjl : j < ws.length
  · obtain ⟨h3, A', c', h4, h5⟩ := h2 j hjl
    rw [nth_snoc_lt _ _ hjl]
    exact ⟨by rw [List.getElem?_append_left (by omega)]; exact h3, A', c', by rw [List.getElem?_append_left (by omega)]; exact h4, h5.below hb⟩
  · obtain rfl : j = ws.length := by simp at hj; omega
    rw [nth_snoc_eq]
    refine ⟨?_, A, c, ?_, hu.below hb⟩
    · rw [← hl]; simp
    · rw [← hl, List.getElem?_append_right (by omega)]; simp
end
theorem Try.infoInts : (Try.prog.info? 22).map (fun i => (i.zero, i.size, i.bytes)) = some (some (.slice none 0 0), 1, 24) := by kernel_rfl
theorem Try.infoWay : (Try.prog.info? 66).map (fun i => (i.zero, i.size, i.bytes)) = some (some (.agg #[.int .i64 0, .slice none 0 0]), 2, 32) := by kernel_rfl
end Go.Proofs.Ytbkknliggnhpcaa
/- The contract of the reference's All of chapter 07. -/
namespace Go.Proofs.Ytbkknliggnhpcaa
open Go.RowKit

set_option maxHeartbeats 2000000 in
set_option maxRecDepth 100000 in
theorem all7_any {A1 A2 A3 A4 : Option Addr} {c1 c2 c3 c4 : Nat} {c : Cargo} {w : World} (h : CargoV w w.heap.size c A1 A2 A3 A4 c1 c2 c3 c4) (hv : Valid c) {hold : Nat} (hh : hold < c.holds.length) :
    Calls Try.prog 99 #[cargoVal c A1 A2 A3 A4 c1 c2 c3 c4, .int .i64 hold] w fun e w' =>
      ∃ A c', e = .returned (.slice A (allM c hold).length c') ∧ WaysS w' w'.heap.size A (allM c hold).length c' (allM c hold) ∧ Below w.heap.size w w' := by
  have hm1 := h.m1
  have hm2 := h.m2
  have hm3 := h.m3
  unfold maxLen at hm1 hm2 hm3
  have hlots := hv.lots
  have hhl := hv.holds
  obtain ⟨i0, hi, hz0, hz1, hz2⟩ := info_parts Try.infoInt
  obtain ⟨i1, gi, gz0, gz1, gz2⟩ := info_parts Try.infoInts
  obtain ⟨i2, wi, wz0, wz1, wz2⟩ := info_parts Try.infoWay
  have hB0 : Below w.heap.size w ((w.alloc (.cells #[.slice A1 c.heat.length c1, .int .i64 c.gas, .slice A2 c.holds.length c2, .slice A3 c.lots.length c3, .slice A4 c.seen.length c4] 27)).alloc (.cells #[.slice none 0 0] 22)) := ((Below.refl _ _).alloc (Nat.le_refl _) _).alloc (by simp) _
  have hO0 : OwnLists ((w.alloc (.cells #[.slice A1 c.heat.length c1, .int .i64 c.gas, .slice A2 c.holds.length c2, .slice A3 c.lots.length c3, .slice A4 c.seen.length c4] 27)).alloc (.cells #[.slice none 0 0] 22)) (w.heap.size + 1) (.slice (some ⟨w.heap.size + 1, 0, none⟩) 1 1) [[]] :=
    ⟨[.slice none 0 0], by simpa using World.ownsRow_lit (base := w.heap.size + 1) (e := 22) (size := 1) (w.alloc (.cells #[.slice A1 c.heat.length c1, .int .i64 c.gas, .slice A2 c.holds.length c2, .slice A3 c.lots.length c3, .slice A4 c.seen.length c4] 27)) #[.slice none 0 0] 1 (by simp) (by simp [maxLen]) rfl,
      fun j hj => by obtain rfl : j = 0 := by simpa using hj
                     exact ⟨_, rfl, World.ownsRow_nil _ _ _ _⟩⟩
  have hcl : ∀ o : Nat, ((w.alloc (.cells #[.slice A1 c.heat.length c1, .int .i64 c.gas, .slice A2 c.holds.length c2, .slice A3 c.lots.length c3, .slice A4 c.seen.length c4] 27)).alloc (.cells #[.slice none 0 0] 22)).cell? ⟨w.heap.size, o, none⟩ = (#[Value.slice A1 c.heat.length c1, .int .i64 c.gas, .slice A2 c.holds.length c2, .slice A3 c.lots.length c3, .slice A4 c.seen.length c4])[o]? := fun o => by
    rw [World.cell?_alloc_past _ _ _ (by simp), World.cell?_alloc_at _ _ _ _ rfl]
  have hs2 : ((w.alloc (.cells #[.slice A1 c.heat.length c1, .int .i64 c.gas, .slice A2 c.holds.length c2, .slice A3 c.lots.length c3, .slice A4 c.seen.length c4] 27)).alloc (.cells #[.slice none 0 0] 22)).heap.size = w.heap.size + 2 := by simp
  have HB0 := hide hB0
  have HO0 := hide hO0
  have HCL := hide hcl
  have HS2 := hide hs2
  clear hB0 hO0 hcl hs2
  go_enter Try.func99, Try.ntmps99
  go_wp2_with fail
  generalize ((w.alloc (.cells #[.slice A1 c.heat.length c1, .int .i64 c.gas, .slice A2 c.holds.length c2, .slice A3 c.lots.length c3, .slice A4 c.seen.length c4] 27)).alloc (.cells #[.slice none 0 0] 22)) = w0 at *
  have pb2 := HCL.out 2
  have pb3 := HCL.out 3
  simp only [List.getElem?_toArray, List.getElem?_cons_succ, List.getElem?_cons_zero] at pb2 pb3
  have HH := hide (h.below HB0.out)
  have hsw : w.heap.size + 1 ≤ w0.heap.size := by have := HS2.out; omega
  obtain ⟨A0, cc0, e0, hL0⟩ := HO0.out.lists
  simp only [Value.slice.injEq, List.length_singleton, true_and] at e0
  obtain ⟨rfl, rfl⟩ := e0
  have keep : ∀ wr, Below (w.heap.size + 1) w0 wr → Below w.heap.size w wr := fun wr hk => HB0.out.trans (hk.mono (by omega))
  have KEEP := hide keep
  have HV := hide hv
  clear keep h hv
  go_loopw [5, 6, 7, 8, 9, 10] (fun v5 v6 _ _ _ _ wr => ∃ (i : Nat) (A : Option Addr) (cc : Nat), i ≤ c.lots.length ∧ v6 = .int .i64 i ∧ v5 = .slice A (greensTo c hold i).length cc ∧ Below (w.heap.size + 1) w0 wr ∧ w.heap.size + 1 ≤ wr.heap.size ∧
     ListsS wr wr.heap.size A (greensTo c hold i).length cc (greensTo c hold i)) (fun _ v6 _ _ _ _ _ => c.lots.length - (intOf v6).toNat)
  case atStart => exact ⟨0, _, _, Nat.zero_le _, rfl, rfl, Below.refl _ _, hsw, hL0⟩
  case round =>
    obtain ⟨i, A, cc, hi', rfl, rfl, hB, hz, hL⟩ := hrel
    obtain ⟨wa, rfl⟩ : ∃ wa : World, wa = wr := ⟨_, rfl⟩
    obtain ⟨k1, f1⟩ := bcell hB
    by_cases hlt : i < c.lots.length
    · obtain ⟨bl, ol, rfl, hbl, hh0, hh1, hh2, hh3⟩ := HH.out.lots.lots hlt
      have hbl1 : bl < w.heap.size + 1 := by omega
      have hblz : bl < wa.heap.size := by omega
      have hwz : w.heap.size < wa.heap.size := by omega
      have hj1 : (i : Int) < (c.lots.length : Int) := by omega
      have hsp := lotSpan_ok HV.out hold hlt
      have hgl := greensTo_len HV.out hold i (by omega)
      have hpow : 4 ^ i ≤ 4 ^ 4 := Nat.pow_le_pow_right (by omega) (by omega)
      have HSP := hide (show lotSpan c hold i = if (nth c.lots i).hold = hold then (nth c.lots i).green else ⟨(nth c.lots i).green.lo, (nth c.lots i).green.lo⟩ from rfl)
      have HSU := hide (show greensTo c hold (i + 1) = (greensTo c hold i).flatMap fun g => (spanVals (lotSpan c hold i)).map fun x => g ++ [x] from rfl)
      by_cases hq : (nth c.lots i).hold = hold
      · have hqb : ((nth c.lots i).hold != (hold : Int)) = false := by simpa using hq
        rw [if_pos hq] at HSP
        clear hq
        go_wp2_with fail
        have s0 : (wa.alloc (.cells #[.int .i64 (nth c.lots i).green.lo, .int .i64 (nth c.lots i).green.hi] 32)).cell? ⟨wa.heap.size, 0, none⟩ = some (.int .i64 (lotSpan c hold i).lo) := by rw [HSP.out, World.cell?_alloc_at _ _ _ _ rfl]; rfl
        have s1 : (wa.alloc (.cells #[.int .i64 (nth c.lots i).green.lo, .int .i64 (nth c.lots i).green.hi] 32)).cell? ⟨wa.heap.size, 1, none⟩ = some (.int .i64 (lotSpan c hold i).hi) := by rw [HSP.out, World.cell?_alloc_at _ _ _ _ rfl]; rfl
        have hW : Below wa.heap.size wa (wa.alloc (.cells #[.int .i64 (nth c.lots i).green.lo, .int .i64 (nth c.lots i).green.hi] 32)) := (Below.refl _ _).alloc (Nat.le_refl _) _
        have hWz : wa.heap.size + 1 ≤ (wa.alloc (.cells #[.int .i64 (nth c.lots i).green.lo, .int .i64 (nth c.lots i).green.hi] 32)).heap.size := by simp
        generalize (wa.alloc (.cells #[.int .i64 (nth c.lots i).green.lo, .int .i64 (nth c.lots i).green.hi] 32)) = w1 at *
        generalize lotSpan c hold i = sp at *
        clear HSP
        have hL1 := hL.below hW
        have hB1 := hB.trans (hW.mono hz)
        generalize hGG : greensTo c hold i = G at *
        have HGG := hide hGG
        have hGl : G.length ≤ 256 := Nat.le_trans hgl hpow
        clear hGG hgl
        go_loopw [8, 9, 10] (fun v8 v9 _ w2 => ∃ k : Nat, k ≤ G.length ∧ v9 = .int .i64 k ∧ Below (wa.heap.size + 1) w1 w2 ∧ wa.heap.size + 1 ≤ w2.heap.size ∧ OwnLists w2 (wa.heap.size + 1) v8 ((G.take k).flatMap fun g => (spanVals sp).map fun x => g ++ [x])) (fun _ v9 _ _ => G.length - (intOf v9).toNat)
        case atStart => exact ⟨0, Nat.zero_le _, rfl, Below.refl _ _, hWz, OwnLists.nil_⟩
        case round =>
          obtain ⟨k, hk, rfl, hB2, hz2, hO⟩ := hrel
          obtain ⟨k2, f2⟩ := bcell hB2
          by_cases hlt2 : k < G.length
          · obtain ⟨wb, rfl⟩ : ∃ wb : World, wb = wr := ⟨_, rfl⟩
            have hwz2 : wa.heap.size < wa.heap.size + 1 := by omega
            obtain ⟨bg, og, Ag, cg, rfl, hbg, hgc, hgi⟩ := hL1.at_ hlt2
            have hbg1 : bg < wa.heap.size + 1 := by omega
            have hk1 : (k : Int) < (G.length : Int) := by omega
            have hgl2 : (nth G k).length = i := greensTo_mem hold i _ (by rw [HGG.out, nth_eq hlt2]; exact List.getElem_mem hlt2)
            have HGL2 := hide hgl2
            have HFT := hide (flat_take G (fun g => (spanVals sp).map fun x => g ++ [x]) hlt2)
            clear hgl2
            go_wp2_with fail
            go_loopw [8, 10] (fun v8 v10 w3 => ∃ m : Nat, (m : Int) ≤ sp.hi - sp.lo + 1 ∧ v10 = .int .i64 (sp.lo + m) ∧ Below (wa.heap.size + 1) w1 w3 ∧ wa.heap.size + 1 ≤ w3.heap.size ∧
               OwnLists w3 (wa.heap.size + 1) v8 ((G.take k).flatMap (fun g => (spanVals sp).map fun x => g ++ [x]) ++ ((spanVals sp).take m).map fun x => nth G k ++ [x])) (fun _ v10 _ => (sp.hi + 1 - intOf v10).toNat)
            case atStart => exact ⟨0, by omega, by simp, hB2, hz2, by simpa using hO⟩
            case round =>
              clear hB2 hz2 hO k2 f2
              obtain ⟨m, hm, rfl, hB3, hz3, hO⟩ := hrel
              obtain ⟨k2, f2⟩ := bcell hB3
              by_cases hle : (m : Int) ≤ sp.hi - sp.lo
              · have hgiw := hgi.below (hB3.mono (by omega))
                have hbgz : bg < wr.heap.size := by omega
                have HLEN : Hid (((G.take k).flatMap (fun g => (spanVals sp).map fun x => g ++ [x]) ++ ((spanVals sp).take m).map fun x => nth G k ++ [x]).length ≤ 100000) := by
                  have h1 := flat_len (G.take k) (fun g => (spanVals sp).map fun x => g ++ [x]) 4 (fun g _ => by rw [List.length_map]; exact spanVals_le _ hsp.2.2.2)
                  have h2 : (((spanVals sp).take m).map fun x => nth G k ++ [x]).length ≤ 4 := by rw [List.length_map]; exact Nat.le_trans (List.length_take_le _ _) (by have := spanVals_le sp hsp.2.2.2; omega)
                  have h3 : (G.take k).length ≤ G.length := by simp; omega
                  show _ ≤ _
                  rw [List.length_append]
                  omega
                go_wp2_with (first
                  | (at_builtin
                     refine wpList_app_ints _ rfl (.tmp 54) (.tmp 58) rfl wr.heap.size (.slice (some ⟨wr.heap.size, 0, none⟩) 0 0) 0 [] rfl (World.ownsRow_lit _ #[] 0 (Nat.le_refl _) (by simp [maxLen]) rfl) Ag _ cg _ _ rfl (hgiw.below ((Below.refl _ _).alloc (by omega) _)) (by have := HGL2.out; omega) (by simp) ?_
                     intro v1 w4 hown1 hg1 hat1
                     have hbA : Below wr.heap.size wr w4 := ((Below.refl _ wr).alloc (Nat.le_refl _) (.cells #[] 3)).grown hg1 (by simp) (fun k hk => by simp [Value.ownBlock] at hk; omega)
                     have hzA := hbA.size
                     clear hg1 hat1)
                  | (at_builtin
                     refine wpList_app_ints _ rfl (.tmp 59) (.tmp 61) rfl wr.heap.size v1 _ _ rfl (hown1.alloc _) (some ⟨w4.heap.size, 0, none⟩) 1 1 _ [sp.lo + m] rfl (IntsS.lit1 rfl _) (by have := HGL2.out; omega) (by simp; omega) ?_
                     intro v2 w5 hown2 hg2 hat2
                     have hbB := hbA.trans (app_below hzA hown1 hg2)
                     have hown2' : w5.ownsRow wr.heap.size 3 1 v2 ((nth G k).length + 1) ((nth G k ++ [sp.lo + (m : Int)]).map (Value.int .i64)) := by simpa using hown2
                     obtain ⟨A2', c2', rfl, hs2⟩ := IntsS.of_own hown2'
                     have HOWN2 := hide (show w5.ownsRow (wa.heap.size + 1) 3 1 (.slice A2' ((nth G k).length + 1) c2') (nth G k ++ [sp.lo + (m : Int)]).length ((nth G k ++ [sp.lo + (m : Int)]).map (Value.int .i64)) by rw [List.length_append]; exact own_base hown2' hz3)
                     obtain ⟨vs, hv1, hv2⟩ := hO.below hbB
                     have hzB := hbB.size
                     clear hg2 hat2 hown2 hown2' hs2 hown1)
                  | (at_builtin
                     refine wpList_append_own _ rfl (.tmp 53) (.tmp 63) _ rfl (wa.heap.size + 1) 22 i1 (.slice none 0 0) 1 24 Try.underlying130 gi gz0 gz1 gz2 rfl (by decide) _ _ vs rfl (hv1.alloc _) ⟨w5.heap.size, 0, none⟩ 1 1 [.slice A2' ((nth G k).length + 1) c2'] rfl rfl ?c1 ?c2 ?c3 ?c4 ?c5 ?_
                     case c1 => exact cell_one_new _ _ _
                     case c2 => simp [Value.oneCell']
                     case c3 => simp only [maxLen]; have := HLEN.out; omega
                     case c4 => have := HLEN.out; omega
                     case c5 => simp; omega
                     intro v' w6 hown6 hg6 _
                     have hbC := app_below (show wa.heap.size + 1 ≤ w5.heap.size by omega) hv1 hg6
                     have hOO := OwnLists.snoc hv1 hv2 HOWN2.out hown6 hg6
                     clear hg6 hown6))
                go_roundw
                case rel =>
                  exact ⟨m + 1, by omega, by go_num, hB3.trans ((hbB.mono hz3).trans hbC), by have := hbC.size; omega, by rw [take_map_range sp hle]; simpa using hOO⟩
                case measure => simp [intOf]; omega
              · go_wp2
                go_roundw
                case rel => exact ⟨k + 1, by omega, by go_num, hB3, hz3, by rw [HFT.out]; rw [spanVals_take sp (by omega)] at hO; exact hO⟩
                case measure => simp [intOf]; omega
          · have hkk : k = G.length := by omega
            rw [hkk, List.take_length, ← HSU.out] at hO
            clear hkk
            obtain ⟨A', c', rfl, hL'⟩ := hO.lists
            go_wp2
            go_roundw
            case rel => exact ⟨i + 1, A', c', by omega, by go_num, rfl, hB1.trans (hB2.mono (by omega)), by omega, hL'⟩
            case measure => simp [intOf]; omega
      · have hqb : ((nth c.lots i).hold != (hold : Int)) = true := by simpa using hq
        rw [if_neg hq] at HSP
        clear hq
        go_wp2_with fail
        have s0 : (wa.alloc (.cells #[.int .i64 (nth c.lots i).green.lo, .int .i64 (nth c.lots i).green.lo] 32)).cell? ⟨wa.heap.size, 0, none⟩ = some (.int .i64 (lotSpan c hold i).lo) := by rw [HSP.out, World.cell?_alloc_at _ _ _ _ rfl]; rfl
        have s1 : (wa.alloc (.cells #[.int .i64 (nth c.lots i).green.lo, .int .i64 (nth c.lots i).green.lo] 32)).cell? ⟨wa.heap.size, 1, none⟩ = some (.int .i64 (lotSpan c hold i).hi) := by rw [HSP.out, World.cell?_alloc_at _ _ _ _ rfl]; rfl
        have hW : Below wa.heap.size wa (wa.alloc (.cells #[.int .i64 (nth c.lots i).green.lo, .int .i64 (nth c.lots i).green.lo] 32)) := (Below.refl _ _).alloc (Nat.le_refl _) _
        have hWz : wa.heap.size + 1 ≤ (wa.alloc (.cells #[.int .i64 (nth c.lots i).green.lo, .int .i64 (nth c.lots i).green.lo] 32)).heap.size := by simp
        generalize (wa.alloc (.cells #[.int .i64 (nth c.lots i).green.lo, .int .i64 (nth c.lots i).green.lo] 32)) = w1 at *
        generalize lotSpan c hold i = sp at *
        clear HSP
        have hL1 := hL.below hW
        have hB1 := hB.trans (hW.mono hz)
        generalize hGG : greensTo c hold i = G at *
        have HGG := hide hGG
        have hGl : G.length ≤ 256 := Nat.le_trans hgl hpow
        clear hGG hgl
        go_loopw [8, 9, 10] (fun v8 v9 _ w2 => ∃ k : Nat, k ≤ G.length ∧ v9 = .int .i64 k ∧ Below (wa.heap.size + 1) w1 w2 ∧ wa.heap.size + 1 ≤ w2.heap.size ∧ OwnLists w2 (wa.heap.size + 1) v8 ((G.take k).flatMap fun g => (spanVals sp).map fun x => g ++ [x])) (fun _ v9 _ _ => G.length - (intOf v9).toNat)
        case atStart => exact ⟨0, Nat.zero_le _, rfl, Below.refl _ _, hWz, OwnLists.nil_⟩
        case round =>
          obtain ⟨k, hk, rfl, hB2, hz2, hO⟩ := hrel
          obtain ⟨k2, f2⟩ := bcell hB2
          by_cases hlt2 : k < G.length
          · obtain ⟨wb, rfl⟩ : ∃ wb : World, wb = wr := ⟨_, rfl⟩
            have hwz2 : wa.heap.size < wa.heap.size + 1 := by omega
            obtain ⟨bg, og, Ag, cg, rfl, hbg, hgc, hgi⟩ := hL1.at_ hlt2
            have hbg1 : bg < wa.heap.size + 1 := by omega
            have hk1 : (k : Int) < (G.length : Int) := by omega
            have hgl2 : (nth G k).length = i := greensTo_mem hold i _ (by rw [HGG.out, nth_eq hlt2]; exact List.getElem_mem hlt2)
            have HGL2 := hide hgl2
            have HFT := hide (flat_take G (fun g => (spanVals sp).map fun x => g ++ [x]) hlt2)
            clear hgl2
            go_wp2_with fail
            go_loopw [8, 10] (fun v8 v10 w3 => ∃ m : Nat, (m : Int) ≤ sp.hi - sp.lo + 1 ∧ v10 = .int .i64 (sp.lo + m) ∧ Below (wa.heap.size + 1) w1 w3 ∧ wa.heap.size + 1 ≤ w3.heap.size ∧
               OwnLists w3 (wa.heap.size + 1) v8 ((G.take k).flatMap (fun g => (spanVals sp).map fun x => g ++ [x]) ++ ((spanVals sp).take m).map fun x => nth G k ++ [x])) (fun _ v10 _ => (sp.hi + 1 - intOf v10).toNat)
            case atStart => exact ⟨0, by omega, by simp, hB2, hz2, by simpa using hO⟩
            case round =>
              clear hB2 hz2 hO k2 f2
              obtain ⟨m, hm, rfl, hB3, hz3, hO⟩ := hrel
              obtain ⟨k2, f2⟩ := bcell hB3
              by_cases hle : (m : Int) ≤ sp.hi - sp.lo
              · have hgiw := hgi.below (hB3.mono (by omega))
                have hbgz : bg < wr.heap.size := by omega
                have HLEN : Hid (((G.take k).flatMap (fun g => (spanVals sp).map fun x => g ++ [x]) ++ ((spanVals sp).take m).map fun x => nth G k ++ [x]).length ≤ 100000) := by
                  have h1 := flat_len (G.take k) (fun g => (spanVals sp).map fun x => g ++ [x]) 4 (fun g _ => by rw [List.length_map]; exact spanVals_le _ hsp.2.2.2)
                  have h2 : (((spanVals sp).take m).map fun x => nth G k ++ [x]).length ≤ 4 := by rw [List.length_map]; exact Nat.le_trans (List.length_take_le _ _) (by have := spanVals_le sp hsp.2.2.2; omega)
                  have h3 : (G.take k).length ≤ G.length := by simp; omega
                  show _ ≤ _
                  rw [List.length_append]
                  omega
                go_wp2_with (first
                  | (at_builtin
                     refine wpList_app_ints _ rfl (.tmp 54) (.tmp 58) rfl wr.heap.size (.slice (some ⟨wr.heap.size, 0, none⟩) 0 0) 0 [] rfl (World.ownsRow_lit _ #[] 0 (Nat.le_refl _) (by simp [maxLen]) rfl) Ag _ cg _ _ rfl (hgiw.below ((Below.refl _ _).alloc (by omega) _)) (by have := HGL2.out; omega) (by simp) ?_
                     intro v1 w4 hown1 hg1 hat1
                     have hbA : Below wr.heap.size wr w4 := ((Below.refl _ wr).alloc (Nat.le_refl _) (.cells #[] 3)).grown hg1 (by simp) (fun k hk => by simp [Value.ownBlock] at hk; omega)
                     have hzA := hbA.size
                     clear hg1 hat1)
                  | (at_builtin
                     refine wpList_app_ints _ rfl (.tmp 59) (.tmp 61) rfl wr.heap.size v1 _ _ rfl (hown1.alloc _) (some ⟨w4.heap.size, 0, none⟩) 1 1 _ [sp.lo + m] rfl (IntsS.lit1 rfl _) (by have := HGL2.out; omega) (by simp; omega) ?_
                     intro v2 w5 hown2 hg2 hat2
                     have hbB := hbA.trans (app_below hzA hown1 hg2)
                     have hown2' : w5.ownsRow wr.heap.size 3 1 v2 ((nth G k).length + 1) ((nth G k ++ [sp.lo + (m : Int)]).map (Value.int .i64)) := by simpa using hown2
                     obtain ⟨A2', c2', rfl, hs2⟩ := IntsS.of_own hown2'
                     have HOWN2 := hide (show w5.ownsRow (wa.heap.size + 1) 3 1 (.slice A2' ((nth G k).length + 1) c2') (nth G k ++ [sp.lo + (m : Int)]).length ((nth G k ++ [sp.lo + (m : Int)]).map (Value.int .i64)) by rw [List.length_append]; exact own_base hown2' hz3)
                     obtain ⟨vs, hv1, hv2⟩ := hO.below hbB
                     have hzB := hbB.size
                     clear hg2 hat2 hown2 hown2' hs2 hown1)
                  | (at_builtin
                     refine wpList_append_own _ rfl (.tmp 53) (.tmp 63) _ rfl (wa.heap.size + 1) 22 i1 (.slice none 0 0) 1 24 Try.underlying130 gi gz0 gz1 gz2 rfl (by decide) _ _ vs rfl (hv1.alloc _) ⟨w5.heap.size, 0, none⟩ 1 1 [.slice A2' ((nth G k).length + 1) c2'] rfl rfl ?c1 ?c2 ?c3 ?c4 ?c5 ?_
                     case c1 => exact cell_one_new _ _ _
                     case c2 => simp [Value.oneCell']
                     case c3 => simp only [maxLen]; have := HLEN.out; omega
                     case c4 => have := HLEN.out; omega
                     case c5 => simp; omega
                     intro v' w6 hown6 hg6 _
                     have hbC := app_below (show wa.heap.size + 1 ≤ w5.heap.size by omega) hv1 hg6
                     have hOO := OwnLists.snoc hv1 hv2 HOWN2.out hown6 hg6
                     clear hg6 hown6))
                go_roundw
                case rel =>
                  exact ⟨m + 1, by omega, by go_num, hB3.trans ((hbB.mono hz3).trans hbC), by have := hbC.size; omega, by rw [take_map_range sp hle]; simpa using hOO⟩
                case measure => simp [intOf]; omega
              · go_wp2
                go_roundw
                case rel => exact ⟨k + 1, by omega, by go_num, hB3, hz3, by rw [HFT.out]; rw [spanVals_take sp (by omega)] at hO; exact hO⟩
                case measure => simp [intOf]; omega
          · have hkk : k = G.length := by omega
            rw [hkk, List.take_length, ← HSU.out] at hO
            clear hkk
            obtain ⟨A', c', rfl, hL'⟩ := hO.lists
            go_wp2
            go_roundw
            case rel => exact ⟨i + 1, A', c', by omega, by go_num, rfl, hB1.trans (hB2.mono (by omega)), by omega, hL'⟩
            case measure => simp [intOf]; omega
    · have hii : i = c.lots.length := by omega
      have hgl := greensTo_len HV.out hold c.lots.length (Nat.le_refl _)
      have hpow : 4 ^ c.lots.length ≤ 4 ^ 4 := Nat.pow_le_pow_right (by omega) hlots
      have hdd : decide (i < c.lots.length) = false := by simp; omega
      have HAL := hide (show allM c hold = (spanVals (nth c.holds hold)).flatMap fun wm => (greensTo c hold c.lots.length).map fun g => (wm, g) from rfl)
      have hwb := HV.out.warm hold hh
      rw [hii] at hL
      clear hlt
      obtain ⟨bh, oh, rfl, hbh, hw0, hw1⟩ := HH.out.holds.spans hh
      have hbh1 : bh < w.heap.size + 1 := by omega
      have hh1 : (hold : Int) < (c.holds.length : Int) := by omega
      have hh2 : (0 : Int) ≤ (hold : Int) := Int.natCast_nonneg _
      have hGl : (greensTo c hold c.lots.length).length ≤ 256 := Nat.le_trans hgl hpow
      have hGz : (greensTo c hold i).length = (greensTo c hold c.lots.length).length := by rw [hii]
      rw [hGz] at *
      generalize greensTo c hold c.lots.length = G at *
      generalize nth c.holds hold = sp at *
      go_wp2_with fail
      go_loopw [11, 12, 13] (fun v11 v12 _ w2 => ∃ m : Nat, (m : Int) ≤ sp.hi - sp.lo + 1 ∧ v12 = .int .i64 (sp.lo + m) ∧ Below wa.heap.size wa w2 ∧ OwnWays w2 wa.heap.size wa.heap.size v11 (((spanVals sp).take m).flatMap fun wm => G.map fun g => (wm, g))) (fun _ v12 _ _ => (sp.hi + 1 - intOf v12).toNat)
      case atStart => exact ⟨0, by omega, by simp, Below.refl _ _, OwnWays.nil_⟩
      case round =>
        obtain ⟨m, hm, rfl, hB2, hO⟩ := hrel
        have hB2' := hB.trans (hB2.mono hz)
        obtain ⟨k2, f2⟩ := bcell hB2'
        by_cases hle : (m : Int) ≤ sp.hi - sp.lo
        · have HTM := hide (take_map_range sp hle)
          have hdle : decide (sp.lo + (m : Int) ≤ sp.hi) = true := by simp; omega
          have hGt : G.take G.length = G := List.take_length
          have HGT := hide hGt
          clear hGt
          go_wp2_with fail
          go_loopw [11, 13] (fun v11 v13 w3 => ∃ k : Nat, k ≤ G.length ∧ v13 = .int .i64 k ∧ Below wa.heap.size wa w3 ∧ OwnWays w3 wa.heap.size wa.heap.size v11 ((((spanVals sp).take m).flatMap fun wm => G.map fun g => (wm, g)) ++ (G.take k).map fun g => (sp.lo + (m : Int), g))) (fun _ v13 _ => G.length - (intOf v13).toNat)
          case atStart => exact ⟨0, Nat.zero_le _, rfl, hB2, by simpa using hO⟩
          case round =>
            clear hB2 hO hB2' k2 f2
            obtain ⟨k, hk, rfl, hB2, hO⟩ := hrel
            have hB2' := hB.trans (hB2.mono hz)
            have hsz := hB2.size
            by_cases hlt2 : k < G.length
            · obtain ⟨bg, og, Ag, cg, rfl, hbg, hgc, hgi⟩ := hL.at_ hlt2
              have hgc' := (hB2.cell (p := ⟨bg, og + k, none⟩) hbg).trans hgc
              have hk1 : (k : Int) < (G.length : Int) := by omega
              have HLEN : Hid (((((spanVals sp).take m).flatMap fun wm => G.map fun g => (wm, g)) ++ (G.take k).map fun g => (sp.lo + (m : Int), g)).length ≤ 100000) := by
                have h1 := flat_len ((spanVals sp).take m) (fun wm => G.map fun g => (wm, g)) 256 (fun g _ => by rw [List.length_map]; omega)
                have h2 : ((spanVals sp).take m).length ≤ 4 := Nat.le_trans (List.length_take_le _ _) (by have := spanVals_le sp hwb.2.2.2; omega)
                have h3 : ((G.take k).map fun g => (sp.lo + (m : Int), g)).length ≤ 256 := by simp; omega
                show _ ≤ _
                rw [List.length_append]
                omega
              obtain ⟨vs, hv1, hv2⟩ := hO
              go_wp2_with (at_builtin
                           refine wpList_append_own _ rfl (.tmp 88) (.tmp 95) _ rfl wa.heap.size 66 i2 (.agg #[.int .i64 0, .slice none 0 0]) 2 32 Try.underlying68 wi wz0 wz1 wz2 rfl (by decide) _ _ vs rfl (hv1.alloc _) ⟨wr.heap.size, 0, none⟩ 1 1 [.int .i64 (sp.lo + m), .slice Ag (nth G k).length cg] rfl rfl ?c1 ?c2 ?c3 ?c4 ?c5 ?_
                           case c1 => exact cell_two_new _ _ _ _
                           case c2 => simp [Value.oneCell']
                           case c3 => simp only [maxLen]; have := HLEN.out; omega
                           case c4 => have := HLEN.out; omega
                           case c5 => simp; omega
                           intro v' w6 hown6 hg6 _
                           have hbC := app_below hsz hv1 hg6
                           have hOO := OwnWays.snoc hv1 hv2 (hgi.below hB2) hown6 hbC
                           clear hg6 hown6)
              go_roundw
              case rel =>
                exact ⟨k + 1, by omega, by go_num, hB2.trans hbC, by rw [take_nth hlt2]; simpa using hOO⟩
              case measure => simp [intOf]; omega
            · go_wp2
              go_roundw
              case rel => exact ⟨m + 1, by omega, by go_num, hB2, by
                rw [show k = G.length by omega, HGT.out] at hO
                rw [HTM.out]; simpa using hO⟩
              case measure => simp [intOf]; omega
        · rw [spanVals_take sp (by omega), ← HAL.out] at hO
          obtain ⟨A', c', rfl, hW⟩ := hO.ways hB2.size
          go_wp2
          go_ret
          exact ⟨A', c', rfl, hW, KEEP.out _ hB2'⟩
end Go.Proofs.Ytbkknliggnhpcaa
/- Contracts of the reference's so, Ways and Some of chapter 07. -/
namespace Go.Proofs.Ytbkknliggnhpcaa
open Go.RowKit
attribute [local go_sem ↓] Go.wp_at_zero Go.wp_at_succ

/-- Look i is so, by the hours at which lots of a hold turn, or it does not count. -/
def lookB (c : Cargo) (hold : Int) (times but : List Int) (i : Nat) : Bool :=
  !(decide ((nth c.lots (nth c.seen i).lot.toNat).hold = hold) && !hasInt but i) || (decide (nth times (nth c.seen i).lot.toNat ≤ (nth c.seen i).hour) == (nth c.seen i).turned)
def soTo (c : Cargo) (hold : Int) (times but : List Int) (j : Nat) : Bool := (List.range j).all (lookB c hold times but)
def soM (c : Cargo) (hold : Int) (times but : List Int) : Bool := soTo c hold times but c.seen.length
theorem soTo_succ (c : Cargo) (hold : Int) (times but : List Int) (j : Nat) : soTo c hold times but (j + 1) = (soTo c hold times but j && lookB c hold times but j) := by
  simp [soTo, List.range_succ]

set_option maxHeartbeats 1600000 in
set_option maxRecDepth 100000 in
theorem so7_any {A1 A2 A3 A4 At Ab : Option Addr} {c1 c2 c3 c4 nt ct nb cb : Nat} {c : Cargo} {w : World} {times but : List Int} (h : CargoV w w.heap.size c A1 A2 A3 A4 c1 c2 c3 c4) (hv : Valid c) (hold : Int)
    (ht : IntsS w w.heap.size At nt ct times) (htn : nt = c.lots.length) (hb : IntsS w w.heap.size Ab nb cb but) :
    Calls Try.prog 100 #[cargoVal c A1 A2 A3 A4 c1 c2 c3 c4, .int .i64 hold, .slice At nt ct, .slice Ab nb cb] w fun e w' => e = .returned (.bool (soM c hold times but)) ∧ Below w.heap.size w w' := by
  have hm3 := h.m3
  have hm4 := h.m4
  unfold maxLen at hm3 hm4
  have hsl := hv.seens
  have hB0 : Below w.heap.size w (w.alloc (.cells #[.slice A1 c.heat.length c1, .int .i64 c.gas, .slice A2 c.holds.length c2, .slice A3 c.lots.length c3, .slice A4 c.seen.length c4] 27)) := (Below.refl _ _).alloc (Nat.le_refl _) _
  have hcl : ∀ o : Nat, (w.alloc (.cells #[.slice A1 c.heat.length c1, .int .i64 c.gas, .slice A2 c.holds.length c2, .slice A3 c.lots.length c3, .slice A4 c.seen.length c4] 27)).cell? ⟨w.heap.size, o, none⟩ = (#[Value.slice A1 c.heat.length c1, .int .i64 c.gas, .slice A2 c.holds.length c2, .slice A3 c.lots.length c3, .slice A4 c.seen.length c4])[o]? := fun o => by
    rw [World.cell?_alloc_at _ _ _ _ rfl]
  have hs1 : (w.alloc (.cells #[.slice A1 c.heat.length c1, .int .i64 c.gas, .slice A2 c.holds.length c2, .slice A3 c.lots.length c3, .slice A4 c.seen.length c4] 27)).heap.size = w.heap.size + 1 := by simp
  have HB0 := hide hB0
  have HCL := hide hcl
  have HS1 := hide hs1
  have HTN := hide htn
  clear hB0 hcl hs1 htn
  go_enter Try.func100, Try.ntmps100
  go_wp2_with fail
  generalize (w.alloc (.cells #[.slice A1 c.heat.length c1, .int .i64 c.gas, .slice A2 c.holds.length c2, .slice A3 c.lots.length c3, .slice A4 c.seen.length c4] 27)) = w0 at *
  have pb3 := HCL.out 3
  have pb4 := HCL.out 4
  simp only [List.getElem?_toArray, List.getElem?_cons_succ, List.getElem?_cons_zero] at pb3 pb4
  have HH := hide (h.below HB0.out)
  have HTI := hide (ht.below HB0.out)
  have HBU := hide (hb.below HB0.out)
  have hsw : w.heap.size + 1 ≤ w0.heap.size := by have := HS1.out; omega
  have keep : ∀ wr, Below (w.heap.size + 1) w0 wr → Below w.heap.size w wr := fun wr hk => HB0.out.trans (hk.mono (by omega))
  have KEEP := hide keep
  have HV := hide hv
  clear keep h hv ht hb
  go_loopw [9, 10, 11] (fun v9 v10 _ wr => ∃ j : Nat, j ≤ c.seen.length ∧ v10 = .int .i64 j ∧ v9 = .bool (soTo c hold times but j) ∧ Below (w.heap.size + 1) w0 wr ∧ w.heap.size + 1 ≤ wr.heap.size) (fun _ v10 _ _ => c.seen.length - (intOf v10).toNat)
  case atStart => exact ⟨0, Nat.zero_le _, rfl, rfl, Below.refl _ _, hsw⟩
  case round =>
    obtain ⟨j, hj, rfl, rfl, hB, hz⟩ := hrel
    obtain ⟨k1, f1⟩ := bcell hB
    by_cases hlt : j < c.seen.length
    · obtain ⟨bs, os, rfl, hbs, hh0, hh1, hh2⟩ := HH.out.seen.seen hlt
      have hsv := HV.out.seen j hlt
      have HSU := hide (soTo_succ c hold times but j)
      have HLK := hide (show lookB c hold times but j = (!(decide ((nth c.lots (nth c.seen j).lot.toNat).hold = hold) && !hasInt but j) || (decide (nth times (nth c.seen j).lot.toNat ≤ (nth c.seen j).hour) == (nth c.seen j).turned)) from rfl)
      have hl1 := hsv.1
      have hl2 := hsv.2.1
      clear hsv
      generalize (nth c.seen j).lot = lt at *
      generalize (nth c.seen j).hour = hr at *
      generalize (nth c.seen j).turned = tu at *
      obtain ⟨k, rfl⟩ : ∃ k : Nat, lt = k := ⟨lt.toNat, by omega⟩
      simp only [Int.toNat_natCast] at HLK
      obtain ⟨bl, ol, rfl, hbl, hhh, -, -, -⟩ := HH.out.lots.lots (i := k) (by omega)
      obtain ⟨bt, ot, rfl, hbt, hht⟩ := HTI.out.at_ (i := k) (by have := HTN.out; omega)
      have hk0 : (0 : Int) ≤ (k : Int) := Int.natCast_nonneg _
      have hk1 : (k : Int) < (c.lots.length : Int) := by omega
      have hk2 : (k : Int) < (nt : Int) := by have := HTN.out; omega
      have hbs1 : bs < w.heap.size + 1 := by omega
      have hbl1 : bl < w.heap.size + 1 := by omega
      have hbt1 : bt < w.heap.size + 1 := by omega
      have hbsz : bs < wr.heap.size := by omega
      have hblz : bl < wr.heap.size := by omega
      have hbtz : bt < wr.heap.size := by omega
      have hwz : w.heap.size < wr.heap.size := by omega
      have hBU := (HBU.out.below (hB.mono (by omega))).below ((Below.refl w.heap.size wr).alloc (by omega) (.cells #[.int .i64 k, .int .i64 hr, .bool tu] 80))
      have hB' := hB.alloc hz (.cells #[.int .i64 k, .int .i64 hr, .bool tu] 80)
      have hz' : w.heap.size + 1 ≤ (wr.alloc (.cells #[.int .i64 k, .int .i64 hr, .bool tu] 80)).heap.size := by simp; omega
      cases hso : soTo c hold times but j with
      | true =>
        have HSO := hide hso
        clear hso
        go_wp2_with (go_at_call 38; refine (has_any hBU j).mono ?_; rintro e w' ⟨rfl, rfl⟩)
        · go_quiet (fail)
          go_wp2
          go_roundw
          case rel => exact ⟨j + 1, by omega, by go_num, by rw [HSU.out, HSO.out, HLK.out]; simp_all, below_drewN hB' _, hz'⟩
          case measure => simp [intOf]; omega
        all_goals
          go_roundw
          case rel => exact ⟨j + 1, by omega, by go_num, by rw [HSU.out, HSO.out, HLK.out]; simp_all, hB', hz'⟩
          case measure => simp [intOf]; omega
      | false =>
        have HSO := hide hso
        clear hso
        go_wp2_with (go_at_call 38; refine (has_any hBU j).mono ?_; rintro e w' ⟨rfl, rfl⟩)
        · go_quiet (fail)
          go_wp2
          go_roundw
          case rel => exact ⟨j + 1, by omega, by go_num, by rw [HSU.out, HSO.out, HLK.out]; simp_all, below_drewN hB' _, hz'⟩
          case measure => simp [intOf]; omega
        all_goals
          go_roundw
          case rel => exact ⟨j + 1, by omega, by go_num, by rw [HSU.out, HSO.out, HLK.out]; simp_all, hB', hz'⟩
          case measure => simp [intOf]; omega
    · go_wp2
      go_ret
      exact ⟨ret_b (by rw [soM, show j = c.seen.length by omega]), KEEP.out _ hB⟩
theorem ofL_lt {c : Cargo} {hold : Int} {but : List Int} : ∀ q ∈ ofL c hold but, q < c.lots.length := fun q hq => by
  simp only [ofL, ofTo, List.mem_filter, List.mem_range] at hq; exact hq.1
theorem ofL_nodup (c : Cargo) (hold : Int) (but : List Int) : (ofL c hold but).Nodup := List.Nodup.sublist List.filter_sublist List.nodup_range
/-- A way is so of a hold, if some looks were not there. -/
def wayB (c : Cargo) (hold : Nat) (but : List Int) (p : Int × List Int) : Bool := soM c hold (timesM c (ofL c hold []) p.1 p.2) but
def waysM (c : Cargo) (hold : Nat) (but : List Int) : List (Int × List Int) := (allM c hold).filter (wayB c hold but)
theorem filter_take {α : Type} [Inhabited α] (l : List α) (p : α → Bool) {j : Nat} (h : j < l.length) : (l.take (j + 1)).filter p = (l.take j).filter p ++ if p (nth l j) then [nth l j] else [] := by
  rw [take_nth h, List.filter_append]; simp [List.filter_cons]
theorem allM_len {c : Cargo} (h : Valid c) {hold : Nat} (hh : hold < c.holds.length) : (allM c hold).length ≤ 1024 := by
  have h1 := flat_len (spanVals (nth c.holds hold)) (fun wm => (greensTo c hold c.lots.length).map fun g => (wm, g)) 256 (fun g _ => by
    rw [List.length_map]
    exact Nat.le_trans (greensTo_len h hold c.lots.length (Nat.le_refl _)) (Nat.le_trans (Nat.pow_le_pow_right (by omega) h.lots) (by decide)))
  have h2 := spanVals_le (nth c.holds hold) (h.warm hold hh).2.2.2
  rw [allM]; omega

set_option maxHeartbeats 2000000 in
set_option maxRecDepth 100000 in
theorem ways7_any {A1 A2 A3 A4 Ab : Option Addr} {c1 c2 c3 c4 nb cb : Nat} {c : Cargo} {w : World} {but : List Int} (h : CargoV w w.heap.size c A1 A2 A3 A4 c1 c2 c3 c4) (hv : Valid c) {hold : Nat} (hh : hold < c.holds.length)
    (hb : IntsS w w.heap.size Ab nb cb but) :
    Calls Try.prog 44 #[cargoVal c A1 A2 A3 A4 c1 c2 c3 c4, .int .i64 hold, .slice Ab nb cb] w fun e w' =>
      ∃ A c', e = .returned (.slice A (waysM c hold but).length c') ∧ WaysS w' w'.heap.size A (waysM c hold but).length c' (waysM c hold but) ∧ Below w.heap.size w w' := by
  obtain ⟨i2, wi, wz0, wz1, wz2⟩ := info_parts Try.infoWay
  have hB0 : Below w.heap.size w (w.alloc (.cells #[.slice A1 c.heat.length c1, .int .i64 c.gas, .slice A2 c.holds.length c2, .slice A3 c.lots.length c3, .slice A4 c.seen.length c4] 27)) := (Below.refl _ _).alloc (Nat.le_refl _) _
  have hcl : ∀ o : Nat, (w.alloc (.cells #[.slice A1 c.heat.length c1, .int .i64 c.gas, .slice A2 c.holds.length c2, .slice A3 c.lots.length c3, .slice A4 c.seen.length c4] 27)).cell? ⟨w.heap.size, o, none⟩ = (#[Value.slice A1 c.heat.length c1, .int .i64 c.gas, .slice A2 c.holds.length c2, .slice A3 c.lots.length c3, .slice A4 c.seen.length c4])[o]? := fun o => by
    rw [World.cell?_alloc_at _ _ _ _ rfl]
  have hs1 : (w.alloc (.cells #[.slice A1 c.heat.length c1, .int .i64 c.gas, .slice A2 c.holds.length c2, .slice A3 c.lots.length c3, .slice A4 c.seen.length c4] 27)).heap.size = w.heap.size + 1 := by simp
  have HB0 := hide hB0
  have HCL := hide hcl
  have HS1 := hide hs1
  have HC0 := hide (h.next hB0)
  have HBU := hide (hb.next hB0)
  have HV := hide hv
  have HSM := hide hv.small
  have HAL := hide (allM_len hv hh)
  have hlots := hv.lots
  clear hB0 hcl hs1 h hv hb
  go_enter Try.func44, Try.ntmps44
  go_wp2_with (go_at_call 99; refine (all7_any HC0.out HV.out hh).mono ?_; rintro e w1 ⟨AA, cA, rfl, hAll, hb1⟩)
  have pb0 := (hb1.cell (p := ⟨w.heap.size, 0, none⟩) (by simp)).trans (HCL.out 0)
  have pb1 := (hb1.cell (p := ⟨w.heap.size, 1, none⟩) (by simp)).trans (HCL.out 1)
  have pb2 := (hb1.cell (p := ⟨w.heap.size, 2, none⟩) (by simp)).trans (HCL.out 2)
  have pb3 := (hb1.cell (p := ⟨w.heap.size, 3, none⟩) (by simp)).trans (HCL.out 3)
  have pb4 := (hb1.cell (p := ⟨w.heap.size, 4, none⟩) (by simp)).trans (HCL.out 4)
  simp only [List.getElem?_toArray, List.getElem?_cons_succ, List.getElem?_cons_zero] at pb0 pb1 pb2 pb3 pb4
  have HC1 := hide (HC0.out.next hb1)
  have HBU1 := hide (HBU.out.next hb1)
  have HB1 := hide (HB0.out.trans (hb1.mono (by rw [HS1.out]; omega)))
  have hwz : w.heap.size < w1.heap.size := by have h1 := hb1.size; have h2 := HS1.out; omega
  have hnN := hAll.bd
  have HWL := hide hAll
  clear hb1 HC0 HBU HB0 HCL HS1 hAll
  go_wp2_with fail
  go_loopw [8, 9] (fun v8 v9 wr => ∃ j : Nat, j ≤ (allM c hold).length ∧ v9 = .int .i64 j ∧ Below w1.heap.size w1 wr ∧ OwnWays wr w1.heap.size w1.heap.size v8 (((allM c hold).take j).filter (wayB c hold but))) (fun _ v9 _ => (allM c hold).length - (intOf v9).toNat)
  case atStart => exact ⟨0, Nat.zero_le _, rfl, Below.refl _ _, OwnWays.nil_⟩
  case round =>
    obtain ⟨j, hj, rfl, hB, hO⟩ := hrel
    have hsz := hB.size
    by_cases hlt : j < (allM c hold).length
    · obtain ⟨bw, ow, Ag, cg, rfl, hbw, hg0, hg1, hgi⟩ := HWL.out.at_ hlt
      have hmem := allM_mem HV.out hh (show nth (allM c hold) j ∈ allM c hold by rw [nth_eq hlt]; exact List.getElem_mem hlt)
      have q0 := (hB.cell (p := ⟨w.heap.size, 0, none⟩) hwz).trans pb0
      have q1 := (hB.cell (p := ⟨w.heap.size, 1, none⟩) hwz).trans pb1
      have q2 := (hB.cell (p := ⟨w.heap.size, 2, none⟩) hwz).trans pb2
      have q3 := (hB.cell (p := ⟨w.heap.size, 3, none⟩) hwz).trans pb3
      have q4 := (hB.cell (p := ⟨w.heap.size, 4, none⟩) hwz).trans pb4
      have q5 := (hB.cell (p := ⟨bw, ow + j * 2, none⟩) hbw).trans hg0
      have q6 := (hB.cell (p := ⟨bw, ow + j * 2 + 1, none⟩) hbw).trans hg1
      have hC := ((HC1.out.below hB).more hsz).next ((Below.refl _ wr).drew)
      have hBUr := ((HBU1.out.below hB).more hsz).next ((Below.refl _ wr).drew)
      have hgir := ((hgi.below hB).more hsz).next ((Below.refl _ wr).drew)
      have zz1 : w.heap.size < wr.heap.size := by omega
      have zz2 : bw < wr.heap.size := by omega
      have hj0 : (0 : Int) ≤ (j : Int) := Int.natCast_nonneg _
      have hj1 : (j : Int) < ((allM c hold).length : Int) := by omega
      have HWB := hide (show wayB c hold but (nth (allM c hold) j) = soM c hold (timesM c (ofL c hold []) (nth (allM c hold) j).1 (nth (allM c hold) j).2) but from rfl)
      have HFT := hide (filter_take (allM c hold) (wayB c hold but) hlt)
      have HCC := hide hC
      have HBB := hide hBUr
      have HGG := hide hgir
      have HG1 := hide hgi
      have HME := hide hmem
      clear hC hBUr hgir hmem pb0 pb1 pb2 pb3 pb4 hg0 hg1 hgi
      go_wp2_with fail
      go_region_held3 (fun w' => w'.cell? ⟨w.heap.size, 0, none⟩ = some (.slice A1 c.heat.length c1) ∧ w'.cell? ⟨w.heap.size, 1, none⟩ = some (.int .i64 c.gas) ∧ w'.cell? ⟨w.heap.size, 2, none⟩ = some (.slice A2 c.holds.length c2) ∧ w'.cell? ⟨w.heap.size, 3, none⟩ = some (.slice A3 c.lots.length c3) ∧ w'.cell? ⟨w.heap.size, 4, none⟩ = some (.slice A4 c.seen.length c4) ∧
           w'.cell? ⟨bw, ow + j * 2, none⟩ = some (.int .i64 (nth (allM c hold) j).1) ∧ w'.cell? ⟨bw, ow + j * 2 + 1, none⟩ = some (.slice Ag (nth (allM c hold) j).2.length cg))
        (first
          | exact ⟨(hbD.cell (p := ⟨_, _, _⟩) zz1).trans q0, (hbD.cell (p := ⟨_, _, _⟩) zz1).trans q1, (hbD.cell (p := ⟨_, _, _⟩) zz1).trans q2, (hbD.cell (p := ⟨_, _, _⟩) zz1).trans q3, (hbD.cell (p := ⟨_, _, _⟩) zz1).trans q4, (hbD.cell (p := ⟨_, _, _⟩) zz2).trans q5, (hbD.cell (p := ⟨_, _, _⟩) zz2).trans q6⟩
          | exact ⟨(hbC.cell (p := ⟨_, _, _⟩) zz1).trans q0, (hbC.cell (p := ⟨_, _, _⟩) zz1).trans q1, (hbC.cell (p := ⟨_, _, _⟩) zz1).trans q2, (hbC.cell (p := ⟨_, _, _⟩) zz1).trans q3, (hbC.cell (p := ⟨_, _, _⟩) zz1).trans q4, (hbC.cell (p := ⟨_, _, _⟩) zz2).trans q5, (hbC.cell (p := ⟨_, _, _⟩) zz2).trans q6⟩
          | exact ⟨(hbB.cell (p := ⟨_, _, _⟩) zz1).trans q0, (hbB.cell (p := ⟨_, _, _⟩) zz1).trans q1, (hbB.cell (p := ⟨_, _, _⟩) zz1).trans q2, (hbB.cell (p := ⟨_, _, _⟩) zz1).trans q3, (hbB.cell (p := ⟨_, _, _⟩) zz1).trans q4, (hbB.cell (p := ⟨_, _, _⟩) zz2).trans q5, (hbB.cell (p := ⟨_, _, _⟩) zz2).trans q6⟩
          | go_keep)
        (first
          | (go_at_call 45; refine (of_any HCC.out hold IntsS.nil_ (by omega)).mono ?_; rintro e w2 ⟨Ao, co, rfl, hOf, hbB⟩)
          | (go_at_call 85; refine (times7_any (HCC.out.next hbB) HSM.out hOf ofL_lt (ofL_nodup _ _ _) (HGG.out.next hbB) HME.out.2.1 (fun i => by have := HME.out.2.2 i; omega) HME.out.1).mono ?_; rintro e w3 ⟨At, ct, rfl, hT, hb3⟩; have hbC := hbB.trans (hb3.mono hbB.size))
          | (go_at_call 100; refine (so7_any (HCC.out.next hbC) HV.out hold hT rfl (HBB.out.next hbC)).mono ?_; rintro e w4 ⟨rfl, hb4⟩; have hbD := hbC.trans (hb4.mono hbC.size)))
      have hbE : Below wr.heap.size wr w4 := ((Below.refl _ wr).drew).trans hbD
      have hB4 := hB.trans (hbE.mono hsz)
      have hO4 := hO.below hsz hbE
      have hs4 := hB4.size
      have q5' := (hbE.cell (p := ⟨bw, ow + j * 2, none⟩) zz2).trans q5
      have q6' := (hbE.cell (p := ⟨bw, ow + j * 2 + 1, none⟩) zz2).trans q6
      clear hbB hbC hbD hb3 hb4 hbE q0 q1 q2 q3 q4 q5 q6 hOf hT hO
      cases hwy : wayB c hold but (nth (allM c hold) j) with
      | true =>
        have hso := HWB.out.symm.trans hwy
        rw [hso]
        rw [hwy] at HFT
        clear hso hwy
        obtain ⟨vs, hv1, hv2⟩ := hO4
        have HLEN : Hid ((((allM c hold).take j).filter (wayB c hold but)).length ≤ 1024) := Nat.le_trans (List.length_filter_le _ _) (Nat.le_trans (List.length_take_le _ _) (Nat.le_trans hj HAL.out))
        go_wp2_with (at_builtin
                     refine wpList_append_own _ rfl (.tmp 32) (.tmp 37) _ rfl w1.heap.size 66 i2 (.agg #[.int .i64 0, .slice none 0 0]) 2 32 Try.underlying68 wi wz0 wz1 wz2 rfl (by decide) _ _ vs rfl (hv1.alloc _) ⟨w4.heap.size, 0, none⟩ 1 1 [.int .i64 (nth (allM c hold) j).1, .slice Ag (nth (allM c hold) j).2.length cg] rfl rfl ?c1 ?c2 ?c3 ?c4 ?c5 ?_
                     case c1 => exact cell_two_new _ _ _ _
                     case c2 => simp [Value.oneCell']
                     case c3 => simp only [maxLen]; have := HLEN.out; omega
                     case c4 => have := HLEN.out; omega
                     case c5 => simp; omega
                     intro v' w6 hown6 hg6 _
                     have hbX := app_below hs4 hv1 hg6
                     have hOO := OwnWays.snoc hv1 hv2 (HG1.out.below hB4) hown6 hbX
                     clear hg6 hown6)
        go_roundw
        case rel => exact ⟨j + 1, by omega, by go_num, hB4.trans hbX, by rw [HFT.out]; simpa using hOO⟩
        case measure => simp [intOf]; omega
      | false =>
        have hso := HWB.out.symm.trans hwy
        rw [hso]
        rw [hwy] at HFT
        clear hso hwy
        go_wp2
        go_roundw
        case rel => exact ⟨j + 1, by omega, by go_num, hB4, by rw [HFT.out]; simpa using hO4⟩
        case measure => simp [intOf]; omega
    · have hjj : j = (allM c hold).length := by omega
      rw [hjj, List.take_length] at hO
      clear hjj
      obtain ⟨A', c', rfl, hW⟩ := hO.ways hsz
      go_wp2
      go_ret
      exact ⟨A', c', rfl, hW, HB1.out.trans (hB.mono (by omega))⟩

def someTo (c : Cargo) (but : List Int) (j : Nat) : Bool := (List.range j).all fun i => !(waysM c i but).isEmpty
def someM (c : Cargo) (but : List Int) : Bool := someTo c but c.holds.length
theorem someTo_succ (c : Cargo) (but : List Int) (j : Nat) : someTo c but (j + 1) = (someTo c but j && !(waysM c j but).isEmpty) := by simp [someTo, List.range_succ]
theorem someTo_false {c : Cargo} {but : List Int} {j : Nat} (h : someTo c but j = false) (hj : j ≤ c.holds.length) : someM c but = false := by
  rw [someTo, List.all_eq_false] at h
  obtain ⟨i, h1, h2⟩ := h
  rw [someM, someTo, List.all_eq_false]
  exact ⟨i, by simp at h1 ⊢; omega, h2⟩
set_option maxHeartbeats 800000 in
set_option maxRecDepth 100000 in
theorem some7_any {A1 A2 A3 A4 Ab : Option Addr} {c1 c2 c3 c4 nb cb : Nat} {c : Cargo} {w : World} {but : List Int} (h : CargoV w w.heap.size c A1 A2 A3 A4 c1 c2 c3 c4) (hv : Valid c) (hb : IntsS w w.heap.size Ab nb cb but) :
    Calls Try.prog 50 #[cargoVal c A1 A2 A3 A4 c1 c2 c3 c4, .slice Ab nb cb] w fun e w' => e = .returned (.bool (someM c but)) ∧ Below w.heap.size w w' := by
  have hhl := hv.holds
  have hB0 : Below w.heap.size w (w.alloc (.cells #[.slice A1 c.heat.length c1, .int .i64 c.gas, .slice A2 c.holds.length c2, .slice A3 c.lots.length c3, .slice A4 c.seen.length c4] 27)) := (Below.refl _ _).alloc (Nat.le_refl _) _
  have hcl : ∀ o : Nat, (w.alloc (.cells #[.slice A1 c.heat.length c1, .int .i64 c.gas, .slice A2 c.holds.length c2, .slice A3 c.lots.length c3, .slice A4 c.seen.length c4] 27)).cell? ⟨w.heap.size, o, none⟩ = (#[Value.slice A1 c.heat.length c1, .int .i64 c.gas, .slice A2 c.holds.length c2, .slice A3 c.lots.length c3, .slice A4 c.seen.length c4])[o]? := fun o => by
    rw [World.cell?_alloc_at _ _ _ _ rfl]
  have hs1 : (w.alloc (.cells #[.slice A1 c.heat.length c1, .int .i64 c.gas, .slice A2 c.holds.length c2, .slice A3 c.lots.length c3, .slice A4 c.seen.length c4] 27)).heap.size = w.heap.size + 1 := by simp
  have HB0 := hide hB0
  have HCL := hide hcl
  have HS1 := hide hs1
  have HC0 := hide (h.next hB0)
  have HBU := hide (hb.next hB0)
  have HV := hide hv
  clear hB0 hcl hs1 h hv hb
  go_enter Try.func50, Try.ntmps50
  go_wp2_with fail
  generalize (w.alloc (.cells #[.slice A1 c.heat.length c1, .int .i64 c.gas, .slice A2 c.holds.length c2, .slice A3 c.lots.length c3, .slice A4 c.seen.length c4] 27)) = w0 at *
  have pb0 := HCL.out 0
  have pb1 := HCL.out 1
  have pb2 := HCL.out 2
  have pb3 := HCL.out 3
  have pb4 := HCL.out 4
  simp only [List.getElem?_toArray, List.getElem?_cons_succ, List.getElem?_cons_zero] at pb0 pb1 pb2 pb3 pb4
  have hsw : w.heap.size < w0.heap.size := by have := HS1.out; omega
  go_loopw [5, 6] (fun v5 v6 wr => ∃ j : Nat, j ≤ c.holds.length ∧ v6 = .int .i64 j ∧ v5 = .bool (someTo c but j) ∧ Below w0.heap.size w0 wr) (fun _ v6 _ => c.holds.length - (intOf v6).toNat)
  case atStart => exact ⟨0, Nat.zero_le _, rfl, rfl, Below.refl _ _⟩
  case round =>
    obtain ⟨j, hj, rfl, rfl, hB⟩ := hrel
    obtain ⟨k1, f1⟩ := bcell hB
    by_cases hlt : j < c.holds.length
    · cases hsm : someTo c but j with
      | true =>
        have HSU := hide (someTo_succ c but j)
        have HSM := hide hsm
        clear hsm
        go_wp2_with (go_at_call 44; refine (ways7_any ((HC0.out.below hB).more hB.size) HV.out hlt ((HBU.out.below hB).more hB.size)).mono ?_; rintro e w2 ⟨A', c', rfl, hW, hb2⟩)
        go_roundw
        case rel => exact ⟨j + 1, by omega, by go_num, by rw [HSU.out, HSM.out]; cases hx : waysM c j but <;> simp, hB.trans (hb2.mono hB.size)⟩
        case measure => simp [intOf]; omega
      | false =>
        have HSF := hide (someTo_false hsm (by omega))
        clear hsm
        go_wp2
        go_ret
        exact ⟨ret_b HSF.out.symm, HB0.out.trans (hB.mono (by omega))⟩
    · have hjj : j = c.holds.length := by omega
      have HJ := hide hjj
      clear hjj
      go_wp2
      all_goals go_ret
      all_goals exact ⟨ret_b (by rw [someM, ← HJ.out] <;> simp_all), HB0.out.trans (hB.mono (by omega))⟩
end Go.Proofs.Ytbkknliggnhpcaa
/- The plain law of chapter 07: errors; what Check lets by. -/
namespace Go.Proofs.Ytbkknliggnhpcaa
def indexE (c : Cargo) (n below : Int) : Int := if (checkM c).2.2 = 0 then (if offP 0 (below - 1) n then 4 else 0) else (checkM c).2.2
def hourE (c : Cargo) (n e : Int) : Int := if e = 0 ∧ offP 0 c.heat.length n = true then 7 else e
def truthE (c : Cargo) (e : Int) : Int := if e = 0 ∧ someM c [] = false then 8 else e
theorem offP_false {lo hi n : Int} : offP lo hi n = false ↔ lo ≤ n ∧ n ≤ hi := by simp [offP]
theorem firstE_zero {α : Type} [Inhabited α] {f : α → Int} : ∀ (xs : List α) (i : Nat), (firstE f xs i).2 = 0 → ∀ j, j < xs.length → f (nth xs j) = 0
  | [], _, _, j, hj => by simp at hj
  | x :: l, i, h, j, hj => by
    rw [firstE] at h
    split at h
    · rename_i hx
      cases j with
      | zero => simpa [nth] using hx
      | succ j =>
        have := firstE_zero l (i + 1) h j (by simpa using hj)
        simpa [nth] using this
    · rename_i hx; exact absurd h hx
theorem failM_zero {α : Type} [Inhabited α] {f : α → Int} {xs : List α} {least most : Int} (h : (failM f xs least most).2 = 0) : (least ≤ xs.length ∧ xs.length ≤ most) ∧ ∀ j, j < xs.length → f (nth xs j) = 0 := by
  rw [failM] at h
  split at h
  · simp at h
  · rename_i ho
    exact ⟨offP_false.1 (by simpa using ho), firstE_zero _ _ h⟩
theorem widthM_zero {s : Span} {most : Int} (h : widthM s most = 0) : 0 ≤ s.lo ∧ s.lo ≤ s.hi ∧ s.hi ≤ most ∧ s.hi - s.lo ≤ 3 := by
  unfold widthM at h
  split at h
  · omega
  · rename_i h1
    split at h
    · omega
    · rename_i h2
      simp [offP] at h1 h2
      omega
theorem nth_out {α : Type} [Inhabited α] {l : List α} {i : Nat} (h : l.length ≤ i) : nth l i = default := by
  rw [nth, List.getD_eq_getElem?_getD, List.getElem?_eq_none h]; rfl
theorem valid_of {c : Cargo} (h : (checkM c).2.2 = 0) : Valid c := by
  unfold checkM at h
  split at h
  · rename_i h1; exact absurd h h1
  rename_i h1
  split at h
  · simp at h
  rename_i h2
  split at h
  · rename_i h3; exact absurd h h3
  rename_i h3
  split at h
  · rename_i h4; exact absurd h h4
  rename_i h4
  split at h
  · rename_i h5; exact absurd h h5
  rename_i h5
  obtain ⟨a1, b1⟩ := failM_zero (Classical.not_not.1 h1)
  have b2 := offP_false.1 (by simpa using h2)
  obtain ⟨a3, b3⟩ := failM_zero (Classical.not_not.1 h3)
  obtain ⟨a4, b4⟩ := failM_zero (Classical.not_not.1 h4)
  obtain ⟨a5, b5⟩ := failM_zero (Classical.not_not.1 h5)
  refine ⟨by omega, fun k => ?_, b2, by omega, fun i hi => ?_, by omega, fun i hi => ?_, by omega, fun i hi => ?_⟩
  · by_cases hk : k < c.heat.length
    · have := b1 k hk
      unfold heatE at this
      split at this
      · omega
      · rename_i hx; exact offP_false.1 (by simpa using hx)
    · rw [nth_out (by omega)]; decide
  · have := widthM_zero (b3 i hi); omega
  · have := b4 i hi
    unfold lotE at this
    split at this
    · omega
    rename_i x1
    split at this
    · omega
    rename_i x2
    have y1 := offP_false.1 (by simpa using x1)
    have y2 := offP_false.1 (by simpa using x2)
    have := widthM_zero this
    omega
  · have := b5 i hi
    unfold seenE at this
    split at this
    · omega
    rename_i x1
    split at this
    · omega
    rename_i x2
    have y1 := offP_false.1 (by simpa using x1)
    have y2 := offP_false.1 (by simpa using x2)
    omega
end Go.Proofs.Ytbkknliggnhpcaa
/- Contracts of the reference's index, hour, truth, hours, Green, Turns and Safe of chapter 07. -/
namespace Go.Proofs.Ytbkknliggnhpcaa
open Go.RowKit
attribute [local go_sem ↓] Go.wp_at_zero Go.wp_at_succ

set_option maxHeartbeats 1600000 in
set_option maxRecDepth 100000 in
theorem index7_any {A1 A2 A3 A4 : Option Addr} {c1 c2 c3 c4 : Nat} {c : Cargo} {w : World} (h : CargoV w w.heap.size c A1 A2 A3 A4 c1 c2 c3 c4) (n below : Int) (hb : 0 ≤ below ∧ below ≤ 9223372036854775807) :
    Calls Try.prog 74 #[cargoVal c A1 A2 A3 A4 c1 c2 c3 c4, .int .i64 n, .int .i64 below] w fun e w' => e = .returned (.int .i64 (indexE c n below)) ∧ Below w.heap.size w w' := by
  have hB0 : Below w.heap.size w (w.alloc (.cells #[.slice A1 c.heat.length c1, .int .i64 c.gas, .slice A2 c.holds.length c2, .slice A3 c.lots.length c3, .slice A4 c.seen.length c4] 27)) := (Below.refl _ _).alloc (Nat.le_refl _) _
  have hcl : ∀ o : Nat, (w.alloc (.cells #[.slice A1 c.heat.length c1, .int .i64 c.gas, .slice A2 c.holds.length c2, .slice A3 c.lots.length c3, .slice A4 c.seen.length c4] 27)).cell? ⟨w.heap.size, o, none⟩ = (#[Value.slice A1 c.heat.length c1, .int .i64 c.gas, .slice A2 c.holds.length c2, .slice A3 c.lots.length c3, .slice A4 c.seen.length c4])[o]? := fun o => by
    rw [World.cell?_alloc_at _ _ _ _ rfl]
  have hs1 : (w.alloc (.cells #[.slice A1 c.heat.length c1, .int .i64 c.gas, .slice A2 c.holds.length c2, .slice A3 c.lots.length c3, .slice A4 c.seen.length c4] 27)).heap.size = w.heap.size + 1 := by simp
  have HB0 := hide hB0
  have HCL := hide hcl
  have HS1 := hide hs1
  have HC0 := hide (h.next hB0)
  clear hB0 hcl hs1 h
  go_enter Try.func74, Try.ntmps74
  go_wp2_with fail
  generalize (w.alloc (.cells #[.slice A1 c.heat.length c1, .int .i64 c.gas, .slice A2 c.holds.length c2, .slice A3 c.lots.length c3, .slice A4 c.seen.length c4] 27)) = w0 at *
  have pb0 := HCL.out 0
  have pb1 := HCL.out 1
  have pb2 := HCL.out 2
  have pb3 := HCL.out 3
  have pb4 := HCL.out 4
  simp only [List.getElem?_toArray, List.getElem?_cons_succ, List.getElem?_cons_zero] at pb0 pb1 pb2 pb3 pb4
  have hsw : w.heap.size < w0.heap.size := by have := HS1.out; omega
  cases hce : ((checkM c).2.2 == 0) with
  | true =>
    have hce' : (checkM c).2.2 = 0 := by simpa using hce
    have HCE := hide hce'
    clear hce'
    cases hof : offP 0 (below - 1) n with
    | true =>
      have HOF := hide hof
      clear hof
      go_wp2_with (first
        | (go_at_call 17; refine (check7_any HC0.out).mono ?_; rintro e w1 ⟨rfl, hb1⟩)
        | (go_at_call 65; refine (in_any _ _ _ _).mono ?_; rintro e w' ⟨rfl, rfl⟩; rw [inB_off, HOF.out]))
      go_ret
      exact ⟨ret_i (by simp [indexE, HCE.out, HOF.out]), HB0.out.trans (hb1.mono (by omega))⟩
    | false =>
      have HOF := hide hof
      clear hof
      go_wp2_with (first
        | (go_at_call 17; refine (check7_any HC0.out).mono ?_; rintro e w1 ⟨rfl, hb1⟩)
        | (go_at_call 65; refine (in_any _ _ _ _).mono ?_; rintro e w' ⟨rfl, rfl⟩; rw [inB_off, HOF.out]))
      go_ret
      exact ⟨ret_i (by simp [indexE, HCE.out, HOF.out]), HB0.out.trans (hb1.mono (by omega))⟩
  | false =>
    have hce' : ¬ (checkM c).2.2 = 0 := by simpa using hce
    have HCE := hide hce'
    clear hce'
    go_wp2_with (go_at_call 17; refine (check7_any HC0.out).mono ?_; rintro e w1 ⟨rfl, hb1⟩)
    go_ret
    exact ⟨ret_i (by simp [indexE, HCE.out]), HB0.out.trans (hb1.mono (by omega))⟩

set_option maxHeartbeats 1600000 in
set_option maxRecDepth 100000 in
theorem hour7_any {A1 A2 A3 A4 : Option Addr} {c1 c2 c3 c4 : Nat} {c : Cargo} {w : World} (h : CargoV w w.heap.size c A1 A2 A3 A4 c1 c2 c3 c4) (n e0 : Int) :
    Calls Try.prog 80 #[cargoVal c A1 A2 A3 A4 c1 c2 c3 c4, .int .i64 n, .int .i64 e0] w fun e w' => e = .returned (.int .i64 (hourE c n e0)) ∧ Below w.heap.size w w' := by
  have hm1 := h.m1
  unfold maxLen at hm1
  have hB0 : Below w.heap.size w (w.alloc (.cells #[.slice A1 c.heat.length c1, .int .i64 c.gas, .slice A2 c.holds.length c2, .slice A3 c.lots.length c3, .slice A4 c.seen.length c4] 27)) := (Below.refl _ _).alloc (Nat.le_refl _) _
  have hcl : ∀ o : Nat, (w.alloc (.cells #[.slice A1 c.heat.length c1, .int .i64 c.gas, .slice A2 c.holds.length c2, .slice A3 c.lots.length c3, .slice A4 c.seen.length c4] 27)).cell? ⟨w.heap.size, o, none⟩ = (#[Value.slice A1 c.heat.length c1, .int .i64 c.gas, .slice A2 c.holds.length c2, .slice A3 c.lots.length c3, .slice A4 c.seen.length c4])[o]? := fun o => by
    rw [World.cell?_alloc_at _ _ _ _ rfl]
  have hs1 : (w.alloc (.cells #[.slice A1 c.heat.length c1, .int .i64 c.gas, .slice A2 c.holds.length c2, .slice A3 c.lots.length c3, .slice A4 c.seen.length c4] 27)).heap.size = w.heap.size + 1 := by simp
  have HB0 := hide hB0
  have HCL := hide hcl
  have HS1 := hide hs1
  have HC0 := hide (h.next hB0)
  clear hB0 hcl hs1 h
  cases hce : (e0 == 0) with
  | true =>
    have hce' : e0 = 0 := by simpa using hce
    have HCE := hide hce'
    clear hce'
    cases hof : offP 0 c.heat.length n with
    | true =>
      have HOF := hide hof
      clear hof
      go_enter Try.func80, Try.ntmps80
      go_wp2_with (go_at_call 65; refine (in_any _ _ _ _).mono ?_; rintro e w' ⟨rfl, rfl⟩; rw [inB_off, HOF.out])
      go_ret
      exact ⟨ret_i (by simp [hourE, HCE.out, HOF.out]), HB0.out⟩
    | false =>
      have HOF := hide hof
      clear hof
      go_enter Try.func80, Try.ntmps80
      go_wp2_with (go_at_call 65; refine (in_any _ _ _ _).mono ?_; rintro e w' ⟨rfl, rfl⟩; rw [inB_off, HOF.out])
      go_ret
      exact ⟨ret_i (by simp [hourE, HCE.out, HOF.out]), HB0.out⟩
  | false =>
    have hce' : ¬ e0 = 0 := by simpa using hce
    have HCE := hide hce'
    clear hce'
    go_enter Try.func80, Try.ntmps80
    go_wp2
    go_ret
    exact ⟨ret_i (by simp [hourE, HCE.out]), HB0.out⟩

set_option maxHeartbeats 1600000 in
set_option maxRecDepth 100000 in
theorem truth7_any {A1 A2 A3 A4 : Option Addr} {c1 c2 c3 c4 : Nat} {c : Cargo} {w : World} (h : CargoV w w.heap.size c A1 A2 A3 A4 c1 c2 c3 c4) (e0 : Int) (hv : e0 = 0 → Valid c) :
    Calls Try.prog 73 #[cargoVal c A1 A2 A3 A4 c1 c2 c3 c4, .int .i64 e0] w fun e w' => e = .returned (.int .i64 (truthE c e0)) ∧ Below w.heap.size w w' := by
  have HVV := hide hv
  clear hv
  have hB0 : Below w.heap.size w (w.alloc (.cells #[.slice A1 c.heat.length c1, .int .i64 c.gas, .slice A2 c.holds.length c2, .slice A3 c.lots.length c3, .slice A4 c.seen.length c4] 27)) := (Below.refl _ _).alloc (Nat.le_refl _) _
  have hcl : ∀ o : Nat, (w.alloc (.cells #[.slice A1 c.heat.length c1, .int .i64 c.gas, .slice A2 c.holds.length c2, .slice A3 c.lots.length c3, .slice A4 c.seen.length c4] 27)).cell? ⟨w.heap.size, o, none⟩ = (#[Value.slice A1 c.heat.length c1, .int .i64 c.gas, .slice A2 c.holds.length c2, .slice A3 c.lots.length c3, .slice A4 c.seen.length c4])[o]? := fun o => by
    rw [World.cell?_alloc_at _ _ _ _ rfl]
  have hs1 : (w.alloc (.cells #[.slice A1 c.heat.length c1, .int .i64 c.gas, .slice A2 c.holds.length c2, .slice A3 c.lots.length c3, .slice A4 c.seen.length c4] 27)).heap.size = w.heap.size + 1 := by simp
  have HB0 := hide hB0
  have HCL := hide hcl
  have HS1 := hide hs1
  have HC0 := hide (h.next hB0)
  clear hB0 hcl hs1 h
  cases hce : (e0 == 0) with
  | true =>
    have hce' : e0 = 0 := by simpa using hce
    have HCE := hide hce'
    have HV := hide (HVV.out hce')
    clear hce'
    cases hso : someM c [] with
    | true =>
      have HSO := hide hso
      clear hso
      go_enter Try.func73, Try.ntmps73
      go_wp2_with (go_at_call 50; refine (some7_any HC0.out HV.out IntsS.nil_).mono ?_; rintro e w1 ⟨rfl, hb1⟩; rw [HSO.out])
      go_ret
      exact ⟨ret_i (by simp [truthE, HCE.out, HSO.out]), HB0.out.trans (hb1.mono (by rw [HS1.out]; omega))⟩
    | false =>
      have HSO := hide hso
      clear hso
      go_enter Try.func73, Try.ntmps73
      go_wp2_with (go_at_call 50; refine (some7_any HC0.out HV.out IntsS.nil_).mono ?_; rintro e w1 ⟨rfl, hb1⟩; rw [HSO.out])
      go_ret
      exact ⟨ret_i (by simp [truthE, HCE.out, HSO.out]), HB0.out.trans (hb1.mono (by rw [HS1.out]; omega))⟩
  | false =>
    have hce' : ¬ e0 = 0 := by simpa using hce
    have HCE := hide hce'
    clear hce'
    go_enter Try.func73, Try.ntmps73
    go_wp2
    go_ret
    exact ⟨ret_i (by simp [truthE, HCE.out]), HB0.out⟩

theorem wpAnyH_more {P : Program} {md : Region.Mode} {ops : Array Oper} {Q : Exit → Act → World → Prop} {S S' : World → Prop} (hS : ∀ w, S' w → S w) : ∀ (fuel : Nat) (listed : Array Bool) (a : Act) (w : World),
    wpAnyH P md ops Q S' fuel listed a w → wpAnyH P md ops Q S fuel listed a w
  | 0, _, _, _, h => h
  | fuel + 1, _, _, _, h => ⟨h.1, fun i hi => wpOp_mono (fun a' w' h' => ⟨hS _ h'.1, wpAnyH_more hS fuel _ a' w' h'.2⟩) (h.2 i hi)⟩
/-- append of one integer, laid into a block of its own first, at a step of a region that draws its order. -/
theorem step_app1 {ops : Array Oper} {o : Oper} {a : Act} {K : Act → World → Prop} {Q : Exit → Act → World → Prop} {E : Prop} {w : World} (hgd : o.guard = none) (s x : Operand)
    (ho : o.op = .call { callee := .builtin .append, args := #[s, x], argTypes := #[22, 22] }) (base : Nat) (v : Value) (n : Nat) (xs : List Int) (hs : a.eval s = v) (hown : w.ownsRow base 3 1 v n (xs.map (Value.int .i64)))
    (b : Nat) (x0 : Int) (hx : a.eval x = .slice (some ⟨b, 0, none⟩) 1 1) (hc : w.cell? ⟨b, 0, none⟩ = some (.int .i64 x0)) (hn : n ≤ 1000000) (hbase : base ≤ w.heap.size)
    (h : ∀ g cap w', OwnI w' base g (n + 1) cap (xs ++ [x0]) → w.grownBy w' v.ownBlock → K (a.put o.dst (.slice (some ⟨g, 0, none⟩) (n + 1) cap)) w') :
    if Region.wanted o (yielded ops a.tmps) = true then Oper.wp Try.prog o a w K Q else E := by
  obtain ⟨i0, hi, hz0, hz1, hz2⟩ := info_parts Try.infoInt
  refine step_append_lies _ hgd s x 22 ho base 3 i0 (.int .i64 0) 1 8 Try.underlying22 hi hz0 hz1 hz2 rfl (by omega) v n _ hs hown ⟨b, 0, none⟩ 1 1 [.int .i64 x0] hx rfl
    (fun j u hu => ?_) (by simp [Value.oneCell']) (by omega) (by simp only [maxLen]; omega) (by omega) hbase _ rfl (fun g cap w' h1 h2 _ _ => h g cap w' (by simpa [OwnI] using h1) h2)
  cases j with
  | zero => simp at hu; rw [Addr.add_lit, ← hu]; exact hc
  | succ j => simp at hu
def timesW (c : Cargo) (hold : Nat) (p : Int × List Int) : List Int := timesM c (ofL c hold []) p.1 p.2
def hoursM (c : Cargo) (l : Nat) : List Int := (waysM c (nth c.lots l).hold.toNat []).map fun p => nth (timesW c (nth c.lots l).hold.toNat p) l
theorem map_take {α : Type} [Inhabited α] {β : Type} (l : List α) (f : α → β) {j : Nat} (h : j < l.length) : (l.take (j + 1)).map f = (l.take j).map f ++ [f (nth l j)] := by
  rw [take_nth h]; simp
theorem waysM_mem {c : Cargo} (h : Valid c) {hold : Nat} (hh : hold < c.holds.length) {but : List Int} {p : Int × List Int} (hp : p ∈ waysM c hold but) : (0 ≤ p.1 ∧ p.1 ≤ 6) ∧ p.2.length = c.lots.length ∧ ∀ k, 0 ≤ nth p.2 k ∧ nth p.2 k ≤ 40 :=
  allM_mem h hh ((List.mem_filter.1 hp).1)
theorem waysM_len {c : Cargo} (h : Valid c) {hold : Nat} (hh : hold < c.holds.length) {but : List Int} : (waysM c hold but).length ≤ 1024 :=
  Nat.le_trans (List.length_filter_le _ _) (allM_len h hh)

set_option maxHeartbeats 1600000 in
set_option maxRecDepth 100000 in
theorem hours7_any {A1 A2 A3 A4 : Option Addr} {c1 c2 c3 c4 : Nat} {c : Cargo} {w : World} (h : CargoV w w.heap.size c A1 A2 A3 A4 c1 c2 c3 c4) (hv : Valid c) {l : Nat} (hl : l < c.lots.length) :
    Calls Try.prog 75 #[cargoVal c A1 A2 A3 A4 c1 c2 c3 c4, .int .i64 l] w fun e w' => ∃ A' c', e = .returned (.slice A' (hoursM c l).length c') ∧ IntsS w' w'.heap.size A' (hoursM c l).length c' (hoursM c l) ∧ Below w.heap.size w w' := by
  have hm3 := h.m3
  unfold maxLen at hm3
  have hlh := hv.lot l hl
  obtain ⟨hd, hhd⟩ : ∃ hd : Nat, (nth c.lots l).hold = hd := ⟨(nth c.lots l).hold.toNat, by omega⟩
  have hhd2 : hd < c.holds.length := by omega
  have HHM := hide (show hoursM c l = (waysM c hd []).map fun p => nth (timesW c hd p) l by rw [hoursM, hhd]; rfl)
  have HV := hide hv
  have HSM := hide hv.small
  have hwl := waysM_len hv hhd2 (but := [])
  have hlots := hv.lots
  clear hlh hv
  have hB0 : Below w.heap.size w (w.alloc (.cells #[.slice A1 c.heat.length c1, .int .i64 c.gas, .slice A2 c.holds.length c2, .slice A3 c.lots.length c3, .slice A4 c.seen.length c4] 27)) := (Below.refl _ _).alloc (Nat.le_refl _) _
  have hcl : ∀ o : Nat, (w.alloc (.cells #[.slice A1 c.heat.length c1, .int .i64 c.gas, .slice A2 c.holds.length c2, .slice A3 c.lots.length c3, .slice A4 c.seen.length c4] 27)).cell? ⟨w.heap.size, o, none⟩ = (#[Value.slice A1 c.heat.length c1, .int .i64 c.gas, .slice A2 c.holds.length c2, .slice A3 c.lots.length c3, .slice A4 c.seen.length c4])[o]? := fun o => by
    rw [World.cell?_alloc_at _ _ _ _ rfl]
  have hs1 : (w.alloc (.cells #[.slice A1 c.heat.length c1, .int .i64 c.gas, .slice A2 c.holds.length c2, .slice A3 c.lots.length c3, .slice A4 c.seen.length c4] 27)).heap.size = w.heap.size + 1 := by simp
  have HB0 := hide hB0
  have HCL := hide hcl
  have HS1 := hide hs1
  have HC0 := hide (h.next hB0)
  clear hB0 hcl hs1 h
  go_enter Try.func75, Try.ntmps75
  obtain ⟨bl, ol, rfl, hbl, hfr, -, -, -⟩ := HC0.out.lots.lots hl
  rw [hhd] at hfr
  have hbl1 : bl < w.heap.size + 1 := by have := HS1.out; omega
  have hj1 : (l : Int) < (c.lots.length : Int) := by omega
  clear hhd
  go_wp2_with (go_at_call 44; refine (ways7_any HC0.out HV.out hhd2 IntsS.nil_).mono ?_; rintro e w1 ⟨AA, cA, rfl, hAll, hb1⟩)
  have pb0 := (hb1.cell (p := ⟨w.heap.size, 0, none⟩) (by simp)).trans (HCL.out 0)
  have pb1 := (hb1.cell (p := ⟨w.heap.size, 1, none⟩) (by simp)).trans (HCL.out 1)
  have pb2 := (hb1.cell (p := ⟨w.heap.size, 2, none⟩) (by simp)).trans (HCL.out 2)
  have pb3 := (hb1.cell (p := ⟨w.heap.size, 3, none⟩) (by simp)).trans (HCL.out 3)
  have pb4 := (hb1.cell (p := ⟨w.heap.size, 4, none⟩) (by simp)).trans (HCL.out 4)
  simp only [List.getElem?_toArray, List.getElem?_cons_succ, List.getElem?_cons_zero] at pb0 pb1 pb2 pb3 pb4
  have HC1 := hide (HC0.out.next hb1)
  have HB1 := hide (HB0.out.trans (hb1.mono (by rw [HS1.out]; omega)))
  have hwz : w.heap.size < w1.heap.size := by have h1 := hb1.size; have h2 := HS1.out; omega
  have HWL := hide hAll
  have hMEM : ∀ j, j < (waysM c hd []).length → (0 ≤ (nth (waysM c hd []) j).1 ∧ (nth (waysM c hd []) j).1 ≤ 6) ∧ (nth (waysM c hd []) j).2.length = c.lots.length ∧ ∀ k, 0 ≤ nth (nth (waysM c hd []) j).2 k ∧ nth (nth (waysM c hd []) j).2 k ≤ 40 :=
    fun j hj => waysM_mem HV.out hhd2 (by rw [nth_eq hj]; exact List.getElem_mem hj)
  have HMEM := hide hMEM
  clear hb1 HC0 HB0 HCL HS1 hAll hMEM hfr
  generalize waysM c hd [] = ws at *
  go_wp2_with fail
  go_loopw [7, 8] (fun v7 v8 wr => ∃ j : Nat, j ≤ ws.length ∧ v8 = .int .i64 j ∧ Below w1.heap.size w1 wr ∧ wr.ownsRow w1.heap.size 3 1 v7 ((ws.take j).map fun p => nth (timesW c hd p) l).length (((ws.take j).map fun p => nth (timesW c hd p) l).map (Value.int .i64))) (fun _ v8 _ => ws.length - (intOf v8).toNat)
  case atStart => exact ⟨0, Nat.zero_le _, rfl, Below.refl _ _, World.ownsRow_nil _ _ _ _⟩
  case round =>
    obtain ⟨j, hj, rfl, hB, hO⟩ := hrel
    have hsz := hB.size
    by_cases hlt : j < ws.length
    · obtain ⟨bw, ow, Ag, cg, rfl, hbw, hg0, hg1, hgi⟩ := HWL.out.at_ hlt
      have hmem := HMEM.out j hlt
      have q0 := (hB.cell (p := ⟨w.heap.size, 0, none⟩) hwz).trans pb0
      have q1 := (hB.cell (p := ⟨w.heap.size, 1, none⟩) hwz).trans pb1
      have q2 := (hB.cell (p := ⟨w.heap.size, 2, none⟩) hwz).trans pb2
      have q3 := (hB.cell (p := ⟨w.heap.size, 3, none⟩) hwz).trans pb3
      have q4 := (hB.cell (p := ⟨w.heap.size, 4, none⟩) hwz).trans pb4
      have q5 := (hB.cell (p := ⟨bw, ow + j * 2, none⟩) hbw).trans hg0
      have q6 := (hB.cell (p := ⟨bw, ow + j * 2 + 1, none⟩) hbw).trans hg1
      have HCC := hide (((HC1.out.below hB).more hsz).next ((Below.refl _ wr).drew))
      have HGG := hide (((hgi.below hB).more hsz).next ((Below.refl _ wr).drew))
      have zz1 : w.heap.size < wr.heap.size := by omega
      have zz2 : bw < wr.heap.size := by omega
      have hj0 : (0 : Int) ≤ (j : Int) := Int.natCast_nonneg _
      have hj1 : (j : Int) < (ws.length : Int) := by omega
      have hl0 : (0 : Int) ≤ (l : Int) := Int.natCast_nonneg _
      have hl1 : (l : Int) < (c.lots.length : Int) := by omega
      have HTW := hide (show timesM c (ofL c hd []) (nth ws j).1 (nth ws j).2 = timesW c hd (nth ws j) from rfl)
      have HMT := hide (map_take ws (fun p => nth (timesW c hd p) l) hlt)
      have HLN : Hid (((ws.take j).map fun p => nth (timesW c hd p) l).length ≤ 1024) := by show _ ≤ _; simp; omega
      have HME := hide hmem
      have HO := hide hO
      clear hmem hg0 hg1 hgi hO pb0 pb1 pb2 pb3 pb4
      go_wp2_with fail
      obtain ⟨S, hSd⟩ : ∃ S : World → Prop, S = fun w' => (w'.cell? ⟨w.heap.size, 0, none⟩ = some (.slice A1 c.heat.length c1) ∧ w'.cell? ⟨w.heap.size, 1, none⟩ = some (.int .i64 c.gas) ∧ w'.cell? ⟨w.heap.size, 2, none⟩ = some (.slice A2 c.holds.length c2) ∧ w'.cell? ⟨w.heap.size, 3, none⟩ = some (.slice (some ⟨bl, ol, none⟩) c.lots.length c3) ∧ w'.cell? ⟨w.heap.size, 4, none⟩ = some (.slice A4 c.seen.length c4) ∧ w'.cell? ⟨bw, ow + j * 2, none⟩ = some (.int .i64 (nth ws j).1) ∧ w'.cell? ⟨bw, ow + j * 2 + 1, none⟩ = some (.slice Ag (nth ws j).2.length cg)) := ⟨_, rfl⟩
      have HSD := hide hSd
      clear hSd
      refine wp_region_held_drew (S := S) (by kernel_rfl) (by rw [HSD.out]; exact ⟨q0, q1, q2, q3, q4, q5, q6⟩) (fun hHeld => ?_)
      refine wpAnyH_take (i := 0) (v := ?_) rfl (by kernel_rfl) (by kernel_rfl) (by kernel_rfl) (fun _ _ _ h => h) (Or.inl ⟨by rfl, fun W hSw => ?_⟩) hHeld ?_
      rotate_left
      · rw [HSD.out] at hSw; obtain ⟨s0, s1, s2, s3, s4, s5, s6⟩ := hSw; go_simp; try rfl
      simp only [Act.put, List.setIfInBounds_toArray, List.set_cons_zero, List.set_cons_succ]
      refine wpAnyH_take (i := 1) (v := ?_) rfl (by kernel_rfl) (by kernel_rfl) (by kernel_rfl) (fun _ _ _ h => h) (Or.inl ⟨by rfl, fun W hSw => ?_⟩) hHeld ?_
      rotate_left
      · rw [HSD.out] at hSw; obtain ⟨s0, s1, s2, s3, s4, s5, s6⟩ := hSw; go_simp; try rfl
      simp only [Act.put, List.setIfInBounds_toArray, List.set_cons_zero, List.set_cons_succ]
      refine wpAnyH_take (i := 2) (v := ?_) rfl (by kernel_rfl) (by kernel_rfl) (by kernel_rfl) (fun _ _ _ h => h) (Or.inl ⟨by rfl, fun W hSw => ?_⟩) hHeld ?_
      rotate_left
      · rw [HSD.out] at hSw; obtain ⟨s0, s1, s2, s3, s4, s5, s6⟩ := hSw; go_simp; try rfl
      simp only [Act.put, List.setIfInBounds_toArray, List.set_cons_zero, List.set_cons_succ]
      refine wpAnyH_take (i := 3) (v := ?_) rfl (by kernel_rfl) (by kernel_rfl) (by kernel_rfl) (fun _ _ _ h => h) (Or.inl ⟨by rfl, fun W hSw => ?_⟩) hHeld ?_
      rotate_left
      · rw [HSD.out] at hSw; obtain ⟨s0, s1, s2, s3, s4, s5, s6⟩ := hSw; go_simp; try rfl
      simp only [Act.put, List.setIfInBounds_toArray, List.set_cons_zero, List.set_cons_succ]
      refine wpAnyH_take (i := 5) (v := ?_) rfl (by kernel_rfl) (by kernel_rfl) (by kernel_rfl) (fun _ _ _ h => h) (Or.inl ⟨by rfl, fun W hSw => ?_⟩) hHeld ?_
      rotate_left
      · rw [HSD.out] at hSw; obtain ⟨s0, s1, s2, s3, s4, s5, s6⟩ := hSw; go_simp; try rfl
      simp only [Act.put, List.setIfInBounds_toArray, List.set_cons_zero, List.set_cons_succ]
      refine wpAnyH_take (i := 6) (v := ?_) rfl (by kernel_rfl) (by kernel_rfl) (by kernel_rfl) (fun _ _ _ h => h) (Or.inl ⟨by rfl, fun W hSw => ?_⟩) hHeld ?_
      rotate_left
      · rw [HSD.out] at hSw; obtain ⟨s0, s1, s2, s3, s4, s5, s6⟩ := hSw; go_simp; try rfl
      simp only [Act.put, List.setIfInBounds_toArray, List.set_cons_zero, List.set_cons_succ]
      refine wpAnyH_take (i := 7) (v := ?_) rfl (by kernel_rfl) (by kernel_rfl) (by kernel_rfl) (fun _ _ _ h => h) (Or.inl ⟨by rfl, fun W hSw => ?_⟩) hHeld ?_
      rotate_left
      · rw [HSD.out] at hSw; obtain ⟨s0, s1, s2, s3, s4, s5, s6⟩ := hSw; go_simp; try rfl
      simp only [Act.put, List.setIfInBounds_toArray, List.set_cons_zero, List.set_cons_succ]
      refine wpAnyH_take (i := 8) (v := ?_) rfl (by kernel_rfl) (by kernel_rfl) (by kernel_rfl) (fun _ _ _ h => h) (Or.inl ⟨by rfl, fun W hSw => ?_⟩) hHeld ?_
      rotate_left
      · rw [HSD.out] at hSw; obtain ⟨s0, s1, s2, s3, s4, s5, s6⟩ := hSw; go_simp; try rfl
      simp only [Act.put, List.setIfInBounds_toArray, List.set_cons_zero, List.set_cons_succ]
      refine wpAnyH_take (i := 10) (v := ?_) rfl (by kernel_rfl) (by kernel_rfl) (by kernel_rfl) (fun _ _ _ h => h) (Or.inl ⟨by rfl, fun W hSw => ?_⟩) hHeld ?_
      rotate_left
      · rw [HSD.out] at hSw; obtain ⟨s0, s1, s2, s3, s4, s5, s6⟩ := hSw; go_simp; try rfl
      simp only [Act.put, List.setIfInBounds_toArray, List.set_cons_zero, List.set_cons_succ]
      refine wpAnyH_ready (rs := [4]) (by kernel_rfl) (by simp) ?_
      refine AllReadyH.cons rfl (fun K hK => ?_) AllReadyH.nil
      go_simp
      go_at_call 45
      refine (of_any HCC.out hd IntsS.nil_ (by omega)).mono ?_
      rintro e w2 ⟨Ao, co, rfl, hOf, hbB⟩
      refine hK.out _ _ (by rw [HSD.out]; exact ⟨(hbB.cell (p := ⟨_, _, _⟩) zz1).trans q0, (hbB.cell (p := ⟨_, _, _⟩) zz1).trans q1, (hbB.cell (p := ⟨_, _, _⟩) zz1).trans q2, (hbB.cell (p := ⟨_, _, _⟩) zz1).trans q3, (hbB.cell (p := ⟨_, _, _⟩) zz1).trans q4, (hbB.cell (p := ⟨_, _, _⟩) zz2).trans q5, (hbB.cell (p := ⟨_, _, _⟩) zz2).trans q6⟩) (fun hHeld => ?_)
      clear hK K
      try simp only [Act.put, List.setIfInBounds_toArray, List.set_cons_zero, List.set_cons_succ]
      refine wpAnyH_ready (rs := [9]) (by kernel_rfl) (by simp) ?_
      refine AllReadyH.cons rfl (fun K hK => ?_) AllReadyH.nil
      go_simp
      go_at_call 85
      refine (times7_any (HCC.out.next hbB) HSM.out hOf ofL_lt (ofL_nodup _ _ _) (HGG.out.next hbB) HME.out.2.1 (fun i => by have := HME.out.2.2 i; omega) HME.out.1).mono ?_
      rintro e w3 ⟨At, ct, rfl, hT, hb3⟩
      rw [HTW.out] at hT
      obtain ⟨bt, ot, rfl, hbt, htc⟩ := hT.at_ hl
      have hbC := hbB.trans (hb3.mono hbB.size)
      refine hK.out _ _ (by rw [HSD.out]; exact ⟨(hbC.cell (p := ⟨_, _, _⟩) zz1).trans q0, (hbC.cell (p := ⟨_, _, _⟩) zz1).trans q1, (hbC.cell (p := ⟨_, _, _⟩) zz1).trans q2, (hbC.cell (p := ⟨_, _, _⟩) zz1).trans q3, (hbC.cell (p := ⟨_, _, _⟩) zz1).trans q4, (hbC.cell (p := ⟨_, _, _⟩) zz2).trans q5, (hbC.cell (p := ⟨_, _, _⟩) zz2).trans q6⟩) (fun hHeld => ?_)
      clear hK K
      try simp only [Act.put, List.setIfInBounds_toArray, List.set_cons_zero, List.set_cons_succ]
      refine wpAnyH_take (i := 11) (v := ?_) rfl (by kernel_rfl) (by kernel_rfl) (by kernel_rfl) (fun _ _ _ h => h) (Or.inl ⟨by rfl, fun W hSw => ?_⟩) hHeld ?_
      rotate_left
      · rw [HSD.out] at hSw; obtain ⟨s0, s1, s2, s3, s4, s5, s6⟩ := hSw; go_simp; try rfl
      simp only [Act.put, List.setIfInBounds_toArray, List.set_cons_zero, List.set_cons_succ]
      refine wpAnyH_ready (rs := [12]) (by kernel_rfl) (by simp) ?_
      refine AllReadyH.cons rfl (fun K hK => ?_) AllReadyH.nil
      go_simp
      refine hK.out _ _ hHeld (fun hHeld => ?_)
      clear hK K
      try simp only [Act.put, List.setIfInBounds_toArray, List.set_cons_zero, List.set_cons_succ]
      refine wpAnyH_ready (rs := [13]) (by kernel_rfl) (by simp) ?_
      refine AllReadyH.cons rfl (fun K hK => ?_) AllReadyH.nil
      go_simp
      have hbD := hbC.alloc (by have := hbC.size; omega) (.cells #[.int .i64 (nth (timesW c hd (nth ws j)) l)] 3)
      refine hK.out _ _ (by rw [HSD.out]; exact ⟨(hbD.cell (p := ⟨_, _, _⟩) zz1).trans q0, (hbD.cell (p := ⟨_, _, _⟩) zz1).trans q1, (hbD.cell (p := ⟨_, _, _⟩) zz1).trans q2, (hbD.cell (p := ⟨_, _, _⟩) zz1).trans q3, (hbD.cell (p := ⟨_, _, _⟩) zz1).trans q4, (hbD.cell (p := ⟨_, _, _⟩) zz2).trans q5, (hbD.cell (p := ⟨_, _, _⟩) zz2).trans q6⟩) (fun hHeld => ?_)
      clear hK K
      try simp only [Act.put, List.setIfInBounds_toArray, List.set_cons_zero, List.set_cons_succ]
      refine wpAnyH_ready (rs := [14]) (by kernel_rfl) (by simp) ?_
      refine AllReadyH.cons rfl (fun K hK => ?_) AllReadyH.nil
      have hHO := own_below HO.out (((Below.refl _ wr).drew).trans hbC)
      refine step_app1 (by rfl) _ _ (by rfl) w1.heap.size _ _ _ (by rfl) (hHO.alloc _) w3.heap.size (nth (timesW c hd (nth ws j)) l) (by rfl) (by rw [World.cell?_alloc_at _ _ _ _ rfl]; rfl) (by have := HLN.out; omega) (by have := hbC.size; simp at this ⊢; omega) ?_
      intro g6 cap6 w6 hO6 hgr
      have hb6 := app_below (show w1.heap.size ≤ w3.heap.size by have := hbC.size; simp at this; omega) hHO hgr
      refine hK.out _ _ (by rw [HSD.out]; exact ⟨(hb6.cell (p := ⟨_, _, _⟩) hwz).trans ((hbC.cell (p := ⟨_, _, _⟩) zz1).trans q0), (hb6.cell (p := ⟨_, _, _⟩) hwz).trans ((hbC.cell (p := ⟨_, _, _⟩) zz1).trans q1), (hb6.cell (p := ⟨_, _, _⟩) hwz).trans ((hbC.cell (p := ⟨_, _, _⟩) zz1).trans q2), (hb6.cell (p := ⟨_, _, _⟩) hwz).trans ((hbC.cell (p := ⟨_, _, _⟩) zz1).trans q3), (hb6.cell (p := ⟨_, _, _⟩) hwz).trans ((hbC.cell (p := ⟨_, _, _⟩) zz1).trans q4), (hb6.cell (p := ⟨_, _, _⟩) hbw).trans ((hbC.cell (p := ⟨_, _, _⟩) zz2).trans q5), (hb6.cell (p := ⟨_, _, _⟩) hbw).trans ((hbC.cell (p := ⟨_, _, _⟩) zz2).trans q6)⟩) (fun hHeld => ?_)
      clear hK K
      try simp only [Act.put, List.setIfInBounds_toArray, List.set_cons_zero, List.set_cons_succ]
      refine wpAnyH_take (i := 15) (v := ?_) rfl (by kernel_rfl) (by kernel_rfl) (by kernel_rfl) (fun _ _ _ h => h) (Or.inl ⟨by rfl, fun W hSw => ?_⟩) hHeld ?_
      rotate_left
      · rw [HSD.out] at hSw; obtain ⟨s0, s1, s2, s3, s4, s5, s6⟩ := hSw; go_simp; try rfl
      simp only [Act.put, List.setIfInBounds_toArray, List.set_cons_zero, List.set_cons_succ]
      refine wpAnyH_done (by kernel_rfl) ?_ _
      go_wp2
      go_roundw
      case rel => exact ⟨j + 1, by omega, by go_num, hB.trans (((((Below.refl _ wr).drew).trans hbC).mono hsz).trans hb6), by
        have e : ((ws.take j).map fun p => nth (timesW c hd p) l).length = j := by simp; omega
        unfold OwnI at hO6
        rw [e] at hO6
        rw [HMT.out, List.length_append, e]
        exact hO6⟩
      case measure => simp [intOf]; omega
    · have hjj : j = ws.length := by omega
      rw [hjj, List.take_length, ← HHM.out] at hO
      clear hjj
      obtain ⟨A', c', rfl, hW⟩ := IntsS.of_own hO
      go_wp2
      go_ret
      exact ⟨A', c', rfl, hW, HB1.out.trans (hB.mono (by omega))⟩

end Go.Proofs.Ytbkknliggnhpcaa
/- Contracts of the reference's Green, Safe and Turns of chapter 07. -/
namespace Go.Proofs.Ytbkknliggnhpcaa
open Go.RowKit
attribute [local go_sem ↓] Go.wp_at_zero Go.wp_at_succ

def greenTo (c : Cargo) (l : Nat) (at_ : Int) (j : Nat) : Bool := decide ((nth c.lots l).frm ≤ at_) && ((hoursM c l).take j).all fun x => decide (at_ < x)
def greenM (c : Cargo) (l : Nat) (at_ : Int) : Bool := greenTo c l at_ (hoursM c l).length
theorem greenTo_succ {c : Cargo} {l : Nat} {at_ : Int} {j : Nat} (h : j < (hoursM c l).length) : greenTo c l at_ (j + 1) = (greenTo c l at_ j && decide (at_ < nth (hoursM c l) j)) := by
  rw [greenTo, take_nth h]; simp [greenTo, Bool.and_assoc]
set_option maxHeartbeats 1600000 in
set_option maxRecDepth 100000 in
theorem green7_any {A1 A2 A3 A4 : Option Addr} {c1 c2 c3 c4 : Nat} {c : Cargo} {w : World} (h : CargoV w w.heap.size c A1 A2 A3 A4 c1 c2 c3 c4) (hv : Valid c) {l : Nat} (hl : l < c.lots.length) (at_ : Int) :
    Calls Try.prog 81 #[cargoVal c A1 A2 A3 A4 c1 c2 c3 c4, .int .i64 l, .int .i64 at_] w fun e w' => e = .returned (.bool (greenM c l at_)) ∧ Below w.heap.size w w' := by
  have hm3 := h.m3
  unfold maxLen at hm3
  have HV := hide hv
  have hlots := hv.lots
  clear hv
  have hB0 : Below w.heap.size w (w.alloc (.cells #[.slice A1 c.heat.length c1, .int .i64 c.gas, .slice A2 c.holds.length c2, .slice A3 c.lots.length c3, .slice A4 c.seen.length c4] 27)) := (Below.refl _ _).alloc (Nat.le_refl _) _
  have hcl : ∀ o : Nat, (w.alloc (.cells #[.slice A1 c.heat.length c1, .int .i64 c.gas, .slice A2 c.holds.length c2, .slice A3 c.lots.length c3, .slice A4 c.seen.length c4] 27)).cell? ⟨w.heap.size, o, none⟩ = (#[Value.slice A1 c.heat.length c1, .int .i64 c.gas, .slice A2 c.holds.length c2, .slice A3 c.lots.length c3, .slice A4 c.seen.length c4])[o]? := fun o => by
    rw [World.cell?_alloc_at _ _ _ _ rfl]
  have hs1 : (w.alloc (.cells #[.slice A1 c.heat.length c1, .int .i64 c.gas, .slice A2 c.holds.length c2, .slice A3 c.lots.length c3, .slice A4 c.seen.length c4] 27)).heap.size = w.heap.size + 1 := by simp
  have HB0 := hide hB0
  have HCL := hide hcl
  have HS1 := hide hs1
  have HC0 := hide (h.next hB0)
  clear hB0 hcl hs1 h
  go_enter Try.func81, Try.ntmps81
  obtain ⟨bl, ol, rfl, hbl, -, hfr, -, -⟩ := HC0.out.lots.lots hl
  have hbl1 : bl < w.heap.size + 1 := by have := HS1.out; omega
  have hj1 : (l : Int) < (c.lots.length : Int) := by omega
  go_wp2_with (go_at_call 75; refine (hours7_any HC0.out HV.out hl).mono ?_; rintro e w1 ⟨AA, cA, rfl, hAll, hb1⟩)
  have HB1 := hide (HB0.out.trans (hb1.mono (by rw [HS1.out]; omega)))
  have HGS : Hid (∀ j, j < (hoursM c l).length → greenTo c l at_ (j + 1) = (greenTo c l at_ j && decide (at_ < nth (hoursM c l) j))) := fun j hj => greenTo_succ hj
  have hnb := hAll.bd
  have HG0 := hide (show decide ((nth c.lots l).frm ≤ at_) = greenTo c l at_ 0 by simp [greenTo])
  have HGM := hide (show greenM c l at_ = greenTo c l at_ (hoursM c l).length from rfl)
  clear hfr hb1
  generalize hoursM c l = hs at *
  go_loop [7, 9] (fun v7 v9 => ∃ j : Nat, j ≤ hs.length ∧ v9 = .int .i64 j ∧ v7 = .bool (greenTo c l at_ j)) (fun _ v9 => hs.length - (intOf v9).toNat)
  case atStart => exact ⟨0, Nat.zero_le _, rfl, by rw [HG0.out]⟩
  case round =>
    obtain ⟨j, hj, rfl, rfl⟩ := hrel
    by_cases hlt : j < hs.length
    · obtain ⟨b, off, rfl, hb, hc⟩ := hAll.at_ hlt
      have HSU := hide (HGS.out j hlt)
      cases hg : greenTo c l at_ j with
      | true =>
        have HG := hide hg
        clear hg
        go_wp2
        go_round
        case rel => exact ⟨j + 1, by omega, by go_num, by rw [HSU.out, HG.out]; rfl⟩
        case measure => simp [intOf]; omega
      | false =>
        have HG := hide hg
        clear hg
        go_wp2
        go_round
        case rel => exact ⟨j + 1, by omega, by go_num, by rw [HSU.out, HG.out]; rfl⟩
        case measure => simp [intOf]; omega
    · go_wp2
      go_ret
      exact ⟨ret_b (by rw [HGM.out, show j = hs.length by omega]), HB1.out⟩

def safeTo (c : Cargo) (at_ : Int) (j : Nat) : List Nat := (List.range j).filter fun l => greenM c l at_
def safeM (c : Cargo) (at_ : Int) : List Nat := safeTo c at_ c.lots.length
theorem safeTo_succ (c : Cargo) (at_ : Int) (j : Nat) : safeTo c at_ (j + 1) = safeTo c at_ j ++ if greenM c j at_ then [j] else [] := by
  simp only [safeTo, List.range_succ, List.filter_append, List.filter_cons, List.filter_nil]
theorem safeTo_le (c : Cargo) (at_ : Int) (j : Nat) : (safeTo c at_ j).length ≤ j := by simpa [safeTo] using List.length_filter_le (fun l => greenM c l at_) (List.range j)
/-- What Safe and the like answer: a list, and an error. -/
def safeE (c : Cargo) (at_ : Int) : Int := truthE c (hourE c at_ (checkM c).2.2)
def safeR (c : Cargo) (at_ : Int) : List Nat := if safeE c at_ = 0 then safeM c at_ else []
theorem safeE_valid {c : Cargo} {at_ : Int} (h : safeE c at_ = 0) : Valid c ∧ someM c [] = true ∧ 0 ≤ at_ ∧ at_ ≤ c.heat.length := by
  unfold safeE truthE at h
  split at h
  · omega
  rename_i h1
  have h2 : (checkM c).2.2 = 0 := by
    unfold hourE at h
    split at h <;> omega
  refine ⟨valid_of h2, ?_, ?_⟩
  · cases hx : someM c [] with
    | true => rfl
    | false => exact absurd ⟨h, hx⟩ h1
  · unfold hourE at h
    split at h
    · omega
    · rename_i h3
      exact offP_false.1 (by cases hx : offP 0 (c.heat.length : Int) at_ with
        | false => rfl
        | true => exact absurd ⟨h2, hx⟩ h3)
theorem hourE_valid {c : Cargo} {at_ : Int} (h : hourE c at_ (checkM c).2.2 = 0) : Valid c := by
  refine valid_of ?_
  unfold hourE at h
  split at h <;> omega
theorem ret_lst {w1 : World} {A : Option Addr} {n c : Nat} {e : Int} {l : List Nat} {P : Prop} (hl : n = l.length) (hs : IntsS w1 w1.heap.size A n c (natInts l)) (hp : P) :
    ∃ A' c', Ending.returned (.tuple #[.slice A n c, .int .i64 e]) = .returned (.tuple #[.slice A' l.length c', .int .i64 e]) ∧ IntsS w1 w1.heap.size A' l.length c' (natInts l) ∧ P := by
  subst hl; exact ⟨A, c, rfl, hs, hp⟩

set_option maxHeartbeats 1600000 in
set_option maxRecDepth 100000 in
theorem safe7_any {A1 A2 A3 A4 : Option Addr} {c1 c2 c3 c4 : Nat} {c : Cargo} {w : World} (h : CargoV w w.heap.size c A1 A2 A3 A4 c1 c2 c3 c4) (at_ : Int) :
    Calls Try.prog 21 #[cargoVal c A1 A2 A3 A4 c1 c2 c3 c4, .int .i64 at_] w fun e w' => ∃ A' c', e = .returned (.tuple #[.slice A' (safeR c at_).length c', .int .i64 (safeE c at_)]) ∧ IntsS w' w'.heap.size A' (safeR c at_).length c' (natInts (safeR c at_)) ∧ Below w.heap.size w w' := by
  have hm3 := h.m3
  unfold maxLen at hm3
  obtain ⟨i0, hi, hz0, hz1, hz2⟩ := info_parts Try.infoInt
  have hB0 : Below w.heap.size w (w.alloc (.cells #[.slice A1 c.heat.length c1, .int .i64 c.gas, .slice A2 c.holds.length c2, .slice A3 c.lots.length c3, .slice A4 c.seen.length c4] 27)) := (Below.refl _ _).alloc (Nat.le_refl _) _
  have hcl : ∀ o : Nat, (w.alloc (.cells #[.slice A1 c.heat.length c1, .int .i64 c.gas, .slice A2 c.holds.length c2, .slice A3 c.lots.length c3, .slice A4 c.seen.length c4] 27)).cell? ⟨w.heap.size, o, none⟩ = (#[Value.slice A1 c.heat.length c1, .int .i64 c.gas, .slice A2 c.holds.length c2, .slice A3 c.lots.length c3, .slice A4 c.seen.length c4])[o]? := fun o => by
    rw [World.cell?_alloc_at _ _ _ _ rfl]
  have hs1 : (w.alloc (.cells #[.slice A1 c.heat.length c1, .int .i64 c.gas, .slice A2 c.holds.length c2, .slice A3 c.lots.length c3, .slice A4 c.seen.length c4] 27)).heap.size = w.heap.size + 1 := by simp
  have HB0 := hide hB0
  have HCL := hide hcl
  have HS1 := hide hs1
  have HC0 := hide (h.next hB0)
  clear hB0 hcl hs1 h
  go_enter Try.func21, Try.ntmps21
  go_wp2_with (go_at_call 17; refine (check7_any HC0.out).mono ?_; rintro e w1 ⟨rfl, hb1⟩)
  have pb0 := (hb1.cell (p := ⟨w.heap.size, 0, none⟩) (by simp)).trans (HCL.out 0)
  have pb1 := (hb1.cell (p := ⟨w.heap.size, 1, none⟩) (by simp)).trans (HCL.out 1)
  have pb2 := (hb1.cell (p := ⟨w.heap.size, 2, none⟩) (by simp)).trans (HCL.out 2)
  have pb3 := (hb1.cell (p := ⟨w.heap.size, 3, none⟩) (by simp)).trans (HCL.out 3)
  have pb4 := (hb1.cell (p := ⟨w.heap.size, 4, none⟩) (by simp)).trans (HCL.out 4)
  simp only [List.getElem?_toArray, List.getElem?_cons_succ, List.getElem?_cons_zero] at pb0 pb1 pb2 pb3 pb4
  have HC1 := hide (HC0.out.next hb1)
  have HB1 := hide (HB0.out.trans (hb1.mono (by rw [HS1.out]; omega)))
  have hwz : w.heap.size < w1.heap.size := by have h1 := hb1.size; have h2 := HS1.out; omega
  have HCG : Hid (∀ t : Later w1, CargoV (grow w1 t) (grow w1 t).heap.size c A1 A2 A3 A4 c1 c2 c3 c4) := fun t => HC1.out.next grow_below
  clear hb1 HC0 HB0 HCL HS1
  refine wp_region_grow (by kernel_rfl) (by kernel_rfl) ?_
  have hgc := @grow_cell
  repeat (first | go_big_quiet_step ((first | (go_at_call 80; exact Calls.grow_of (hour7_any (HCG.out _) _ _)) | (go_at_call 73; exact Calls.grow_of (truth7_any (HCG.out _) _ hourE_valid)))) | quiet_step ((first | (go_at_call 80; exact Calls.grow_of (hour7_any (HCG.out _) _ _)) | (go_at_call 73; exact Calls.grow_of (truth7_any (HCG.out _) _ hourE_valid)))))
  refine wpQuiet_nil ?_
  rintro _ ⟨t, rfl⟩
  have hbt := grow_below (w := w1) (t := t)
  have HC2 := hide (HC1.out.next hbt)
  clear hgc HC1
  generalize grow w1 t = w2 at *
  obtain ⟨k2, f2⟩ := bcell hbt
  have hwz2 : w.heap.size < w2.heap.size := by have := hbt.size; omega
  have HSE := hide (show truthE c (hourE c at_ (checkM c).2.2) = safeE c at_ from rfl)
  have HBT := hide (HB1.out.trans (hbt.mono (by omega)))
  rw [HSE.out]
  cases hse : (safeE c at_ != 0) with
  | true =>
    have HE := hide (show ¬ safeE c at_ = 0 by simpa using hse)
    go_wp2
    go_ret2
    exact ret_lst (by rw [safeR, if_neg HE.out]; rfl) (by rw [safeR, if_neg HE.out]; exact IntsS.nil_) HBT.out
  | false =>
    have HE := hide (show safeE c at_ = 0 by simpa using hse)
    have HV := hide (safeE_valid HE.out).1
    have hlots := HV.out.lots
    have hdr : safeR c at_ = safeM c at_ := by rw [safeR, if_pos HE.out]
    have HSR := hide hdr
    clear hdr
    go_wp2_with fail
    go_loopw [9, 10] (fun v9 v10 wr => ∃ j : Nat, j ≤ c.lots.length ∧ v10 = .int .i64 j ∧ Below w2.heap.size w2 wr ∧ wr.ownsRow w2.heap.size 3 1 v9 (safeTo c at_ j).length ((safeTo c at_ j).map fun n : Nat => .int .i64 n)) (fun _ v10 _ => c.lots.length - (intOf v10).toNat)
    case atStart => exact ⟨0, Nat.zero_le _, rfl, Below.refl _ _, World.ownsRow_nil _ _ _ _⟩
    case round =>
      obtain ⟨j, hj, rfl, hB, hown⟩ := hrel
      obtain ⟨k3, f3⟩ := bcell hB
      have hsz := hB.size
      by_cases hlt : j < c.lots.length
      · have hle := safeTo_le c at_ j
        have HS := hide (safeTo_succ c at_ j)
        cases hgm : greenM c j at_ with
        | true =>
          have HGM := hide hgm
          clear hgm
          go_wp2_with (first
            | (go_at_call 81; refine (green7_any ((HC2.out.below hB).more hsz) HV.out hlt at_).mono ?_; rintro e w3 ⟨rfl, hb3⟩; rw [HGM.out]; have hown3 := own_below hown hb3; have hB3 := hB.trans (hb3.mono hsz); have hsz3 := hB3.size)
            | (at_builtin
               refine wpList_append_own _ rfl _ _ 22 rfl w2.heap.size 3 i0 (.int .i64 0) 1 8 Try.underlying22 hi hz0 hz1 hz2 rfl (by decide) _ _ _ rfl (hown3.alloc _) ⟨w3.heap.size, 0, none⟩ 1 1 [.int .i64 j] rfl rfl ?c1 ?c2 ?c3 ?c4 ?c5 ?_
               case c1 => exact cell_one_new _ _ _
               case c2 => simp [Value.oneCell']
               case c3 => simp [maxLen]; omega
               case c4 => omega
               case c5 => simp; omega
               intro v' w4 hown' hg _
               have hb4 := app_below hsz3 hown3 hg
               clear hg))
          go_roundw
          case rel => exact ⟨j + 1, by omega, by go_num, hB3.trans hb4, by rw [HS.out, HGM.out]; simpa using hown'⟩
          case measure => simp [intOf]; omega
        | false =>
          have HGM := hide hgm
          clear hgm
          go_wp2_with (go_at_call 81; refine (green7_any ((HC2.out.below hB).more hsz) HV.out hlt at_).mono ?_; rintro e w3 ⟨rfl, hb3⟩; rw [HGM.out])
          go_roundw
          case rel => exact ⟨j + 1, by omega, by go_num, hB.trans (hb3.mono hsz), by rw [HS.out, HGM.out]; simpa using own_below hown hb3⟩
          case measure => simp [intOf]; omega
      · have hjj : j = c.lots.length := by omega
        rw [hjj] at hown
        clear hjj
        obtain ⟨A', c', rfl, hs⟩ := IntsS.of_own (xs := natInts (safeTo c at_ c.lots.length)) (by rw [natInts_vals]; exact hown)
        go_wp2
        go_ret2
        rw [HE.out]
        exact ret_lst (by rw [HSR.out]; rfl) (by rw [HSR.out]; exact hs) (HBT.out.trans (hB.mono (by omega)))

end Go.Proofs.Ytbkknliggnhpcaa
