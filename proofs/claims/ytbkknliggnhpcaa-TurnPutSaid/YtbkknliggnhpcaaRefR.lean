/- The contract of the reference's Put of chapter 07. -/
import Derived.Test.YtbkknliggnhpcaaRefQ
import Derived.Test.YtbkknliggnhpcaaOd
set_option linter.unusedVariables false
set_option linter.unusedSimpArgs false
namespace Go.Proofs.Ytbkknliggnhpcaa
open Go.RowKit
attribute [local go_sem ↓] Go.wp_at_zero Go.wp_at_succ

/-- What is asked ahead of whether there is a truth. -/
def putA (c : Cargo) (lo hi frm un : Int) : Int :=
  let e1 := hourE c un (hourE c frm (checkM c).2.2)
  let s := widthM ⟨lo, hi⟩ 40
  let e2 := if e1 = 0 ∧ s = 7 then 7 else e1
  if e2 = 0 ∧ (un ≤ frm ∨ s ≠ 0) then 2 else e2
def putE7 (c : Cargo) (lo hi frm un : Int) : Int := truthE c (putA c lo hi frm un)
def fitsAll (c : Cargo) (lo hi frm un : Int) (hd : Nat) (p : Int × List Int) : Bool := (spanVals ⟨lo, hi⟩).all fun n => fitsB c hd n frm un p
def putIs7 (c : Cargo) (lo hi frm un : Int) (hd : Nat) : Bool := (waysM c hd []).all (fitsAll c lo hi frm un hd)
def putR (c : Cargo) (lo hi frm un : Int) : List Nat × Int := if putE7 c lo hi frm un ≠ 0 then ([], putE7 c lo hi frm un) else ((List.range c.holds.length).filter (putIs7 c lo hi frm un), 0)
theorem putA_ok {c : Cargo} {lo hi frm un : Int} (h1 : hourE c un (hourE c frm (checkM c).2.2) = 0) (h2 : widthM ⟨lo, hi⟩ 40 = 0) (h3 : ¬ un ≤ frm) : putA c lo hi frm un = 0 := by
  simp [putA, h1, h2, h3]
theorem hour2_valid {c : Cargo} {frm un : Int} (h : hourE c un (hourE c frm (checkM c).2.2) = 0) : Valid c := valid_of (hourE_zero (hourE_zero h).1).1
theorem putR_le (c : Cargo) (lo hi frm un : Int) (k : Nat) : ((List.range k).filter (putIs7 c lo hi frm un)).length ≤ k := by
  simpa using List.length_filter_le (putIs7 c lo hi frm un) (List.range k)
theorem putR_succ (c : Cargo) (lo hi frm un : Int) (k : Nat) : (List.range (k + 1)).filter (putIs7 c lo hi frm un) = (List.range k).filter (putIs7 c lo hi frm un) ++ if putIs7 c lo hi frm un k then [k] else [] := by
  simp only [List.range_succ, List.filter_append, List.filter_cons, List.filter_nil]

set_option maxHeartbeats 4000000 in
set_option maxRecDepth 100000 in
theorem put7_any {A1 A2 A3 A4 : Option Addr} {c1 c2 c3 c4 : Nat} {c : Cargo} {w : World} (h : CargoV w w.heap.size c A1 A2 A3 A4 c1 c2 c3 c4) (lo hi frm un : Int) :
    Calls Try.prog 29 #[cargoVal c A1 A2 A3 A4 c1 c2 c3 c4, .agg #[.int .i64 lo, .int .i64 hi], .int .i64 frm, .int .i64 un] w fun e w' => ∃ A cp, e = .returned (.tuple #[.slice A (putR c lo hi frm un).1.length cp, .int .i64 (putR c lo hi frm un).2]) ∧ IntsS w' w'.heap.size A (putR c lo hi frm un).1.length cp (natInts (putR c lo hi frm un).1) ∧ Below w.heap.size w w' := by
  obtain ⟨i0, hi0, hz00, hz01, hz02⟩ := info_parts Try.infoInt
  have hm2 := h.m2
  unfold maxLen at hm2
  have hB1 : Below w.heap.size w (w.alloc (.cells #[.slice A1 c.heat.length c1, .int .i64 c.gas, .slice A2 c.holds.length c2, .slice A3 c.lots.length c3, .slice A4 c.seen.length c4] 27)) := (Below.refl _ _).alloc (Nat.le_refl _) _
  have hB2 : Below (w.alloc (.cells #[.slice A1 c.heat.length c1, .int .i64 c.gas, .slice A2 c.holds.length c2, .slice A3 c.lots.length c3, .slice A4 c.seen.length c4] 27)).heap.size (w.alloc (.cells #[.slice A1 c.heat.length c1, .int .i64 c.gas, .slice A2 c.holds.length c2, .slice A3 c.lots.length c3, .slice A4 c.seen.length c4] 27)) ((w.alloc (.cells #[.slice A1 c.heat.length c1, .int .i64 c.gas, .slice A2 c.holds.length c2, .slice A3 c.lots.length c3, .slice A4 c.seen.length c4] 27)).alloc (.cells #[.int .i64 lo, .int .i64 hi] 32)) := (Below.refl _ _).alloc (Nat.le_refl _) _
  have bs : Blk ((w.alloc (.cells #[.slice A1 c.heat.length c1, .int .i64 c.gas, .slice A2 c.holds.length c2, .slice A3 c.lots.length c3, .slice A4 c.seen.length c4] 27)).alloc (.cells #[.int .i64 lo, .int .i64 hi] 32)) (w.heap.size + 1) 32 #[.int .i64 lo, .int .i64 hi] := Blk.made' (by simp)
  have HK := hide ((BoxC.made h).next hB2)
  have HB := hide (hB1.trans (hB2.mono hB1.size))
  have HS := hide bs
  have HPE := hide (show putE7 c lo hi frm un = truthE c (putA c lo hi frm un) from rfl)
  have HPA := hide (show putA c lo hi frm un = (if (if hourE c un (hourE c frm (checkM c).2.2) = 0 ∧ widthM ⟨lo, hi⟩ 40 = 7 then 7 else hourE c un (hourE c frm (checkM c).2.2)) = 0 ∧ (un ≤ frm ∨ widthM ⟨lo, hi⟩ 40 ≠ 0) then 2 else (if hourE c un (hourE c frm (checkM c).2.2) = 0 ∧ widthM ⟨lo, hi⟩ 40 = 7 then 7 else hourE c un (hourE c frm (checkM c).2.2))) from rfl)
  have HPR := hide (show putR c lo hi frm un = if putE7 c lo hi frm un ≠ 0 then ([], putE7 c lo hi frm un) else ((List.range c.holds.length).filter (putIs7 c lo hi frm un), 0) from rfl)
  have HVV := hide (fun h => hour2_valid (c := c) (frm := frm) (un := un) h)
  have HWZ := hide (fun h => widthM_zero (s := ⟨lo, hi⟩) (most := 40) h)
  have HOK := hide (fun h1 h2 h3 => putA_ok (c := c) (lo := lo) (hi := hi) (frm := frm) (un := un) h1 h2 h3)
  clear hB1 hB2 bs h
  go_enter Try.func29, Try.ntmps29
  go_upto_region 1 with (fail)
  generalize ((w.alloc (.cells #[.slice A1 c.heat.length c1, .int .i64 c.gas, .slice A2 c.holds.length c2, .slice A3 c.lots.length c3, .slice A4 c.seen.length c4] 27)).alloc (.cells #[.int .i64 lo, .int .i64 hi] 32)) = v0 at *
  obtain ⟨hv, z, x0, x1, x2, x3, x4⟩ := HK.out
  have HV := hide hv
  clear hv
  go_upto_region 2 with (go_at_call 17; refine (check7_any HV.out).mono ?_; rintro e v1 ⟨rfl, hb⟩)
  have HK := hide (HK.out.next hb)
  have HS := hide (HS.out.next hb)
  have HB := hide (HB.out.trans (hb.mono HB.out.size))
  clear hb z x0 x1 x2 x3 x4 HV
  obtain ⟨hv, z, x0, x1, x2, x3, x4⟩ := HK.out
  have HCG : Hid (∀ t : Later v1, CargoV (grow v1 t) (grow v1 t).heap.size c A1 A2 A3 A4 c1 c2 c3 c4) := hide (fun t => hv.next grow_below)
  clear hv
  generalize (checkM c).1 = p1 at *
  generalize (checkM c).2.1 = p2 at *
  generalize (checkM c).2.2 = E0 at *
  refine wp_region_grow (by kernel_rfl) (by kernel_rfl) ?_
  have hgc := @grow_cell
  repeat (first | go_big_quiet_step (((go_at_call 80; exact Calls.grow_of (hour7_any (HCG.out _) _ _)))) | quiet_step (((go_at_call 80; exact Calls.grow_of (hour7_any (HCG.out _) _ _)))))
  refine wpQuiet_nil ?_
  rintro _ ⟨t, rfl⟩
  have hbt := grow_below (w := v1) (t := t)
  have HK := hide (HK.out.next hbt)
  have HS := hide (HS.out.next hbt)
  have HB := hide (HB.out.trans (hbt.mono HB.out.size))
  clear hgc z x0 x1 x2 x3 x4 hbt HCG
  generalize grow v1 t = v2 at *
  generalize hourE c un (hourE c frm E0) = e1 at *
  generalize hourE c frm E0 = e0 at *
  have y0 : v2.cell? ⟨w.heap.size + 1, 0, none⟩ = some (.int .i64 lo) := HS.out.at_ 0
  have y1 : v2.cell? ⟨w.heap.size + 1, 1, none⟩ = some (.int .i64 hi) := HS.out.at_ 1
  have zs := HS.out.lt
  go_upto_region 4 with (go_at_call 66; refine (ends7_any ⟨lo, hi⟩ 40 _ (by omega) (by omega)).mono ?_; rintro e v3 ⟨rfl, hb⟩)
  have HK := hide (HK.out.next hb)
  have HS := hide (HS.out.next hb)
  have HB := hide (HB.out.trans (hb.mono HB.out.size))
  clear hb y0 y1 zs
  generalize widthM ⟨lo, hi⟩ 40 = s at *
  cases q1 : (e1 == 0) with
  | false =>
    have HNE := hide (show e1 ≠ 0 by simpa using q1)
    have HPX := hide (show putA c lo hi frm un = e1 by rw [HPA.out]; simp [HNE.out])
    have HTE := hide (truthE_ne (c := c) HNE.out)
    obtain ⟨hv, z, x0, x1, x2, x3, x4⟩ := HK.out
    have HV := hide hv
    clear hv
    go_wp2_with (go_at_call 73; refine (truth7_any HV.out e1 (fun h => absurd h HNE.out)).mono ?_; rintro e v9 ⟨rfl, hb⟩; rw [HTE.out])
    go_ret2
    have hE : putE7 c lo hi frm un = e1 := by rw [HPE.out, HPX.out]; exact HTE.out
    have hR : putR c lo hi frm un = ([], e1) := by rw [HPR.out, hE, if_pos HNE.out]
    rw [hR]
    exact ⟨none, 0, rfl, IntsS.nil_.more (Nat.zero_le _), HB.out.trans (hb.mono HB.out.size)⟩
  | true =>
    have HQ1 := hide (show e1 = 0 by simpa using q1)
    cases q2 : (s == 7) with
    | true =>
      have HQ2 := hide (show s = 7 by simpa using q2)
      have HNE := hide (show (7 : Int) ≠ 0 by decide)
      have HPX := hide (show putA c lo hi frm un = 7 by rw [HPA.out]; simp [HQ1.out, HQ2.out])
      have HTE := hide (truthE_ne (c := c) HNE.out)
      obtain ⟨hv, z, x0, x1, x2, x3, x4⟩ := HK.out
      have HV := hide hv
      clear hv
      have hs7 := HQ2.out
      subst hs7
      go_wp2_with (go_at_call 73; refine (truth7_any HV.out 7 (fun h => absurd h HNE.out)).mono ?_; rintro e v9 ⟨rfl, hb⟩; rw [HTE.out])
      go_ret2
      have hE : putE7 c lo hi frm un = 7 := by rw [HPE.out, HPX.out]; exact HTE.out
      have hR : putR c lo hi frm un = ([], 7) := by rw [HPR.out, hE, if_pos HNE.out]
      rw [hR]
      exact ⟨none, 0, rfl, IntsS.nil_.more (Nat.zero_le _), HB.out.trans (hb.mono HB.out.size)⟩
    | false =>
      have HQ2 := hide (show s ≠ 7 by simpa using q2)
      cases q3 : decide (un ≤ frm) with
      | true =>
        have HQ3 := hide (show un ≤ frm by simpa using q3)
        have HNE := hide (show (2 : Int) ≠ 0 by decide)
        have HPX := hide (show putA c lo hi frm un = 2 by rw [HPA.out]; simp [HQ1.out, HQ2.out, HQ3.out])
        have HTE := hide (truthE_ne (c := c) HNE.out)
        obtain ⟨hv, z, x0, x1, x2, x3, x4⟩ := HK.out
        have HV := hide hv
        clear hv
        go_wp2_with (go_at_call 73; refine (truth7_any HV.out 2 (fun h => absurd h HNE.out)).mono ?_; rintro e v9 ⟨rfl, hb⟩; rw [HTE.out])
        go_ret2
        have hE : putE7 c lo hi frm un = 2 := by rw [HPE.out, HPX.out]; exact HTE.out
        have hR : putR c lo hi frm un = ([], 2) := by rw [HPR.out, hE, if_pos HNE.out]
        rw [hR]
        exact ⟨none, 0, rfl, IntsS.nil_.more (Nat.zero_le _), HB.out.trans (hb.mono HB.out.size)⟩
      | false =>
        have HQ3 := hide (show ¬ un ≤ frm by simpa using q3)
        cases q4 : (s != 0) with
        | true =>
          have HQ4 := hide (show s ≠ 0 by simpa using q4)
          have HNE := hide (show (2 : Int) ≠ 0 by decide)
          have HPX := hide (show putA c lo hi frm un = 2 by rw [HPA.out]; simp [HQ1.out, HQ2.out, HQ4.out])
          have HTE := hide (truthE_ne (c := c) HNE.out)
          obtain ⟨hv, z, x0, x1, x2, x3, x4⟩ := HK.out
          have HV := hide hv
          clear hv
          go_wp2_with (go_at_call 73; refine (truth7_any HV.out 2 (fun h => absurd h HNE.out)).mono ?_; rintro e v9 ⟨rfl, hb⟩; rw [HTE.out])
          go_ret2
          have hE : putE7 c lo hi frm un = 2 := by rw [HPE.out, HPX.out]; exact HTE.out
          have hR : putR c lo hi frm un = ([], 2) := by rw [HPR.out, hE, if_pos HNE.out]
          rw [hR]
          exact ⟨none, 0, rfl, IntsS.nil_.more (Nat.zero_le _), HB.out.trans (hb.mono HB.out.size)⟩
        | false =>
          have HQ4 := hide (show s = 0 by simpa using q4)
          have hval := HVV.out HQ1.out
          obtain ⟨s1, s2, s3, s4⟩ := HWZ.out HQ4.out
          have HPX := hide (HOK.out HQ1.out HQ4.out (by have := HQ3.out; omega))
          have HVD := hide hval
          have hlots := hval.lots
          obtain ⟨hh1, hh2⟩ := hval.holds
          clear hval
          obtain ⟨hv, z, x0, x1, x2, x3, x4⟩ := HK.out
          have HV := hide hv
          clear hv
          have he1 := HQ1.out
          subst he1
          have HTR := hide (fun (W : World) (h : CargoV W W.heap.size c A1 A2 A3 A4 c1 c2 c3 c4) => truth7_any h 0 (fun _ => HVD.out))
          have HE := hide (show putE7 c lo hi frm un = truthE c 0 by rw [HPE.out, HPX.out])
          generalize truthE c 0 = E at *
          go_upto_region 9 with (go_at_call 73; refine (HTR.out _ HV.out).mono ?_; rintro e v4 ⟨rfl, hb⟩)
          have HK := hide (HK.out.next hb)
          have HS := hide (HS.out.next hb)
          have HB := hide (HB.out.trans (hb.mono HB.out.size))
          clear hb z x0 x1 x2 x3 x4 HV
          cases hce : (E != 0) with
          | true =>
            have HNE := hide (show E ≠ 0 by simpa using hce)
            go_wp2_with fail
            go_ret2
            have hR : putR c lo hi frm un = ([], E) := by rw [HPR.out, HE.out, if_pos HNE.out]
            rw [hR]
            exact ⟨none, 0, rfl, IntsS.nil_.more (Nat.zero_le _), HB.out⟩
          | false =>
            have HER := hide (show E = 0 by simpa using hce)
            have HR := hide (show putR c lo hi frm un = ((List.range c.holds.length).filter (putIs7 c lo hi frm un), 0) by rw [HPR.out, HE.out, HER.out, if_neg (by simp)])
            clear q1 q2 q3 q4
            obtain ⟨hv, z, x0, x1, x2, x3, x4⟩ := HK.out
            clear hv
            have HPS := hide (fun k => putR_succ c lo hi frm un k)
            have HPL := hide (fun k => putR_le c lo hi frm un k)
            have HPI := hide (fun hd => show putIs7 c lo hi frm un hd = (waysM c hd []).all (fitsAll c lo hi frm un hd) from rfl)
            have HFA := hide (fun hd p => show fitsAll c lo hi frm un hd p = (spanVals ⟨lo, hi⟩).all (fun n => fitsB c hd n frm un p) from rfl)
            have HRL := hide (show ∀ l : List Nat, l.map (fun n : Nat => Value.int .i64 (n : Int)) = (natInts l).map (Value.int .i64) from fun l => (natInts_vals l).symm)
            go_wp2_with fail
            clear z x0 x1 x2 x3 x4
            go_loopw [14, 15, 16, 17, 18, 19] (fun v14 v15 _ _ _ _ wr => ∃ j : Nat, j ≤ c.holds.length ∧ v15 = .int .i64 j ∧ Below v4.heap.size v4 wr ∧ wr.ownsRow v4.heap.size 3 1 v14 ((List.range j).filter (putIs7 c lo hi frm un)).length (((List.range j).filter (putIs7 c lo hi frm un)).map fun n : Nat => .int .i64 n)) (fun _ v15 _ _ _ _ _ => c.holds.length - (intOf v15).toNat)
            case atStart => exact ⟨0, Nat.zero_le _, rfl, Below.refl _ _, World.ownsRow_nil _ _ _ _⟩
            case round =>
              obtain ⟨j, hj, rfl, hB, hO⟩ := hrel
              obtain ⟨wa, rfl⟩ : ∃ wa : World, wa = wr := ⟨_, rfl⟩
              have hsa := hB.size
              have HBA := hide hB
              have HOA := hide hO
              obtain ⟨hv, z, x0, x1, x2, x3, x4⟩ := HK.out.next hB
              have HV := hide hv
              clear hB hO hv
              have hj0 : (0 : Int) ≤ (j : Int) := Int.natCast_nonneg _
              by_cases hlj : j < c.holds.length
              · have hj1 : (j : Int) < (c.holds.length : Int) := by omega
                have HPJ := hide (HPS.out j)
                have HPIJ := hide (HPI.out j)
                have hpl := HPL.out j
                have hwl := waysM_len HVD.out hlj (but := [])
                have HMEM := hide (fun (i : Nat) (hi : i < (waysM c j []).length) => waysM_mem HVD.out hlj (show nth (waysM c j []) i ∈ waysM c j [] by rw [nth_eq hi]; exact List.getElem_mem hi))
                have HWY := hide (fun (W : World) (h : CargoV W W.heap.size c A1 A2 A3 A4 c1 c2 c3 c4) => ways7_any h HVD.out hlj IntsS.nil_)
                generalize hPP : (List.range j).filter (putIs7 c lo hi frm un) = P at *
                have HPP := hide hPP
                clear hPP
                generalize waysM c j [] = ws at *
                go_wp2_with (go_at_call 44; refine (HWY.out _ HV.out).mono ?_; rintro e wb ⟨AA, cA, rfl, hAll, hb⟩)
                have HBV := hide (HBA.out.trans (hb.mono hsa))
                have HWL := hide hAll
                have HOB := hide (own_stab HOA.out (fun b hb2 _ => hb.block b hb2))
                have hsb := hb.size
                have hnb := hAll.bd
                clear hb z x0 x1 x2 x3 x4 HV hAll
                go_loopw [17, 18, 19] (fun v17 v18 _ wr => ∃ i : Nat, i ≤ ws.length ∧ v18 = .int .i64 i ∧ v17 = .bool ((ws.take i).all (fitsAll c lo hi frm un j)) ∧ Below wb.heap.size wb wr) (fun _ v18 _ _ => ws.length - (intOf v18).toNat)
                case atStart => exact ⟨0, Nat.zero_le _, rfl, rfl, Below.refl _ _⟩
                case round =>
                  obtain ⟨i, hi', rfl, rfl, hB⟩ := hrel
                  obtain ⟨wc, rfl⟩ : ∃ wc : World, wc = wr := ⟨_, rfl⟩
                  have HBC := hide hB
                  have hsc := hB.size
                  have hi0' : (0 : Int) ≤ (i : Int) := Int.natCast_nonneg _
                  by_cases hli : i < ws.length
                  · have hi1 : (i : Int) < (ws.length : Int) := by omega
                    have HBD := hide (HBV.out.trans (hB.mono HBV.out.size))
                    have yl0 : wc.cell? ⟨w.heap.size + 1, 0, none⟩ = some (.int .i64 lo) := (HS.out.next HBD.out).at_ 0
                    have HAT := hide (all_take ws (fitsAll c lo hi frm un j) hli)
                    have HFI := hide (HFA.out j (nth ws i))
                    have HME := hide (HMEM.out i hli)
                    obtain ⟨bw, ow, Ag, cg, rfl, hbw, hg0, hg1, hgi⟩ := HWL.out.at_ hli
                    have hbw2 : bw < wc.heap.size := by omega
                    have HG0 := hide ((hB.cell (p := ⟨bw, ow + i * 2, none⟩) hbw).trans hg0)
                    have HG1 := hide ((hB.cell (p := ⟨bw, ow + i * 2 + 1, none⟩) hbw).trans hg1)
                    have HGI := hide ((hgi.below hB).more hB.size)
                    clear hB hg0 hg1 hgi
                    generalize nth ws i = p at *
                    generalize (ws.take i).all (fitsAll c lo hi frm un j) = met at *
                    go_wp2_with fail
                    clear yl0
                    go_loopw [17, 19] (fun v17 v19 wr => ∃ m : Nat, (m : Int) ≤ hi - lo + 1 ∧ v19 = .int .i64 (lo + m) ∧ v17 = .bool (met && ((spanVals ⟨lo, hi⟩).take m).all (fun n => fitsB c j n frm un p)) ∧ Below wc.heap.size wc wr) (fun _ v19 _ => (hi + 1 - intOf v19).toNat)
                    case atStart => exact ⟨0, by omega, by simp, by simp, Below.refl _ _⟩
                    case round =>
                      obtain ⟨m, hm, rfl, rfl, hB⟩ := hrel
                      have HBE := hide hB
                      have hse := hB.size
                      have hBF := HBD.out.trans (hB.mono HBD.out.size)
                      have yl1 : wr.cell? ⟨w.heap.size + 1, 1, none⟩ = some (.int .i64 hi) := (HS.out.next hBF).at_ 1
                      have zs : w.heap.size + 1 < wr.heap.size := (HS.out.next hBF).lt
                      obtain ⟨hv, z, x0, x1, x2, x3, x4⟩ := HK.out.next hBF
                      by_cases hle : (m : Int) ≤ hi - lo
                      · have HTM := hide (take_map_range ⟨lo, hi⟩ hle)
                        have hdle : decide (lo + (m : Int) ≤ hi) = true := by simp; omega
                        have yw0 := (hB.cell (p := ⟨bw, ow + i * 2, none⟩) hbw2).trans HG0.out
                        have yw1 := (hB.cell (p := ⟨bw, ow + i * 2 + 1, none⟩) hbw2).trans HG1.out
                        have zw : bw < wr.heap.size := by omega
                        have HCG : Hid (∀ t : Later wr, CargoV (grow wr t) (grow wr t).heap.size c A1 A2 A3 A4 c1 c2 c3 c4) := hide (fun t => hv.next grow_below)
                        have HGG : Hid (∀ t : Later wr, IntsS (grow wr t) (grow wr t).heap.size Ag p.2.length cg p.2) := hide (fun t => ((HGI.out.next hB).next grow_below))
                        have b0 : 0 ≤ lo + (m : Int) := by omega
                        have b1 : lo + (m : Int) ≤ 40 := by omega
                        have HAP := hide (show ((spanVals ⟨lo, hi⟩).take (m + 1)).all (fun n => fitsB c j n frm un p) = (((spanVals ⟨lo, hi⟩).take m).all (fun n => fitsB c j n frm un p) && fitsB c j (lo + m) frm un p) by rw [HTM.out]; simp)
                        clear hB hv hBF
                        generalize hTK : (met && ((spanVals ⟨lo, hi⟩).take m).all (fun n => fitsB c j n frm un p)) = isb at *
                        have HTK := hide (show (met && ((spanVals ⟨lo, hi⟩).take (m + 1)).all (fun n => fitsB c j n frm un p)) = (isb && fitsB c j (lo + m) frm un p) by rw [HAP.out, ← Bool.and_assoc, hTK])
                        clear hTK
                        cases isb with
                        | false =>
                          go_wp2_with fail
                          go_quiet (fail)
                          go_wp2
                          go_roundw
                          case rel => exact ⟨m + 1, by omega, by go_num, by rw [HTK.out]; rfl, below_drewN HBE.out _⟩
                          case measure => simp [intOf]; omega
                        | true =>
                          go_wp2_with fail
                          refine wp_region_grow (by kernel_rfl) (by kernel_rfl) ?_
                          have hgc := @grow_cell
                          repeat (first | go_big_quiet_step (((go_at_call 43; exact Calls.grow_of (fits7_any (HCG.out _) HVD.out hlj ⟨b0, b1⟩ HME.out.1 HME.out.2.1 HME.out.2.2 (HGG.out _))))) | quiet_step (((go_at_call 43; exact Calls.grow_of (fits7_any (HCG.out _) HVD.out hlj ⟨b0, b1⟩ HME.out.1 HME.out.2.1 HME.out.2.2 (HGG.out _))))))
                          refine wpQuiet_nil ?_
                          rintro _ ⟨t, rfl⟩
                          have hbt := HBE.out.trans ((grow_below (w := wr) (t := t)).mono hse)
                          have HBX := hide hbt
                          clear hgc hbt yw0 yw1 yl1 x0 x1 x2 x3 x4
                          generalize grow wr t = wf at *
                          go_wp2
                          go_roundw
                          case rel => exact ⟨m + 1, by omega, by go_num, by rw [HTK.out]; rfl, HBX.out⟩
                          case measure => simp [intOf]; omega
                      · have hdle : decide (lo + (m : Int) ≤ hi) = false := by simp; omega
                        have HST := hide (spanVals_take ⟨lo, hi⟩ (show hi - lo < (m : Int) by omega))
                        clear hB hv hBF
                        go_wp2_with fail
                        go_roundw
                        case rel => exact ⟨i + 1, by omega, by go_num, by rw [HAT.out, HFI.out, HST.out], HBC.out.trans (HBE.out.mono hsc)⟩
                        case measure => simp [intOf]; omega
                  · have hii : i = ws.length := by omega
                    have HII := hide hii
                    have HBG := hide (HBV.out.trans (hB.mono HBV.out.size))
                    have hown := own_stab HOB.out (fun b hb2 _ => hB.block b hb2)
                    have hsg := HBG.out.size
                    have HAE := hide (show (ws.take i).all (fitsAll c lo hi frm un j) = putIs7 c lo hi frm un j by rw [HII.out, List.take_length, HPIJ.out])
                    rw [HAE.out]
                    clear hB hii
                    have hpl3 : P.length ≤ 3 := by omega
                    cases hps : putIs7 c lo hi frm un j with
                    | false =>
                      have HP2 := hide (show (List.range (j + 1)).filter (putIs7 c lo hi frm un) = P by rw [HPJ.out, hps]; simp)
                      clear hps
                      go_wp2_with fail
                      go_roundw
                      case rel => exact ⟨j + 1, by omega, by go_num, HBG.out, by rw [HP2.out]; exact hown⟩
                      case measure => simp [intOf]; omega
                    | true =>
                      have HP2 := hide (show (List.range (j + 1)).filter (putIs7 c lo hi frm un) = P ++ [j] by rw [HPJ.out, hps]; rfl)
                      clear hps
                      go_wp2_with (first
                        | (at_builtin
                           refine wpList_append_own _ rfl _ _ 22 rfl v4.heap.size 3 i0 (.int .i64 0) 1 8 Try.underlying22 hi0 hz00 hz01 hz02 rfl (by decide) _ _ _ rfl (hown.alloc _) ⟨wc.heap.size, 0, none⟩ 1 1 [.int .i64 j] rfl rfl ?c1 ?c2 ?c3 ?c4 ?c5 ?_
                           case c1 => exact cell_one_new _ _ _
                           case c2 => simp [Value.oneCell']
                           case c3 => simp [maxLen]; omega
                           case c4 => omega
                           case c5 => simp; omega
                           intro v' w1 hown' hg _
                           have hb1 := app_below hsg hown hg
                           clear hg))
                      go_roundw
                      case rel => exact ⟨j + 1, by omega, by go_num, HBG.out.trans hb1, by rw [HP2.out]; simpa using hown'⟩
                      case measure => simp [intOf]; omega
              · have hjj : j = c.holds.length := by omega
                have HJJ := hide hjj
                have hO := HOA.out
                rw [HRL.out] at hO
                obtain ⟨A', c', rfl, hs'⟩ := IntsS.of_own hO
                have HSS := hide hs'
                clear hO hs' hjj
                go_wp2_with fail
                go_ret2
                rw [HR.out, ← HJJ.out]
                exact ⟨A', c', rfl, HSS.out, HB.out.trans (HBA.out.mono HB.out.size)⟩
end Go.Proofs.Ytbkknliggnhpcaa
