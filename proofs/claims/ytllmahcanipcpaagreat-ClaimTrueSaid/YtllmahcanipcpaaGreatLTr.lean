/- The law ClaimTrue. -/
import Derived.Test.YtllmahcanipcpaaGreatLB
import Derived.Test.YtllmahcanipcpaaGreatLO
import Derived.Test.YtllmahcanipcpaaGreatTG
import Derived.Test.YtllmahcanipcpaaGreatTT
import Derived.Test.YtllmahcanipcpaaGreatSI
import Derived.BigQuiet
import Derived.OwnWalkIn
import Derived.TacticsInMore
import Derived.Deep.DeepCutAuto
set_option linter.unusedVariables false
set_option linter.unusedSimpArgs false
namespace Go.Proofs.YtllmahcanipcpaaGreat
open Go.RowKit
attribute [local go_sem ↓] Go.wp_at_zero Go.wp_at_succ
attribute [local go_sem] Oper.semAt_some

set_option maxHeartbeats 8000000 in
set_option maxRecDepth 100000 in
theorem claimTrue_any {f : File} {fa : FA} {w : World} (h : FileV w w.heap.size f fa) {x : Int} (hx : 0 ≤ x ∧ x ≤ 255) :
    Calls Tryz.prog 6 #[fileVal f fa, .int .u8 x] w fun e w' => e = .returned (.bool true) ∧ Below w.heap.size w w' := by
  have K := hide (BoxF.made h)
  have HB : Hid (Below w.heap.size w (w.alloc (.cells (fileCells f fa) 28))) := hide ((Below.refl _ _).alloc (Nat.le_refl _) _)
  have HTL := hide (fun (hc : (checkM f).2.2 = 0) => (show nth (allP f) (x.toNat % (allP f).length) ∈ allP f from by
    have hne := allP_ne (valid_of hc)
    have hl : 0 < (allP f).length := by
      cases hh : allP f with
      | nil => exact absurd hh hne
      | cons _ _ => simp
    rw [nth_eq (Nat.mod_lt _ hl)]; exact List.getElem_mem _))
  clear h
  go_enter Tryz.func6, Tryz.ntmps6
  go_upto_region 1 with (fail)
  generalize (w.alloc (.cells (fileCells f fa) 28)) = y0 at *
  cases hv0 : decide ((checkM f).2.2 = 0) with
  | false =>
    have hc0 : (checkM f).2.2 ≠ 0 := by simpa using hv0
    have hwv : wrongV f = ([], (checkM f).2.2) := by rw [wrongV, if_pos hc0]
    have HWV := hide hwv
    have HV0 := hide hv0
    clear hwv hv0 HTL
    obtain ⟨zK, cK1, cK2, cK3, cK4, cK5⟩ := K.out.cells
    go_wp2_with fail
    refine (valid7_any K.out.v HV0.out).mono ?_
    rintro e y11 ⟨rfl, hb⟩
    clear zK cK1 cK2 cK3 cK4 cK5
    have K := hide (K.out.next hb)
    have HB := hide (HB.out.trans (hb.mono HB.out.size))
    clear hb
    obtain ⟨zK, cK1, cK2, cK3, cK4, cK5⟩ := K.out.cells
    generalize (checkM f).2.2 = E at *
    have hE2 : (E != 0) = true := by simpa using hc0
    clear hc0
    have hc := wrong_any K.out.v
    rw [HWV.out] at hc
    try dsimp only at hc
    go_wp2_with fail
    refine (hc).mono ?_
    rintro e y12 ⟨A12, q12, rfl, hi, hb⟩
    clear zK cK1 cK2 cK3 cK4 cK5
    have K := hide (K.out.next hb)
    have HB := hide (HB.out.trans (hb.mono HB.out.size))
    clear hb
    have J0 := hide hi
    clear hi
    obtain ⟨zK, cK1, cK2, cK3, cK4, cK5⟩ := K.out.cells
    go_wp2_with fail
    refine (awake_any _).mono ?_
    rintro e yz ⟨rfl, hb⟩
    go_wp2_with fail
    go_ret
    exact ⟨rfl, HB.out.trans (hb.mono HB.out.size)⟩
  | true =>
    have hc0 : (checkM f).2.2 = 0 := by simpa using hv0
    have HV0 := hide hv0
    have HVF := hide (valid_of hc0)
    have hgm := HTL.out hc0
    clear HTL hv0
    generalize hg0 : nth (allP f) (x.toNat % (allP f).length) = g at *
    have HG0 := hide hg0
    obtain ⟨hw1, oo, ww, ss, pp, hw2, hw3, hw4, hw5⟩ := true_laws hc0 hgm
    have hck := told_ok hc0 hgm
    have hvz := valid_of hck.1
    have H1 := hide hw1
    have H2 := hide hw2
    have H3 := hide (show ∀ l, l < f.lots.length → l < (toldF f g).lots.length ∧ whoV (toldF f g) l = (ww l, 0) ∧ hasInt (natInts (ww l)) (withM (toldF f g) g l) = true ∧ (settlesB (toldF f g) g l = false → hasInt (natInts oo) l = true) from fun l hl => ⟨hl, hw3 l hl⟩)
    have H4 := hide (show ∀ p, p < (toldF f g).parties.length → owesV (toldF f g) p = (ss p, 0) ∧ inB (sumM (toldF f g) g p) (ss p).lo (ss p).hi = true from hw4)
    have H5 := hide (show ∀ n, n < (toldF f g).claims.length → payV (toldF f g) n = (pp n, 0) ∧ denB (pp n) (paidB (toldF f g) g n) = false from hw5)
    have HPZ := hide (show Pl (toldF f g) g from truthsM_pl hvz hck.2)
    have HVZ := hide hvz
    have hpl4 : (toldF f g).parties.length ≤ 4 := hvz.parties
    have hcl5 : (toldF f g).claims.length ≤ 5 := hvz.claims
    have hll4 : f.lots.length ≤ 4 := HVF.out.lots
    clear hc0 hg0 hgm hw1 hw2 hw3 hw4 hw5 hck hvz
    obtain ⟨zK, cK1, cK2, cK3, cK4, cK5⟩ := K.out.cells
    go_wp2_with fail
    refine (valid7_any K.out.v HV0.out).mono ?_
    rintro e y11 ⟨rfl, hb⟩
    clear zK cK1 cK2 cK3 cK4 cK5
    have K := hide (K.out.next hb)
    have HB := hide (HB.out.trans (hb.mono HB.out.size))
    clear hb
    obtain ⟨zK, cK1, cK2, cK3, cK4, cK5⟩ := K.out.cells
    go_upto_region 5 with (go_at_call 26; refine (told11_any K.out.v HVF.out hx HG0.out).mono ?_; rintro e y12 ⟨fb, A, cp, rfl, hF, hG, hb⟩)
    clear zK cK1 cK2 cK3 cK4 cK5
    have K := hide (K.out.next hb)
    have HB := hide (HB.out.trans (hb.mono HB.out.size))
    clear hb
    obtain ⟨zK, cK1, cK2, cK3, cK4, cK5⟩ := K.out.cells
    clear zK cK1 cK2 cK3 cK4 cK5
    have HG := hide hG
    clear hG HG0
    have Z := hide (BoxF.made hF)
    have hb : Below y12.heap.size y12 (y12.alloc (.cells (fileCells (toldF f g) fb) 28)) := (Below.refl _ _).alloc (Nat.le_refl _) _
    clear hF
    have K := hide (K.out.next hb)
    have HG := hide (HG.out.next hb)
    have HB := hide (HB.out.trans (hb.mono HB.out.size))
    clear hb
    generalize (y12.alloc (.cells (fileCells (toldF f g) fb) 28)) = y13 at *
    generalize toldF f g = zf at *
    obtain ⟨zK, cK1, cK2, cK3, cK4, cK5⟩ := K.out.cells
    obtain ⟨zZ, cZ1, cZ2, cZ3, cZ4, cZ5⟩ := Z.out.cells
    have hc := wrong_any Z.out.v
    rw [H1.out] at hc
    try dsimp only at hc
    go_wp2_with fail
    refine (hc).mono ?_
    rintro e y14 ⟨A14, q14, rfl, hi, hb⟩
    clear zK cK1 cK2 cK3 cK4 cK5 zZ cZ1 cZ2 cZ3 cZ4 cZ5
    have K := hide (K.out.next hb)
    have HG := hide (HG.out.next hb)
    have Z := hide (Z.out.next hb)
    have HB := hide (HB.out.trans (hb.mono HB.out.size))
    clear hb
    have J0 := hide hi
    clear hi
    obtain ⟨zK, cK1, cK2, cK3, cK4, cK5⟩ := K.out.cells
    obtain ⟨zZ, cZ1, cZ2, cZ3, cZ4, cZ5⟩ := Z.out.cells
    have hc := open_any Z.out.v
    rw [H2.out] at hc
    try dsimp only at hc
    go_wp2_with fail
    refine (hc).mono ?_
    rintro e y15 ⟨A15, q15, rfl, hi, hb⟩
    clear zK cK1 cK2 cK3 cK4 cK5 zZ cZ1 cZ2 cZ3 cZ4 cZ5
    have K := hide (K.out.next hb)
    have HG := hide (HG.out.next hb)
    have Z := hide (Z.out.next hb)
    have J0 := hide (J0.out.next hb)
    have HB := hide (HB.out.trans (hb.mono HB.out.size))
    clear hb
    have J1 := hide hi
    clear hi
    obtain ⟨zK, cK1, cK2, cK3, cK4, cK5⟩ := K.out.cells
    obtain ⟨zZ, cZ1, cZ2, cZ3, cZ4, cZ5⟩ := Z.out.cells
    go_wp2_with fail
    go_loopw [13, 14, 15] (fun v13 _ _ wr => ∃ j1 : Nat, j1 ≤ f.lots.length ∧ v13 = .int .i64 j1 ∧ Below y15.heap.size y15 wr) (fun v13 _ _ _ => f.lots.length - (intOf v13).toNat)
    case atStart => exact ⟨0, Nat.zero_le _, rfl, Below.refl _ _⟩
    case round =>
      obtain ⟨j1, hj1, rfl, hB⟩ := hrel
      obtain ⟨w1, rfl⟩ : ∃ w1 : World, w1 = wr := ⟨_, rfl⟩
      have hj10 : (0 : Int) ≤ (j1 : Int) := Int.natCast_nonneg _
      have HL1 := hide hB
      clear zK cK1 cK2 cK3 cK4 cK5 zZ cZ1 cZ2 cZ3 cZ4 cZ5
      have K := hide (K.out.next hB)
      have HG := hide (HG.out.next hB)
      have Z := hide (Z.out.next hB)
      have J0 := hide (J0.out.next hB)
      have J1 := hide (J1.out.next hB)
      have HB := hide (HB.out.trans (hB.mono HB.out.size))
      clear hB
      by_cases hlt1 : j1 < f.lots.length
      · have hj11 : (j1 : Int) < ((f.lots.length : Nat) : Int) := by omega
        obtain ⟨zK, cK1, cK2, cK3, cK4, cK5⟩ := K.out.cells
        obtain ⟨zZ, cZ1, cZ2, cZ3, cZ4, cZ5⟩ := Z.out.cells
        obtain ⟨h30, h31, h32, h33⟩ := H3.out j1 hlt1
        have H33 := hide h33
        have hc := who_any Z.out.v ((j1 : Nat) : Int)
        rw [h31] at hc
        try dsimp only at hc
        have H32 := hide h32
        clear h31 h32 h33
        go_wp2_with fail
        refine (hc).mono ?_
        rintro e y16 ⟨A16, q16, rfl, hi, hb⟩
        clear zK cK1 cK2 cK3 cK4 cK5 zZ cZ1 cZ2 cZ3 cZ4 cZ5
        have K := hide (K.out.next hb)
        have HG := hide (HG.out.next hb)
        have Z := hide (Z.out.next hb)
        have J0 := hide (J0.out.next hb)
        have J1 := hide (J1.out.next hb)
        have HB := hide (HB.out.trans (hb.mono HB.out.size))
        have HL1 := hide (HL1.out.trans (hb.mono HL1.out.size))
        clear hb
        have I1 := hide hi
        clear hi
        obtain ⟨zK, cK1, cK2, cK3, cK4, cK5⟩ := K.out.cells
        obtain ⟨zZ, cZ1, cZ2, cZ3, cZ4, cZ5⟩ := Z.out.cells
        go_wp2_with fail
        refine (with7_any Z.out.v HG.out HPZ.out (l := j1) h30).mono ?_
        rintro e y17 ⟨rfl, hb⟩
        clear zK cK1 cK2 cK3 cK4 cK5 zZ cZ1 cZ2 cZ3 cZ4 cZ5
        have K := hide (K.out.next hb)
        have HG := hide (HG.out.next hb)
        have Z := hide (Z.out.next hb)
        have J0 := hide (J0.out.next hb)
        have J1 := hide (J1.out.next hb)
        have I1 := hide (I1.out.next hb)
        have HB := hide (HB.out.trans (hb.mono HB.out.size))
        have HL1 := hide (HL1.out.trans (hb.mono HL1.out.size))
        clear hb
        obtain ⟨zK, cK1, cK2, cK3, cK4, cK5⟩ := K.out.cells
        obtain ⟨zZ, cZ1, cZ2, cZ3, cZ4, cZ5⟩ := Z.out.cells
        go_wp2_with fail
        refine (has_any I1.out (withM zf g j1)).mono ?_
        rintro e y18 ⟨rfl, rfl⟩
        rw [H32.out]
        have hc := settles7_any Z.out.v HVZ.out.fair HG.out HPZ.out ((j1 : Nat) : Int)
        cases hst : settlesB zf g ((j1 : Nat) : Int) with
        | true =>
          rw [hst] at hc
          clear hst h30
          go_wp2_with fail
          refine (hc).mono ?_
          rintro e y19 ⟨rfl, hb⟩
          clear zK cK1 cK2 cK3 cK4 cK5 zZ cZ1 cZ2 cZ3 cZ4 cZ5
          have K := hide (K.out.next hb)
          have HG := hide (HG.out.next hb)
          have Z := hide (Z.out.next hb)
          have J0 := hide (J0.out.next hb)
          have J1 := hide (J1.out.next hb)
          have I1 := hide (I1.out.next hb)
          have HB := hide (HB.out.trans (hb.mono HB.out.size))
          have HL1 := hide (HL1.out.trans (hb.mono HL1.out.size))
          clear hb
          obtain ⟨zK, cK1, cK2, cK3, cK4, cK5⟩ := K.out.cells
          obtain ⟨zZ, cZ1, cZ2, cZ3, cZ4, cZ5⟩ := Z.out.cells
          go_wp2_with fail
          go_roundw
          case rel => exact ⟨j1 + 1, by omega, by go_num, HL1.out⟩
          case measure => simp [intOf]; omega
        | false =>
          rw [hst] at hc
          have HHO := hide (H33.out hst)
          clear hst h30
          go_wp2_with fail
          refine (hc).mono ?_
          rintro e y19 ⟨rfl, hb⟩
          clear zK cK1 cK2 cK3 cK4 cK5 zZ cZ1 cZ2 cZ3 cZ4 cZ5
          have K := hide (K.out.next hb)
          have HG := hide (HG.out.next hb)
          have Z := hide (Z.out.next hb)
          have J0 := hide (J0.out.next hb)
          have J1 := hide (J1.out.next hb)
          have I1 := hide (I1.out.next hb)
          have HB := hide (HB.out.trans (hb.mono HB.out.size))
          have HL1 := hide (HL1.out.trans (hb.mono HL1.out.size))
          clear hb
          obtain ⟨zK, cK1, cK2, cK3, cK4, cK5⟩ := K.out.cells
          obtain ⟨zZ, cZ1, cZ2, cZ3, cZ4, cZ5⟩ := Z.out.cells
          go_wp2_with fail
          refine (has_any J1.out ((j1 : Nat) : Int)).mono ?_
          rintro e y20 ⟨rfl, rfl⟩
          rw [HHO.out]
          go_wp2_with fail
          go_roundw
          case rel => exact ⟨j1 + 1, by omega, by go_num, HL1.out⟩
          case measure => simp [intOf]; omega
      · have hx1 := hide (show j1 = f.lots.length by omega)
        obtain ⟨zK, cK1, cK2, cK3, cK4, cK5⟩ := K.out.cells
        obtain ⟨zZ, cZ1, cZ2, cZ3, cZ4, cZ5⟩ := Z.out.cells
        go_wp2_with fail
        go_loopw [16, 17, 18] (fun v16 _ _ wr => ∃ j2 : Nat, j2 ≤ zf.parties.length ∧ v16 = .int .i64 j2 ∧ Below w1.heap.size w1 wr) (fun v16 _ _ _ => zf.parties.length - (intOf v16).toNat)
        case atStart => exact ⟨0, Nat.zero_le _, rfl, Below.refl _ _⟩
        case round =>
          obtain ⟨j2, hj2, rfl, hB⟩ := hrel
          obtain ⟨w2, rfl⟩ : ∃ w2 : World, w2 = wr := ⟨_, rfl⟩
          have hj20 : (0 : Int) ≤ (j2 : Int) := Int.natCast_nonneg _
          have HL2 := hide hB
          clear zK cK1 cK2 cK3 cK4 cK5 zZ cZ1 cZ2 cZ3 cZ4 cZ5
          have K := hide (K.out.next hB)
          have HG := hide (HG.out.next hB)
          have Z := hide (Z.out.next hB)
          have J0 := hide (J0.out.next hB)
          have J1 := hide (J1.out.next hB)
          have HB := hide (HB.out.trans (hB.mono HB.out.size))
          clear hB
          by_cases hlt2 : j2 < zf.parties.length
          · have hj21 : (j2 : Int) < ((zf.parties.length : Nat) : Int) := by omega
            obtain ⟨zK, cK1, cK2, cK3, cK4, cK5⟩ := K.out.cells
            obtain ⟨zZ, cZ1, cZ2, cZ3, cZ4, cZ5⟩ := Z.out.cells
            obtain ⟨h41, h42⟩ := H4.out j2 hlt2
            generalize ss j2 = s1 at *
            obtain ⟨a, b⟩ := s1
            have hc := owesX Z.out.v ((j2 : Nat) : Int) h41
            try dsimp only at hc
            try dsimp only at h42
            have HIN := hide h42
            clear h41 h42
            go_upto_region 19 with (go_at_call 17; refine (hc).mono ?_; rintro e y16 ⟨rfl, hb⟩)
            clear zK cK1 cK2 cK3 cK4 cK5 zZ cZ1 cZ2 cZ3 cZ4 cZ5
            have K := hide (K.out.next hb)
            have HG := hide (HG.out.next hb)
            have Z := hide (Z.out.next hb)
            have J0 := hide (J0.out.next hb)
            have J1 := hide (J1.out.next hb)
            have HB := hide (HB.out.trans (hb.mono HB.out.size))
            have HL2 := hide (HL2.out.trans (hb.mono HL2.out.size))
            clear hb
            obtain ⟨zK, cK1, cK2, cK3, cK4, cK5⟩ := K.out.cells
            obtain ⟨zZ, cZ1, cZ2, cZ3, cZ4, cZ5⟩ := Z.out.cells
            clear zK cK1 cK2 cK3 cK4 cK5 zZ cZ1 cZ2 cZ3 cZ4 cZ5
            have hb : Below y16.heap.size y16 (y16.alloc (.cells #[.int .i64 a, .int .i64 b] 38)) := (Below.refl _ _).alloc (Nat.le_refl _) _
            have S1 : Hid (Blk (y16.alloc (.cells #[.int .i64 a, .int .i64 b] 38)) y16.heap.size 38 #[.int .i64 a, .int .i64 b]) := hide Blk.made
            have K := hide (K.out.next hb)
            have HG := hide (HG.out.next hb)
            have Z := hide (Z.out.next hb)
            have J0 := hide (J0.out.next hb)
            have J1 := hide (J1.out.next hb)
            have HB := hide (HB.out.trans (hb.mono HB.out.size))
            have HL2 := hide (HL2.out.trans (hb.mono HL2.out.size))
            clear hb
            generalize (y16.alloc (.cells #[.int .i64 a, .int .i64 b] 38)) = y17 at *
            obtain ⟨zK, cK1, cK2, cK3, cK4, cK5⟩ := K.out.cells
            obtain ⟨zZ, cZ1, cZ2, cZ3, cZ4, cZ5⟩ := Z.out.cells
            have zS1 := S1.out.lt
            have cS10 := S1.out.at_ 0
            have cS11 := S1.out.at_ 1
            simp only [List.getElem?_toArray, List.getElem?_cons_zero, List.getElem?_cons_succ] at cS10 cS11
            refine wp_region_rel (dst := fun oi => [111, 112, 113, 114, 115, 116, 117, 118, 119, 120, 121].getD oi 0) (mono := fun oi => decide (oi < 11)) (pre := fun oi => decide (oi < 11)) (R := LKeep (fun _ => False) (fun _ => True))
              (Pv := fun oi v W => match oi with
                | 0 => v = .int .i64 0
                | 1 => v = .bool false
                | 2 => v = .bool false
                | 3 => v = .agg (fileCells zf fb)
                | 4 => v = .int .i64 (j2 : Nat)
                | 5 => v = .slice A f.lots.length cp
                | 6 => v = .int .i64 (sumM zf g ((j2 : Nat) : Int))
                | 7 => v = .agg #[.int .i64 a, .int .i64 b]
                | 8 => v = .bool true
                | 9 => v = .bool false
                | 10 => v = .bool false
                | _ => True) (by kernel_rfl) (by kernel_rfl) (LKeep.refl _ _) (fun _ _ _ h h' => h.trans h') ?hst ?hstep ?hend
            case hst =>
              intro oi v W W' h hk
              match oi, h with
              | 0, h => exact h
              | 1, h => exact h
              | 2, h => exact h
              | 3, h => exact h
              | 4, h => exact h
              | 5, h => exact h
              | 6, h => exact h
              | 7, h => exact h
              | 8, h => exact h
              | 9, h => exact h
              | 10, h => exact h
              | oi + 11, h => exact trivial
            case hstep =>
              intro oi hoi hom listed vs ao W hU hk0 hpv haft Ko hK
              have hkk := (LKeep.drew (fun _ => False) (M := fun _ => True) y17 (fun h => h)).trans hk0
              have hk := hkk.1
              have hkm := hkk.2
              clear hkk
              match oi, hoi, hom with
              | 0, hoi, hom =>
                have z18 : ao.tmps[18]?.getD undef = .int .i64 0 := hU.same 18 (by decide)
                refine wpOp_value (v := .int .i64 0) (W' := W) rfl rfl ?_ (hK _ _ (LKeep.refl _ _ _) rfl)
                go_simp
              | 1, hoi, hom =>
                have l0 := haft _ rfl { on := 0, ground := .data } (by simp) rfl
                have hv0 : vs 0 = .int .i64 0 := hpv 0 l0
                have s0 : ao.tmps[111]?.getD undef = vs 0 := hU.slot 0 (by decide) l0
                rw [hv0] at s0
                refine wpOp_value (v := .bool false) (W' := W) rfl rfl ?_ (hK _ _ (LKeep.refl _ _ _) rfl)
                go_simp
              | 2, hoi, hom =>
                have l1 := haft _ rfl { on := 1, ground := .data } (by simp) rfl
                have hv1 : vs 1 = .bool false := hpv 1 l1
                have s1 : ao.tmps[112]?.getD undef = vs 1 := hU.slot 1 (by decide) l1
                rw [hv1] at s1
                refine wpOp_value (v := .bool false) (W' := W) rfl rfl ?_ (hK _ _ (LKeep.refl _ _ _) rfl)
                go_simp
              | 3, hoi, hom =>
                have l2 := haft _ rfl { on := 2, ground := .guard } (by simp) rfl
                have hv2 : vs 2 = .bool false := hpv 2 l2
                have s2 : ao.tmps[113]?.getD undef = vs 2 := hU.slot 2 (by decide) l2
                rw [hv2] at s2
                have z7 : ao.tmps[7]?.getD undef = .pointer (some ⟨y12.heap.size, 0, none⟩) := hU.same 7 (by decide)
                have y0 := (hk.cell (b := y12.heap.size) (o := 0) (zZ) (fun h => h)).trans (cZ1)
                have y1 := (hk.cell (b := y12.heap.size) (o := 1) (zZ) (fun h => h)).trans (cZ2)
                have y2 := (hk.cell (b := y12.heap.size) (o := 2) (zZ) (fun h => h)).trans (cZ3)
                have y3 := (hk.cell (b := y12.heap.size) (o := 3) (zZ) (fun h => h)).trans (cZ4)
                have y4 := (hk.cell (b := y12.heap.size) (o := 4) (zZ) (fun h => h)).trans (cZ5)
                refine wpOp_wanted (v := .agg (fileCells zf fb)) (W' := W) rfl ?_ ?_ (hK _ _ (LKeep.refl _ _ _) rfl)
                · refine wanted_yes (j := 2) (d := 113) ?_ ?_ s2 <;> rfl
                go_simp
              | 4, hoi, hom =>
                have l2 := haft _ rfl { on := 2, ground := .guard } (by simp) rfl
                have hv2 : vs 2 = .bool false := hpv 2 l2
                have s2 : ao.tmps[113]?.getD undef = vs 2 := hU.slot 2 (by decide) l2
                rw [hv2] at s2
                have z16 : ao.tmps[16]?.getD undef = .int .i64 (j2 : Nat) := hU.same 16 (by decide)
                refine wpOp_wanted (v := .int .i64 (j2 : Nat)) (W' := W) rfl ?_ ?_ (hK _ _ (LKeep.refl _ _ _) rfl)
                · refine wanted_yes (j := 2) (d := 113) ?_ ?_ s2 <;> rfl
                go_simp
              | 5, hoi, hom =>
                have l2 := haft _ rfl { on := 2, ground := .guard } (by simp) rfl
                have hv2 : vs 2 = .bool false := hpv 2 l2
                have s2 : ao.tmps[113]?.getD undef = vs 2 := hU.slot 2 (by decide) l2
                rw [hv2] at s2
                have z8 : ao.tmps[8]?.getD undef = .slice A f.lots.length cp := hU.same 8 (by decide)
                refine wpOp_wanted (v := .slice A f.lots.length cp) (W' := W) rfl ?_ ?_ (hK _ _ (LKeep.refl _ _ _) rfl)
                · refine wanted_yes (j := 2) (d := 113) ?_ ?_ s2 <;> rfl
                go_simp
              | 6, hoi, hom =>
                have l2 := haft _ rfl { on := 2, ground := .guard } (by simp) rfl
                have hv2 : vs 2 = .bool false := hpv 2 l2
                have s2 : ao.tmps[113]?.getD undef = vs 2 := hU.slot 2 (by decide) l2
                rw [hv2] at s2
                have l3 := haft _ rfl { on := 3, ground := .data } (by simp) rfl
                have hv3 : vs 3 = .agg (fileCells zf fb) := hpv 3 l3
                have s3 : ao.tmps[114]?.getD undef = vs 3 := hU.slot 3 (by decide) l3
                rw [hv3] at s3
                have l4 := haft _ rfl { on := 4, ground := .data } (by simp) rfl
                have hv4 : vs 4 = .int .i64 (j2 : Nat) := hpv 4 l4
                have s4 : ao.tmps[115]?.getD undef = vs 4 := hU.slot 4 (by decide) l4
                rw [hv4] at s4
                have l5 := haft _ rfl { on := 5, ground := .data } (by simp) rfl
                have hv5 : vs 5 = .slice A f.lots.length cp := hpv 5 l5
                have s5 : ao.tmps[116]?.getD undef = vs 5 := hU.slot 5 (by decide) l5
                rw [hv5] at s5
                refine wpOp_enterW (f := 32) (args := #[.agg (fileCells zf fb), .int .i64 (j2 : Nat), .slice A f.lots.length cp]) (W' := W) rfl ?_ ?_ ((sum7_any (Z.out.v.next (hk.below (B := y17.heap.size) (fun k h => h.elim) (Nat.le_refl _))) HVZ.out (HG.out.next (hk.below (B := y17.heap.size) (fun k h => h.elim) (Nat.le_refl _))) HPZ.out ((j2 : Nat) : Int)).mono (fun e w'' h => ?_))
                · refine wanted_yes (j := 2) (d := 113) ?_ ?_ s2 <;> rfl
                · go_simp
                · obtain ⟨he, hbw⟩ := h
                  exact ⟨_, he, hK _ _ (LKeep.below hbw (fun h => h)) rfl⟩
              | 7, hoi, hom =>
                have l2 := haft _ rfl { on := 2, ground := .guard } (by simp) rfl
                have hv2 : vs 2 = .bool false := hpv 2 l2
                have s2 : ao.tmps[113]?.getD undef = vs 2 := hU.slot 2 (by decide) l2
                rw [hv2] at s2
                have z17 : ao.tmps[17]?.getD undef = .pointer (some ⟨y16.heap.size, 0, none⟩) := hU.same 17 (by decide)
                have y0 := (hk.cell (b := y16.heap.size) (o := 0) (zS1) (fun h => h)).trans (cS10)
                have y1 := (hk.cell (b := y16.heap.size) (o := 1) (zS1) (fun h => h)).trans (cS11)
                refine wpOp_wanted (v := .agg #[.int .i64 a, .int .i64 b]) (W' := W) rfl ?_ ?_ (hK _ _ (LKeep.refl _ _ _) rfl)
                · refine wanted_yes (j := 2) (d := 113) ?_ ?_ s2 <;> rfl
                go_simp
              | 8, hoi, hom =>
                have l2 := haft _ rfl { on := 2, ground := .guard } (by simp) rfl
                have hv2 : vs 2 = .bool false := hpv 2 l2
                have s2 : ao.tmps[113]?.getD undef = vs 2 := hU.slot 2 (by decide) l2
                rw [hv2] at s2
                have l6 := haft _ rfl { on := 6, ground := .data } (by simp) rfl
                have hv6 : vs 6 = .int .i64 (sumM zf g ((j2 : Nat) : Int)) := hpv 6 l6
                have s6 : ao.tmps[117]?.getD undef = vs 6 := hU.slot 6 (by decide) l6
                rw [hv6] at s6
                have l7 := haft _ rfl { on := 7, ground := .data } (by simp) rfl
                have hv7 : vs 7 = .agg #[.int .i64 a, .int .i64 b] := hpv 7 l7
                have s7 : ao.tmps[118]?.getD undef = vs 7 := hU.slot 7 (by decide) l7
                rw [hv7] at s7
                refine wpOp_enterW (f := 31) (args := #[.int .i64 (sumM zf g ((j2 : Nat) : Int)), .agg #[.int .i64 a, .int .i64 b]]) (W' := W) rfl ?_ ?_ (((inside_any (sumM zf g ((j2 : Nat) : Int)) a b W).mono (fun e w h => by rw [HIN.out] at h; exact h)).mono (fun e w'' h => ?_))
                · refine wanted_yes (j := 2) (d := 113) ?_ ?_ s2 <;> rfl
                · go_simp
                · obtain ⟨he, hbw⟩ := h
                  exact ⟨_, he, hK _ _ (LKeep.below hbw (fun h => h)) rfl⟩
              | 9, hoi, hom =>
                have l2 := haft _ rfl { on := 2, ground := .guard } (by simp) rfl
                have hv2 : vs 2 = .bool false := hpv 2 l2
                have s2 : ao.tmps[113]?.getD undef = vs 2 := hU.slot 2 (by decide) l2
                rw [hv2] at s2
                have l8 := haft _ rfl { on := 8, ground := .data } (by simp) rfl
                have hv8 : vs 8 = .bool true := hpv 8 l8
                have s8 : ao.tmps[119]?.getD undef = vs 8 := hU.slot 8 (by decide) l8
                rw [hv8] at s8
                refine wpOp_wanted (v := .bool false) (W' := W) rfl ?_ ?_ (hK _ _ (LKeep.refl _ _ _) rfl)
                · refine wanted_yes (j := 2) (d := 113) ?_ ?_ s2 <;> rfl
                go_simp
              | 10, hoi, hom =>
                have l2 := haft _ rfl { on := 2, ground := .data } (by simp) rfl
                have hv2 : vs 2 = .bool false := hpv 2 l2
                have s2 : ao.tmps[113]?.getD undef = vs 2 := hU.slot 2 (by decide) l2
                rw [hv2] at s2
                have l9 := haft _ rfl { on := 9, ground := .data } (by simp) rfl
                have hv9 : vs 9 = .bool false := hpv 9 l9
                have s9 : ao.tmps[120]?.getD undef = vs 9 := hU.slot 9 (by decide) l9
                rw [hv9] at s9
                refine wpOp_value (v := .bool false) (W' := W) rfl rfl ?_ (hK _ _ (LKeep.refl _ _ _) rfl)
                go_simp
              | oi + 11, hoi, hom => exact absurd (of_decide_eq_true hom) (by omega)
            case hend =>
              intro listed vs ao W hG hk0 hpv hpre
              have hkk := (LKeep.drew (fun _ => False) (M := fun _ => True) y17 (fun h => h)).trans hk0
              have hk := hkk.1
              have hkm := hkk.2
              clear hkk
              have hact := hG.act
              have hT := hG.lst hpre 0 #[true, true, true, true, true, true, true, true, true, true, true] rfl (by kernel_rfl) (hpre 0 (by decide) (by decide))
              rw [hG.ix hT (l := [0, 1, 2, 3, 4, 5, 6, 7, 8, 9, 10]) (by kernel_rfl)] at hact
              rw [hG.lo hT (k := 0) (by kernel_rfl)]
              have hv0 : vs 0 = .int .i64 0 := hpv 0 (hpre 0 (by decide) (by decide))
              have hv1 : vs 1 = .bool false := hpv 1 (hpre 1 (by decide) (by decide))
              have hv2 : vs 2 = .bool false := hpv 2 (hpre 2 (by decide) (by decide))
              have hv3 : vs 3 = .agg (fileCells zf fb) := hpv 3 (hpre 3 (by decide) (by decide))
              have hv4 : vs 4 = .int .i64 (j2 : Nat) := hpv 4 (hpre 4 (by decide) (by decide))
              have hv5 : vs 5 = .slice A f.lots.length cp := hpv 5 (hpre 5 (by decide) (by decide))
              have hv6 : vs 6 = .int .i64 (sumM zf g ((j2 : Nat) : Int)) := hpv 6 (hpre 6 (by decide) (by decide))
              have hv7 : vs 7 = .agg #[.int .i64 a, .int .i64 b] := hpv 7 (hpre 7 (by decide) (by decide))
              have hv8 : vs 8 = .bool true := hpv 8 (hpre 8 (by decide) (by decide))
              have hv9 : vs 9 = .bool false := hpv 9 (hpre 9 (by decide) (by decide))
              have hv10 : vs 10 = .bool false := hpv 10 (hpre 10 (by decide) (by decide))
              clear hpv hpre hG hk0
              obtain rfl : ao = _ := hact
              subst hT
              simp only [setAll, List.setIfInBounds_toArray, List.set_cons_succ, List.set_cons_zero, List.getD_cons_succ, List.getD_cons_zero]
              simp only [hv0, hv1, hv2, hv3, hv4, hv5, hv6, hv7, hv8, hv9, hv10]
              clear hv0 hv1 hv2 hv3 hv4 hv5 hv6 hv7 hv8 hv9 hv10
              refine wpAny_done (by kernel_rfl) ?_ _
              have hb := hk.below (B := y17.heap.size) (fun k h => h.elim) (Nat.le_refl _)
              clear zK cK1 cK2 cK3 cK4 cK5 zZ cZ1 cZ2 cZ3 cZ4 cZ5 zS1 cS10 cS11
              have K := hide (K.out.next hb)
              have HG := hide (HG.out.next hb)
              have Z := hide (Z.out.next hb)
              have J0 := hide (J0.out.next hb)
              have J1 := hide (J1.out.next hb)
              have S1 := hide (S1.out.next hb)
              have HB := hide (HB.out.trans (hb.mono HB.out.size))
              have HL2 := hide (HL2.out.trans (hb.mono HL2.out.size))
              clear hb
              clear hk hkm
              go_wp2_with fail
              go_roundw
              case rel => exact ⟨j2 + 1, by omega, by go_num, HL2.out⟩
              case measure => simp [intOf]; omega
          · have hx2 := hide (show j2 = zf.parties.length by omega)
            obtain ⟨zK, cK1, cK2, cK3, cK4, cK5⟩ := K.out.cells
            obtain ⟨zZ, cZ1, cZ2, cZ3, cZ4, cZ5⟩ := Z.out.cells
            go_wp2_with fail
            go_loopw [19, 20, 21] (fun v19 _ _ wr => ∃ j3 : Nat, j3 ≤ zf.claims.length ∧ v19 = .int .i64 j3 ∧ Below w2.heap.size w2 wr) (fun v19 _ _ _ => zf.claims.length - (intOf v19).toNat)
            case atStart => exact ⟨0, Nat.zero_le _, rfl, Below.refl _ _⟩
            case round =>
              obtain ⟨j3, hj3, rfl, hB⟩ := hrel
              obtain ⟨w3, rfl⟩ : ∃ w3 : World, w3 = wr := ⟨_, rfl⟩
              have hj30 : (0 : Int) ≤ (j3 : Int) := Int.natCast_nonneg _
              have HL3 := hide hB
              clear zK cK1 cK2 cK3 cK4 cK5 zZ cZ1 cZ2 cZ3 cZ4 cZ5
              have K := hide (K.out.next hB)
              have HG := hide (HG.out.next hB)
              have Z := hide (Z.out.next hB)
              have J0 := hide (J0.out.next hB)
              have J1 := hide (J1.out.next hB)
              have HB := hide (HB.out.trans (hB.mono HB.out.size))
              clear hB
              by_cases hlt3 : j3 < zf.claims.length
              · have hj31 : (j3 : Int) < ((zf.claims.length : Nat) : Int) := by omega
                obtain ⟨zK, cK1, cK2, cK3, cK4, cK5⟩ := K.out.cells
                obtain ⟨zZ, cZ1, cZ2, cZ3, cZ4, cZ5⟩ := Z.out.cells
                obtain ⟨h51, h52⟩ := H5.out j3 hlt3
                have hc := pays_any Z.out.v ((j3 : Nat) : Int)
                rw [h51] at hc
                try dsimp only at hc
                have HDN := hide h52
                clear h51 h52
                generalize pp j3 = how at *
                go_wp2_with fail
                refine (hc).mono ?_
                rintro e y16 ⟨rfl, hb⟩
                clear zK cK1 cK2 cK3 cK4 cK5 zZ cZ1 cZ2 cZ3 cZ4 cZ5
                have K := hide (K.out.next hb)
                have HG := hide (HG.out.next hb)
                have Z := hide (Z.out.next hb)
                have J0 := hide (J0.out.next hb)
                have J1 := hide (J1.out.next hb)
                have HB := hide (HB.out.trans (hb.mono HB.out.size))
                have HL3 := hide (HL3.out.trans (hb.mono HL3.out.size))
                clear hb
                obtain ⟨zK, cK1, cK2, cK3, cK4, cK5⟩ := K.out.cells
                obtain ⟨zZ, cZ1, cZ2, cZ3, cZ4, cZ5⟩ := Z.out.cells
                go_wp2_with fail
                refine (paid7_any Z.out.v HVZ.out.fair HG.out HPZ.out (n := j3) hlt3).mono ?_
                rintro e y17 ⟨rfl, hb⟩
                clear zK cK1 cK2 cK3 cK4 cK5 zZ cZ1 cZ2 cZ3 cZ4 cZ5
                have K := hide (K.out.next hb)
                have HG := hide (HG.out.next hb)
                have Z := hide (Z.out.next hb)
                have J0 := hide (J0.out.next hb)
                have J1 := hide (J1.out.next hb)
                have HB := hide (HB.out.trans (hb.mono HB.out.size))
                have HL3 := hide (HL3.out.trans (hb.mono HL3.out.size))
                clear hb
                obtain ⟨zK, cK1, cK2, cK3, cK4, cK5⟩ := K.out.cells
                obtain ⟨zZ, cZ1, cZ2, cZ3, cZ4, cZ5⟩ := Z.out.cells
                have hc := denies_any how (paidB zf g j3) y17 (by rw [← HDN.out]; rfl)
                go_wp2_with fail
                refine (hc).mono ?_
                rintro e y18 ⟨rfl, rfl⟩
                go_wp2_with fail
                go_roundw
                case rel => exact ⟨j3 + 1, by omega, by go_num, HL3.out⟩
                case measure => simp [intOf]; omega
              · have hx3 := hide (show j3 = zf.claims.length by omega)
                obtain ⟨zK, cK1, cK2, cK3, cK4, cK5⟩ := K.out.cells
                obtain ⟨zZ, cZ1, cZ2, cZ3, cZ4, cZ5⟩ := Z.out.cells
                go_wp2_with fail
                refine (awake_any _).mono ?_
                rintro e yz ⟨rfl, hb⟩
                go_wp2_with fail
                go_ret
                exact ⟨rfl, HB.out.trans (hb.mono HB.out.size)⟩
end Go.Proofs.YtllmahcanipcpaaGreat
