/- The contract of the reference's Next. -/
import Derived.Test.YtllmahcanipcpaaGreatSTh
import Derived.OwnWalkIn
import Derived.TacticsInMore
import Derived.Deep.DeepCutAuto
set_option linter.unusedVariables false
set_option linter.unusedSimpArgs false
namespace Go.Proofs.YtllmahcanipcpaaGreat
open Go.RowKit
attribute [local go_sem ↓] Go.wp_at_zero Go.wp_at_succ
attribute [local go_sem] Oper.semAt_some

theorem off60_in (d : Int) : offP 0 60 d = !inB d 0 60 := by
  unfold offP inB
  by_cases h1 : d < 0 <;> by_cases h2 : 60 < d <;> simp [h1, h2] <;> omega
set_option maxHeartbeats 4000000 in
set_option maxRecDepth 100000 in
theorem next7_any {f : File} {fa : FA} {w : World} (h : FileV w w.heap.size f fa) (l day : Int) :
    Calls Tryz.prog 22 #[fileVal f fa, .int .i64 l, .int .i64 day] w fun e w' => e = .returned (.tuple #[.int .i64 (nextR f l day).1.1, .int .i64 (nextR f l day).1.2, .int .i64 (nextR f l day).2]) ∧ Below w.heap.size w w' := by
  have HBX0 := hide (BoxF.made h)
  have HB0 : Hid (Below w.heap.size w (w.alloc (.cells (fileCells f fa) 28))) := hide ((Below.refl _ _).alloc (Nat.le_refl _) _)
  have hm1 := h.m3
  unfold maxLen at hm1
  have HLB := hide (show (0 : Int) ≤ (f.lots.length : Nat) ∧ ((f.lots.length : Nat) : Int) ≤ 9223372036854775807 by omega)
  clear h
  go_enter Tryz.func22, Tryz.ntmps22
  go_upto_region 1 with (fail)
  generalize (w.alloc (.cells (fileCells f fa) 28)) = w0 at *
  obtain ⟨hz, e1, e2, e3, e4, e5⟩ := HBX0.out.cells
  go_upto_region 2 with (go_at_call 48; refine (index7_any HBX0.out.v l f.lots.length HLB.out).mono ?_; rintro e y1 ⟨rfl, hb⟩)
  have HBX1 := hide (HBX0.out.next hb)
  have HB1 := hide (HB0.out.trans (hb.mono HB0.out.size))
  clear hb hz e1 e2 e3 e4 e5
  obtain ⟨hz, e1, e2, e3, e4, e5⟩ := HBX1.out.cells
  have HX := hide (show nextR f l day = if errK f (nextE f l day) = 0 then (if (bestI (nextC7 f l day) f.parties.length).2 = 0 then ((0, 0), 9) else (bestI (nextC7 f l day) f.parties.length, 0)) else ((0, 0), errK f (nextE f l day)) from rfl)
  cases hix : (indexM f l f.lots.length == 0) with
  | false =>
    have hI : ¬ indexM f l f.lots.length = 0 := by simpa using hix
    have hNE : nextE f l day = indexM f l f.lots.length := if_neg fun h => hI h.1
    have HK : errK f (nextE f l day) = indexM f l f.lots.length := by rw [errK, if_pos (by rw [hNE]; exact hI), hNE]
    have HKE := hide (show errK f (indexM f l f.lots.length) = indexM f l f.lots.length by rw [errK, if_pos hI])
    have HVE := hide (fun (h : indexM f l f.lots.length = 0) => (absurd h hI : Valid f))
    rw [HK] at HX
    have he : (indexM f l f.lots.length != 0) = true := by simpa using hI
    clear hNE HK hI
    generalize indexM f l f.lots.length = er at *
    go_upto_region 4 with (fail)
    go_upto_region 5 with (go_at_call 47; refine (known7_any HBX1.out.v er HVE.out).mono ?_; rintro e y3 ⟨AT, cT, rfl, hL, hb⟩)
    have HBX3 := hide (HBX1.out.next hb)
    have HB3 := hide (HB1.out.trans (hb.mono HB1.out.size))
    clear hb hz e1 e2 e3 e4 e5
    obtain ⟨hz, e1, e2, e3, e4, e5⟩ := HBX3.out.cells
    have HL3 := hide hL
    clear hL
    rw [HKE.out]
    have hne : ¬ er = 0 := by simpa using he
    have HY := hide (show nextR f l day = ((0, 0), er) by rw [HX.out, if_neg hne])
    clear hne
    go_wp2_with fail
    refine bodyPost_ret (v := .tuple #[.int .i64 0, .int .i64 0, .int .i64 er]) (by simp [results, Tryz.results22, go_sem]) rfl ⟨by rw [HY.out], HB3.out⟩
  | true =>
    have hI : indexM f l f.lots.length = 0 := by simpa using hix
    rw [hI]
    have hof := off60_in day
    cases hday : inB day 0 60 with
    | false =>
      have hNE : nextE f l day = 7 := if_pos ⟨hI, by rw [hof, hday]; rfl⟩
      have HK : errK f (nextE f l day) = 7 := by rw [hNE]; rfl
      have HKE := hide (show errK f 7 = 7 from rfl)
      have HVE := hide (fun (h : (7 : Int) = 0) => (absurd h (by decide) : Valid f))
      rw [HK] at HX
      have he : ((7 : Int) != 0) = true := rfl
      have HDY := hide hday
      clear hNE HK hI hof hday hix
      go_upto_region 4 with (go_at_call 41; refine (in_any day 0 60 _).mono ?_; rintro e y2 ⟨rfl, rfl⟩; rw [HDY.out])
      go_upto_region 5 with (go_at_call 47; refine (known7_any HBX1.out.v 7 HVE.out).mono ?_; rintro e y3 ⟨AT, cT, rfl, hL, hb⟩)
      have HBX3 := hide (HBX1.out.next hb)
      have HB3 := hide (HB1.out.trans (hb.mono HB1.out.size))
      clear hb hz e1 e2 e3 e4 e5
      obtain ⟨hz, e1, e2, e3, e4, e5⟩ := HBX3.out.cells
      have HL3 := hide hL
      clear hL
      rw [HKE.out]
      have hne : ¬ (7 : Int) = 0 := by decide
      have HY := hide (show nextR f l day = ((0, 0), 7) by rw [HX.out, if_neg hne])
      clear hne
      go_wp2_with fail
      refine bodyPost_ret (v := .tuple #[.int .i64 0, .int .i64 0, .int .i64 7]) (by simp [results, Tryz.results22, go_sem]) rfl ⟨by rw [HY.out], HB3.out⟩
    | true =>
      have hNE : nextE f l day = 0 := by rw [nextE, if_neg (fun h => by rw [hof, hday] at h; simp at h)]; exact hI
      obtain ⟨hv, hl1, hd1⟩ := next_in hNE
      have HV := hide hv
      have HCI := hide (fun (p : Nat) (hp : p < f.parties.length) => claim_in hl1 hd1 hp)
      rw [hNE] at HX
      have HDY := hide hday
      have HEK := hide (fun (hh : errK f 0 = 0) => errK_zero hh)
      have HT256 := hide (truthsM_256 hv [])
      have HPL := hide (fun g (hg : g ∈ truthsM f []) => truthsM_pl hv hg)
      have HNC := hide (fun p => show nextC7 f l day p = (helpsM f ⟨l, (p : Nat), day⟩ (truthsM f []) : Nat) from rfl)
      clear hNE hI hof hday hix hv hl1 hd1
      go_upto_region 4 with (go_at_call 41; refine (in_any day 0 60 _).mono ?_; rintro e y2 ⟨rfl, rfl⟩; rw [HDY.out])
      go_upto_region 5 with (go_at_call 47; refine (known7_any HBX1.out.v 0 (fun _ => HV.out)).mono ?_; rintro e y3 ⟨AT, cT, rfl, hL, hb⟩)
      have HBX3 := hide (HBX1.out.next hb)
      have HB3 := hide (HB1.out.trans (hb.mono HB1.out.size))
      clear hb hz e1 e2 e3 e4 e5
      obtain ⟨hz, e1, e2, e3, e4, e5⟩ := HBX3.out.cells
      have HL3 := hide hL
      clear hL
      generalize hID : errK f 0 = er at *
      generalize lstK f 0 = T at *
      clear hID
      cases he : (er != 0) with
      | true =>
        have hne : ¬ er = 0 := by simpa using he
        have HY := hide (show nextR f l day = ((0, 0), er) by rw [HX.out, if_neg hne])
        clear hne
        go_wp2_with fail
        refine bodyPost_ret (v := .tuple #[.int .i64 0, .int .i64 0, .int .i64 er]) (by simp [results, Tryz.results22, go_sem]) rfl ⟨by rw [HY.out], HB3.out⟩
      | false =>
        have hz' : er = 0 := by simpa using he
        obtain ⟨_, hTM, _⟩ := HEK.out hz'
        subst hTM
        have HY := hide (show nextR f l day = if (bestI (nextC7 f l day) f.parties.length).2 = 0 then ((0, 0), 9) else (bestI (nextC7 f l day) f.parties.length, 0) by rw [HX.out, if_pos hz'])
        subst hz'
        clear HX HEK he
        have HC0 := hide (show bestI (nextC7 f l day) 0 = (0, 0) from rfl)
        have HCS := hide (fun p => show bestI (nextC7 f l day) (p + 1) = if (bestI (nextC7 f l day) p).2 < nextC7 f l day p then ((p : Int), nextC7 f l day p) else bestI (nextC7 f l day) p from rfl)
        have hpl4 := HV.out.parties
        generalize truthsM f [] = T at *
        generalize nextC7 f l day = C at *
        go_wp2_with fail
        go_loopw [11, 12, 13, 14] (fun v11 v12 v13 _ wr => ∃ p : Nat, p ≤ f.parties.length ∧ v13 = .int .i64 p ∧ v11 = .int .i64 (bestI C p).1 ∧ v12 = .int .i64 (bestI C p).2 ∧ Below y3.heap.size y3 wr) (fun _ _ v13 _ _ => f.parties.length - (intOf v13).toNat)
        case atStart => exact ⟨0, Nat.zero_le _, rfl, by rw [HC0.out], by rw [HC0.out], Below.refl _ _⟩
        case round =>
          obtain ⟨p, hp, rfl, rfl, rfl, hB⟩ := hrel
          have hp0 : (0 : Int) ≤ (p : Int) := Int.natCast_nonneg _
          have HBXr := hide (HBX3.out.next hB)
          have HLr := hide (HL3.out.next hB)
          have HBr := hide hB
          have hzr := hB.size
          clear hB
          obtain ⟨hz, e1, e2, e3, e4, e5⟩ := HBXr.out.cells
          by_cases hlt : p < f.parties.length
          · have hp1 : (p : Int) < (f.parties.length : Int) := by omega
            have HSP := hide (HCS.out p)
            have hcc := helps7_any HBXr.out.v HV.out ⟨l, (p : Nat), day⟩ (HCI.out p hlt) HLr.out HPL.out HT256.out
            rw [← HNC.out p] at hcc
            generalize C p = n at *
            generalize bestI C p = b at *
            obtain ⟨b1, b2⟩ := b
            dsimp only at *
            cases hbn : decide (b2 < n) with
            | true =>
              have hbn' : b2 < n := by simpa using hbn
              have HS2 := hide (show bestI C (p + 1) = ((p : Int), n) by rw [HSP.out, if_pos hbn'])
              clear hbn
              go_wp2_with (go_at_call 40; refine hcc.mono ?_; rintro e w2 ⟨rfl, hb2⟩)
              go_roundw
              case rel => exact ⟨p + 1, by omega, by go_num, by rw [HS2.out], by rw [HS2.out], HBr.out.trans (hb2.mono hzr)⟩
              case measure => simp [intOf]; omega
            | false =>
              have hbn' : ¬ b2 < n := by simpa using hbn
              have HS2 := hide (show bestI C (p + 1) = (b1, b2) by rw [HSP.out, if_neg hbn'])
              clear hbn
              go_wp2_with (go_at_call 40; refine hcc.mono ?_; rintro e w2 ⟨rfl, hb2⟩)
              go_roundw
              case rel => exact ⟨p + 1, by omega, by go_num, by rw [HS2.out], by rw [HS2.out], HBr.out.trans (hb2.mono hzr)⟩
              case measure => simp [intOf]; omega
          · have hpp : p = f.parties.length := by omega
            have HBF := hide (HB3.out.trans (HBr.out.mono HB3.out.size))
            have HBI := hide (show bestI C p = bestI C f.parties.length by rw [hpp])
            clear hpp
            rw [HBI.out]
            generalize bestI C f.parties.length = b at *
            obtain ⟨b1, b2⟩ := b
            dsimp only at *
            cases hbz : (b2 == 0) with
            | true =>
              have hb0 : b2 = 0 := by simpa using hbz
              have HY2 := hide (show nextR f l day = ((0, 0), 9) by rw [HY.out, if_pos hb0])
              clear hb0
              go_wp2_with fail
              refine bodyPost_ret (v := .tuple #[.int .i64 0, .int .i64 0, .int .i64 9]) (by simp [results, Tryz.results22, go_sem]) rfl ⟨by rw [HY2.out], HBF.out⟩
            | false =>
              have hb0 : ¬ b2 = 0 := by simpa using hbz
              have HY2 := hide (show nextR f l day = ((b1, b2), 0) by rw [HY.out, if_neg hb0])
              clear hb0
              go_wp2_with fail
              refine bodyPost_ret (v := .tuple #[.int .i64 b1, .int .i64 b2, .int .i64 0]) (by simp [results, Tryz.results22, go_sem]) rfl ⟨by rw [HY2.out], HBF.out⟩
end Go.Proofs.YtllmahcanipcpaaGreat
