/- The contract of the reference's Out of chapter 07. -/
import Derived.Test.YtbkknliggnhpcaaRefN
set_option linter.unusedVariables false
set_option linter.unusedSimpArgs false
namespace Go.Proofs.Ytbkknliggnhpcaa
open Go.RowKit
attribute [local go_sem ↓] Go.wp_at_zero Go.wp_at_succ

theorem hourE_zero {c : Cargo} {n e : Int} (h : hourE c n e = 0) : e = 0 ∧ 0 ≤ n ∧ n ≤ c.heat.length := by
  rw [hourE] at h
  split at h
  · cases h
  · rename_i h2
    refine ⟨h, ?_⟩
    have : offP 0 c.heat.length n = false := by
      cases ho : offP 0 (c.heat.length : Int) n with
      | false => rfl
      | true => exact absurd ⟨h, ho⟩ h2
    exact offP_false.1 this
theorem hourE_valid2 {c : Cargo} {n m b : Int} (h : hourE c n (indexE c m b) = 0) : Valid c := (indexE_valid (hourE_zero h).1).1
def outE7 (c : Cargo) (hold un : Int) : Int := truthE c (hourE c un (indexE c hold c.holds.length))
theorem outE7_valid {c : Cargo} {hold un : Int} (h : outE7 c hold un = 0) : Valid c ∧ someM c [] = true ∧ 0 ≤ hold ∧ hold < c.holds.length ∧ 0 ≤ un ∧ un ≤ c.heat.length := by
  obtain ⟨h1, h2⟩ := truthE_zero h
  obtain ⟨h3, h4, h5⟩ := hourE_zero h1
  obtain ⟨h6, h7, h8⟩ := indexE_valid h3
  exact ⟨h6, h2, h7, by omega, h4, h5⟩
/-- The lots that a choice names. -/
def ownC (L : List Nat) (g : List Int) : List Int := g.map fun x => ((nth L x.toNat : Nat) : Int)
/-- What Out of the reference finds: the first choice of lots without which the others last. -/
def OutSpec (c : Cargo) (hd : Nat) (un : Int) (r : List Int) : Prop :=
  let L := ofL c hd []
  (∃ i k, i < L.length ∧ k < (chTo L.length i).length ∧ r = ownC L (nth (chTo L.length i) k) ∧ lastsR c hd un r = true ∧
    (∀ j, j < i → ∀ q, q < (chTo L.length j).length → lastsR c hd un (ownC L (nth (chTo L.length j) q)) = false) ∧ ∀ q, q < k → lastsR c hd un (ownC L (nth (chTo L.length i) q)) = false) ∨
  (r = natInts L ∧ ∀ j, j < L.length → ∀ q, q < (chTo L.length j).length → lastsR c hd un (ownC L (nth (chTo L.length j) q)) = false)
theorem ownC_take (L : List Nat) (g : List Int) {k : Nat} (h : k < g.length) : ownC L (g.take (k + 1)) = ownC L (g.take k) ++ [((nth L (nth g k).toNat : Nat) : Int)] := by rw [take_nth h, ownC, ownC, List.map_append]; rfl

set_option maxHeartbeats 2000000 in
set_option maxRecDepth 100000 in
theorem out7_any {A1 A2 A3 A4 : Option Addr} {c1 c2 c3 c4 : Nat} {c : Cargo} {w : World} (h : CargoV w w.heap.size c A1 A2 A3 A4 c1 c2 c3 c4) (hold un : Int) :
    Calls Try.prog 31 #[cargoVal c A1 A2 A3 A4 c1 c2 c3 c4, .int .i64 hold, .int .i64 un] w fun e w' => ∃ (r : List Int) (A : Option Addr) (cp : Nat), (outE7 c hold un = 0 → OutSpec c hold.toNat un r) ∧ (outE7 c hold un ≠ 0 → r = []) ∧ e = .returned (.tuple #[.slice A r.length cp, .int .i64 (outE7 c hold un)]) ∧ IntsS w' w'.heap.size A r.length cp r ∧ Below w.heap.size w w' := by
  have hm2 := h.m2
  unfold maxLen at hm2
  obtain ⟨i0, hi, hz0, hz1, hz2⟩ := info_parts Try.infoInt
  have HK := hide (BoxC.made h)
  have HB : Hid (Below w.heap.size w (w.alloc (.cells #[.slice A1 c.heat.length c1, .int .i64 c.gas, .slice A2 c.holds.length c2, .slice A3 c.lots.length c3, .slice A4 c.seen.length c4] 27))) := hide ((Below.refl _ _).alloc (Nat.le_refl _) _)
  have HSV := hide (fun h => outE7_valid (c := c) (hold := hold) (un := un) h)
  have hbel : (0 : Int) ≤ (c.holds.length : Int) ∧ (c.holds.length : Int) ≤ 9223372036854775807 := by omega
  clear h
  go_enter Try.func31, Try.ntmps31
  go_upto_region 1 with (fail)
  generalize (w.alloc (.cells #[.slice A1 c.heat.length c1, .int .i64 c.gas, .slice A2 c.holds.length c2, .slice A3 c.lots.length c3, .slice A4 c.seen.length c4] 27)) = v0 at *
  obtain ⟨hv, z, x0, x1, x2, x3, x4⟩ := HK.out
  have HCG : Hid (∀ t : Later v0, CargoV (grow v0 t) (grow v0 t).heap.size c A1 A2 A3 A4 c1 c2 c3 c4) := hide (fun t => hv.next grow_below)
  clear hv
  refine wp_region_grow (by kernel_rfl) (by kernel_rfl) ?_
  have hgc := @grow_cell
  repeat (first | go_big_quiet_step (((first | (go_at_call 74; exact Calls.grow_of (index7_any (HCG.out _) _ _ hbel)) | (go_at_call 80; exact Calls.grow_of (hour7_any (HCG.out _) _ _)) | (go_at_call 73; exact Calls.grow_of (truth7_any (HCG.out _) _ hourE_valid2))))) | quiet_step (((first | (go_at_call 74; exact Calls.grow_of (index7_any (HCG.out _) _ _ hbel)) | (go_at_call 80; exact Calls.grow_of (hour7_any (HCG.out _) _ _)) | (go_at_call 73; exact Calls.grow_of (truth7_any (HCG.out _) _ hourE_valid2))))))
  refine wpQuiet_nil ?_
  rintro _ ⟨t, rfl⟩
  have hbt := grow_below (w := v0) (t := t)
  have HK := hide (HK.out.next hbt)
  have HB := hide (HB.out.trans (hbt.mono HB.out.size))
  have HTE := hide (show truthE c (hourE c un (indexE c hold (c.holds.length : Nat))) = outE7 c hold un from rfl)
  rw [HTE.out]
  clear hgc z x0 x1 x2 x3 x4 hbt HCG
  generalize grow v0 t = v1 at *
  generalize hEE : outE7 c hold un = E at *
  have HEE := hide hEE
  clear hEE
  cases hce : (E != 0) with
  | true =>
    have HNE := hide (show E ≠ 0 by simpa using hce)
    go_wp2_with fail
    go_ret2
    rw [HEE.out]
    exact ⟨[], none, 0, fun h => absurd h HNE.out, fun _ => rfl, rfl, IntsS.nil_.more (Nat.zero_le _), HB.out⟩
  | false =>
    have hE : E = 0 := by simpa using hce
    obtain ⟨hval, -, hh0, hh1, -, -⟩ := HSV.out hE
    obtain ⟨hd, rfl⟩ : ∃ k : Nat, hold = (k : Int) := ⟨hold.toNat, by omega⟩
    have hhd2 : hd < c.holds.length := by omega
    have HVD := hide hval
    have hlots := hval.lots
    have hlots6 : c.lots.length ≤ 1000000 := by omega
    clear hval HSV
    subst hE
    obtain ⟨hv, z, x0, x1, x2, x3, x4⟩ := HK.out
    have HV := hide hv
    clear hv
    go_upto_region 5 with (go_at_call 45; refine (of_any HV.out (hd : Int) IntsS.nil_ hlots6).mono ?_; rintro e v2 ⟨AL, cL, rfl, hL, hb⟩)
    have HK := hide (HK.out.next hb)
    have HB := hide (HB.out.trans (hb.mono HB.out.size))
    have HL := hide hL
    have hLl : (ofL c (hd : Int) []).length ≤ 4 := Nat.le_trans (ofTo_le c hd [] c.lots.length) hlots
    have HOS := hide (fun r => show OutSpec c hd un r = ((∃ i k, i < (ofL c hd []).length ∧ k < (chTo (ofL c hd []).length i).length ∧ r = ownC (ofL c hd []) (nth (chTo (ofL c hd []).length i) k) ∧ lastsR c hd un r = true ∧
      (∀ j, j < i → ∀ q, q < (chTo (ofL c hd []).length j).length → lastsR c hd un (ownC (ofL c hd []) (nth (chTo (ofL c hd []).length j) q)) = false) ∧ ∀ q, q < k → lastsR c hd un (ownC (ofL c hd []) (nth (chTo (ofL c hd []).length i) q)) = false) ∨
      (r = natInts (ofL c hd []) ∧ ∀ j, j < (ofL c hd []).length → ∀ q, q < (chTo (ofL c hd []).length j).length → lastsR c hd un (ownC (ofL c hd []) (nth (chTo (ofL c hd []).length j) q)) = false)) from rfl)
    clear hb hL z x0 x1 x2 x3 x4 HV
    generalize ofL c hd [] = L at *
    go_wp2_with fail
    go_loopw [10, 11, 12, 13, 14] (fun v10 _ _ _ _ wr => ∃ j : Nat, j ≤ L.length ∧ v10 = .int .i64 j ∧ Below v2.heap.size v2 wr ∧ Hid (∀ i, i < j → ∀ q, q < (chTo L.length i).length → lastsR c hd un (ownC L (nth (chTo L.length i) q)) = false)) (fun v10 _ _ _ _ _ => L.length - (intOf v10).toNat)
    case atStart => exact ⟨0, Nat.zero_le _, rfl, Below.refl _ _, hide (fun i hi => absurd hi (Nat.not_lt_zero _))⟩
    case round =>
      obtain ⟨j, hj, rfl, hB, HP⟩ := hrel
      have hj0 : (0 : Int) ≤ (j : Int) := Int.natCast_nonneg _
      have HBA := hide hB
      by_cases hlt : j < L.length
      · have hj1 : (j : Int) < (L.length : Int) := by omega
        obtain ⟨hGl, hgf⟩ := ch_facts hLl (show j ≤ 4 by omega)
        have HGF := hide hgf
        clear hgf
        go_wp2_with (go_at_call 95; refine (choices_any hLl (show j ≤ 4 by omega) _).mono ?_; rintro e w2 ⟨AC, cC, rfl, hC, hb2⟩)
        have HBV := hide (HBA.out.trans (hb2.mono HBA.out.size))
        have HC := hide hC
        clear hC hb2 hB
        generalize hGG : chTo L.length j = G at *
        have HGG := hide hGG
        clear hGG
        go_loopw [12, 13, 14] (fun v12 _ _ w3 => ∃ k : Nat, k ≤ G.length ∧ v12 = .int .i64 k ∧ Below w2.heap.size w2 w3 ∧ Hid (∀ q, q < k → lastsR c hd un (ownC L (nth G q)) = false)) (fun v12 _ _ _ => G.length - (intOf v12).toNat)
        case atStart => exact ⟨0, Nat.zero_le _, rfl, Below.refl _ _, hide (fun q hq => absurd hq (Nat.not_lt_zero _))⟩
        case round =>
          obtain ⟨k, hk, rfl, hB2, HR⟩ := hrel
          obtain ⟨wb, rfl⟩ : ∃ wb : World, wb = wr := ⟨_, rfl⟩
          have hk0 : (0 : Int) ≤ (k : Int) := Int.natCast_nonneg _
          have HBW := hide hB2
          have HBX := hide (HBV.out.trans (hB2.mono HBV.out.size))
          by_cases hlt2 : k < G.length
          · have hk1 : (k : Int) < (G.length : Int) := by omega
            obtain ⟨bg, og, Ag, cg, rfl, hbg, hgc, hgi⟩ := (HC.out.next hB2).at_ hlt2
            have HGI := hide hgi
            have HGC := hide hgc
            have HLW := hide (HL.out.next HBX.out)
            obtain ⟨hgl, hgx, -⟩ := HGF.out (nth G k) (by rw [nth_eq hlt2]; exact List.getElem_mem hlt2)
            have HGX := hide hgx
            clear hgi hB2 hgc hgx
            generalize hg : nth G k = g at *
            have HG := hide hg
            clear hg
            go_wp2_with fail
            go_loopw [13, 14] (fun v13 v14 w4 => ∃ m : Nat, m ≤ j ∧ v14 = .int .i64 m ∧ Below wb.heap.size wb w4 ∧ w4.ownsRow wb.heap.size 3 1 v13 (ownC L (g.take m)).length ((ownC L (g.take m)).map fun n : Int => .int .i64 n)) (fun _ v14 _ => j - (intOf v14).toNat)
            case atStart => exact ⟨0, Nat.zero_le _, rfl, Below.refl _ _, World.ownsRow_nil _ _ _ _⟩
            case round =>
              obtain ⟨m, hm, rfl, hB4, hown⟩ := hrel
              have hm0 : (0 : Int) ≤ (m : Int) := Int.natCast_nonneg _
              have hsz := hB4.size
              by_cases hlm : m < j
              · have hm1 : (m : Int) < (j : Int) := by omega
                have hmg : m < g.length := by omega
                have hmg1 : (m : Int) < (g.length : Int) := by omega
                have hgc := (hB4.cell (p := ⟨bg, og + k, none⟩) hbg).trans HGC.out
                have hbg4 : bg < wr.heap.size := by omega
                obtain ⟨bh, oh, rfl, hbh, hhc⟩ := (HGI.out.next hB4).row (by omega)
                have r0 := hhc m hmg
                obtain ⟨hx0, hx1⟩ := HGX.out (nth g m) (by rw [nth_eq hmg]; exact List.getElem_mem hmg)
                have HOT := hide (ownC_take L g hmg)
                have hol : (ownC L (g.take m)).length ≤ m := by simp [ownC]; omega
                rw [intsF] at r0
                obtain ⟨x, hxx⟩ : ∃ x : Nat, nth g m = (x : Int) := ⟨(nth g m).toNat, by omega⟩
                rw [hxx, Int.toNat_natCast] at HOT
                rw [hxx] at r0 hx0 hx1
                clear hxx
                have hxl : x < L.length := by omega
                obtain ⟨bl, ol, rfl, hbl, hlc⟩ := (HLW.out.next hB4).row (by omega)
                have r1 := hlc x hxl
                rw [intsF, nth_natInts hxl] at r1
                clear hhc hlc
                go_wp2_with (first
                  | (at_builtin
                     refine wpList_append_own _ rfl _ _ 22 rfl wb.heap.size 3 i0 (.int .i64 0) 1 8 Try.underlying22 hi hz0 hz1 hz2 rfl (by decide) _ _ _ rfl (hown.alloc _) ⟨wr.heap.size, 0, none⟩ 1 1 [.int .i64 (nth L x : Nat)] rfl rfl ?c1 ?c2 ?c3 ?c4 ?c5 ?_
                     case c1 => exact cell_one_new _ _ _
                     case c2 => simp [Value.oneCell']
                     case c3 => simp [maxLen]; omega
                     case c4 => omega
                     case c5 => simp; omega
                     intro v' w1 hown' hg _
                     have hb1 := app_below hsz hown hg
                     clear hg))
                go_roundw
                case rel => exact ⟨m + 1, by omega, by go_num, hB4.trans hb1, by rw [HOT.out]; simpa using hown'⟩
                case measure => simp [intOf]; omega
              · obtain rfl : m = j := by omega
                rw [show g.take m = g from List.take_of_length_le (by omega)] at hown
                obtain ⟨AO, cO, rfl, hO⟩ := IntsS.of_own (xs := ownC L g) hown
                have HO := hide hO
                have HBY := hide (HBX.out.trans (hB4.mono HBX.out.size))
                have HBZ := hide (HBW.out.trans (hB4.mono HBW.out.size))
                obtain ⟨hv, z, x0, x1, x2, x3, x4⟩ := HK.out.next HBY.out
                have HV := hide hv
                clear hv hO hown hB4
                generalize hOX : ownC L g = ox at *
                have HOX := hide hOX
                clear hOX
                cases hls : lastsR c hd un ox with
                | true =>
                  have HLS := hide hls
                  clear hls
                  go_wp2_with fail
                  refine (lasts_any HV.out HVD.out hhd2 un HO.out).mono ?_
                  rintro e w5 ⟨rfl, hb5⟩
                  rw [HLS.out]
                  go_wp2_with fail
                  go_ret2
                  rw [HEE.out]
                  refine ⟨ox, AO, cO, fun _ => ?_, fun h => absurd rfl h, rfl, HO.out.next hb5, HB.out.trans ((HBY.out.trans (hb5.mono HBY.out.size)).mono HB.out.size)⟩
                  rw [Int.toNat_natCast, HOS.out]
                  exact .inl ⟨m, k, hlt, by rw [HGG.out]; exact hlt2, by rw [HGG.out, HG.out, HOX.out], HLS.out, HP.out, by rw [HGG.out]; exact HR.out⟩
                | false =>
                  have HLS := hide hls
                  clear hls
                  go_wp2_with fail
                  refine (lasts_any HV.out HVD.out hhd2 un HO.out).mono ?_
                  rintro e w5 ⟨rfl, hb5⟩
                  rw [HLS.out]
                  go_wp2_with fail
                  go_roundw
                  case rel => exact ⟨k + 1, by omega, by go_num, HBZ.out.trans (hb5.mono HBZ.out.size), hide (fun q hq => by
                    by_cases hqk : q = k
                    · rw [hqk, HG.out, HOX.out]; exact HLS.out
                    · exact HR.out q (by omega))⟩
                  case measure => simp [intOf]; omega
          · have hkk : k = G.length := by omega
            have HR2 : Hid (∀ q, q < G.length → lastsR c hd un (ownC L (nth G q)) = false) := by rw [hkk] at HR; exact HR
            clear hkk hB2
            go_wp2_with fail
            go_roundw
            case rel => exact ⟨j + 1, by omega, by go_num, HBX.out, hide (fun i hi => by
                by_cases hij : i = j
                · rw [hij, HGG.out]; exact HR2.out
                · exact HP.out i (by omega))⟩
            case measure => simp [intOf]; omega
      · obtain rfl : j = L.length := by omega
        clear hB
        go_wp2_with fail
        go_ret2
        rw [HEE.out]
        refine ⟨natInts L, AL, cL, fun _ => ?_, fun h => absurd rfl h, by rw [natInts_length]; rfl, by rw [natInts_length]; exact HL.out.next HBA.out, HB.out.trans (HBA.out.mono HB.out.size)⟩
        rw [Int.toNat_natCast, HOS.out]
        exact .inr ⟨rfl, HP.out⟩
end Go.Proofs.Ytbkknliggnhpcaa
