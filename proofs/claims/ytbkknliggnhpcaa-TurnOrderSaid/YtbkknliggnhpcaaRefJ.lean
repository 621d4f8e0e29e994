/- Contracts of the reference's First and Spoils of chapter 07. -/
import Derived.Test.YtbkknliggnhpcaaRefI
import Derived.Test.YtbkknliggnhpcaaGG
import Derived.Test.YtbkknliggnhpcaaBox
set_option linter.unusedVariables false
set_option linter.unusedSimpArgs false
namespace Go.Proofs.Ytbkknliggnhpcaa
open Go.RowKit
attribute [local go_sem ↓] Go.wp_at_zero Go.wp_at_succ

theorem wp_post0 {P : Program} {cd : Code} {Q : Exit → Act → World → Prop} {a : Act} {w : World} (R : Act → Act → World → Prop) (h : cd.wp P (fun e a' v => e = .normal ∧ R a a' v) a w) (hq : ∀ a' v, R a a' v → Q .normal a' v) : cd.wp P Q a w :=
  Code.wp_mono (fun _ _ _ ⟨h1, h2⟩ => by rw [h1]; exact hq _ _ h2) h
def firstE7 (c : Cargo) (hold : Int) : Int := truthE c (indexE c hold c.holds.length)
theorem firstE7_valid {c : Cargo} {hold : Int} (h : firstE7 c hold = 0) : Valid c ∧ someM c [] = true ∧ 0 ≤ hold ∧ hold < c.holds.length := by
  obtain ⟨h1, h2⟩ := truthE_zero h
  obtain ⟨h3, h4, h5⟩ := indexE_valid h1
  exact ⟨h3, h2, h4, by omega⟩
theorem truthE_ne {c : Cargo} {e : Int} (h : e ≠ 0) : truthE c e = e := by rw [truthE, if_neg (fun h' => h h'.1)]
def firstTo7 (c : Cargo) (hold q : Nat) (p : Int × List Int) (j : Nat) : Bool := decide (nth (timesW c hold p) q < (c.heat.length : Int) + 1) && ((ofL c hold []).take j).all fun i => decide (nth (timesW c hold p) q ≤ nth (timesW c hold p) i)
def firstB (c : Cargo) (hold q : Nat) (p : Int × List Int) : Bool := decide (nth (timesW c hold p) q < (c.heat.length : Int) + 1) && (ofL c hold []).all fun i => decide (nth (timesW c hold p) q ≤ nth (timesW c hold p) i)
def firstR (c : Cargo) (hold : Int) : List Nat := if firstE7 c hold ≠ 0 then [] else (ofL c hold.toNat []).filter fun q => (waysM c hold.toNat []).any (firstB c hold.toNat q)
def askIdx2 (c : Cargo) (b lot : Int) : Int :=
  if (if indexE c b c.lots.length = 0 then indexE c lot c.lots.length else indexE c b c.lots.length) = 0 ∧ b = lot then 2 else (if indexE c b c.lots.length = 0 then indexE c lot c.lots.length else indexE c b c.lots.length)
def spoilsE7 (c : Cargo) (b lot : Int) : Int := truthE c (askIdx2 c b lot)
theorem spoilsE7_valid {c : Cargo} {b lot : Int} (h : spoilsE7 c b lot = 0) : Valid c ∧ someM c [] = true ∧ 0 ≤ b ∧ b < c.lots.length ∧ 0 ≤ lot ∧ lot < c.lots.length ∧ b ≠ lot := by
  obtain ⟨h1, h2⟩ := truthE_zero h
  unfold askIdx2 at h1
  by_cases h4 : indexE c b c.lots.length = 0
  · rw [if_pos h4] at h1
    by_cases h3 : indexE c lot c.lots.length = 0 ∧ b = lot
    · rw [if_pos h3] at h1; omega
    · rw [if_neg h3] at h1
      obtain ⟨h5, h6, h7⟩ := indexE_valid h1
      obtain ⟨_, h8, h9⟩ := indexE_valid h4
      exact ⟨h5, h2, h8, by omega, h6, by omega, fun e => h3 ⟨h1, e⟩⟩
  · rw [if_neg h4, if_neg (fun h => h4 h.1)] at h1; exact absurd h1 h4
def spoilsB (c : Cargo) (hold b q : Nat) (p : Int × List Int) : Bool := decide (nth (timesM c (ofL c hold [(b : Int)]) p.1 p.2) q > nth (timesW c hold p) q)
def spoilsR (c : Cargo) (b lot : Int) : Int × Int := if spoilsE7 c b lot ≠ 0 then (0, spoilsE7 c b lot) else
  (settledM ((waysM c (nth c.lots lot.toNat).hold.toNat []).filter (spoilsB c (nth c.lots lot.toNat).hold.toNat b.toNat lot.toNat)).length (waysM c (nth c.lots lot.toNat).hold.toNat []).length, 0)
theorem filter_take_len {α : Type} [Inhabited α] (l : List α) (p : α → Bool) {j : Nat} (h : j < l.length) : ((l.take (j + 1)).filter p).length = ((l.take j).filter p).length + if p (nth l j) then 1 else 0 := by
  rw [filter_take l p h, List.length_append]; split <;> rfl

set_option maxHeartbeats 4000000 in
set_option maxRecDepth 100000 in
theorem spoils7_any {A1 A2 A3 A4 : Option Addr} {c1 c2 c3 c4 : Nat} {c : Cargo} {w : World} (h : CargoV w w.heap.size c A1 A2 A3 A4 c1 c2 c3 c4) (b lot : Int) :
    Calls Try.prog 27 #[cargoVal c A1 A2 A3 A4 c1 c2 c3 c4, .int .i64 b, .int .i64 lot] w fun e w' => e = .returned (.tuple #[.int .i64 (spoilsR c b lot).1, .int .i64 (spoilsR c b lot).2]) ∧ Below w.heap.size w w' := by
  have hm3 := h.m3
  unfold maxLen at hm3
  have HK := hide (BoxC.made h)
  have HB : Hid (Below w.heap.size w (w.alloc (.cells #[.slice A1 c.heat.length c1, .int .i64 c.gas, .slice A2 c.holds.length c2, .slice A3 c.lots.length c3, .slice A4 c.seen.length c4] 27))) := hide ((Below.refl _ _).alloc (Nat.le_refl _) _)
  have HRR := hide (show spoilsR c b lot = if spoilsE7 c b lot ≠ 0 then (0, spoilsE7 c b lot) else (settledM ((waysM c (nth c.lots lot.toNat).hold.toNat []).filter (spoilsB c (nth c.lots lot.toNat).hold.toNat b.toNat lot.toNat)).length (waysM c (nth c.lots lot.toNat).hold.toNat []).length, 0) from rfl)
  have HAE := hide (show spoilsE7 c b lot = truthE c (askIdx2 c b lot) from rfl)
  have HAI := hide (show askIdx2 c b lot = if (if indexE c b c.lots.length = 0 then indexE c lot c.lots.length else indexE c b c.lots.length) = 0 ∧ b = lot then 2 else (if indexE c b c.lots.length = 0 then indexE c lot c.lots.length else indexE c b c.lots.length) from rfl)
  have HSV := hide (fun h => spoilsE7_valid (c := c) (b := b) (lot := lot) h)
  have hbel : (0 : Int) ≤ (c.lots.length : Int) ∧ (c.lots.length : Int) ≤ 9223372036854775807 := by omega
  clear h
  go_enter Try.func27, Try.ntmps27
  go_upto_region 1 with (fail)
  generalize (w.alloc (.cells #[.slice A1 c.heat.length c1, .int .i64 c.gas, .slice A2 c.holds.length c2, .slice A3 c.lots.length c3, .slice A4 c.seen.length c4] 27)) = v0 at *
  obtain ⟨hv, z, x0, x1, x2, x3, x4⟩ := HK.out
  have HV := hide hv
  clear hv
  go_upto_region 2 with (go_at_call 74; refine (index7_any HV.out b c.lots.length hbel).mono ?_; rintro e v1 ⟨rfl, hb⟩)
  have HK := hide (HK.out.next hb)
  have HB := hide (HB.out.trans (hb.mono HB.out.size))
  clear hb z x0 x1 x2 x3 x4 HV
  have HI1 := hide (fun h => indexE_valid (c := c) (n := b) (below := c.lots.length) h)
  have HI2 := hide (fun h => indexE_valid (c := c) (n := lot) (below := c.lots.length) h)
  have HIX := hide (fun (w : World) (h : CargoV w w.heap.size c A1 A2 A3 A4 c1 c2 c3 c4) => index7_any h lot c.lots.length hbel)
  generalize indexE c b c.lots.length = e1 at *
  generalize indexE c lot c.lots.length = e2 at *
  cases q1 : (e1 == 0) with
  | false =>
    have HNE := hide (show e1 ≠ 0 by simpa using q1)
    obtain ⟨hv, z, x0, x1, x2, x3, x4⟩ := HK.out
    have HV := hide hv
    clear hv
    have HE := hide (show spoilsE7 c b lot = e1 by rw [HAE.out, HAI.out, if_neg HNE.out, if_neg (fun h => HNE.out h.1)]; exact truthE_ne HNE.out)
    have HTE := hide (truthE_ne (c := c) HNE.out)
    go_wp2_with (go_at_call 73; refine (truth7_any HV.out e1 (fun h => absurd h HNE.out)).mono ?_; rintro e v9 ⟨rfl, hb⟩; rw [HTE.out])
    go_ret2
    have hR := HRR.out
    rw [HE.out, if_pos HNE.out] at hR
    rw [hR]
    exact ⟨rfl, HB.out.trans (hb.mono HB.out.size)⟩
  | true =>
    have HQ1 := hide (show e1 = 0 by simpa using q1)
    obtain ⟨hv, z, x0, x1, x2, x3, x4⟩ := HK.out
    have HV := hide hv
    clear hv
    go_upto_region 4 with (go_at_call 74; refine (HIX.out _ HV.out).mono ?_; rintro e v2 ⟨rfl, hb⟩)
    have HK := hide (HK.out.next hb)
    have HB := hide (HB.out.trans (hb.mono HB.out.size))
    clear hb z x0 x1 x2 x3 x4 HV
    cases q2 : (e2 == 0) with
    | false =>
      have HNE := hide (show e2 ≠ 0 by simpa using q2)
      obtain ⟨hv, z, x0, x1, x2, x3, x4⟩ := HK.out
      have HV := hide hv
      clear hv
      have HE := hide (show spoilsE7 c b lot = e2 by rw [HAE.out, HAI.out, if_pos HQ1.out, if_neg (fun h => HNE.out h.1)]; exact truthE_ne HNE.out)
      have HTE := hide (truthE_ne (c := c) HNE.out)
      go_wp2_with (go_at_call 73; refine (truth7_any HV.out e2 (fun h => absurd h HNE.out)).mono ?_; rintro e v9 ⟨rfl, hb⟩; rw [HTE.out])
      go_ret2
      have hR := HRR.out
      rw [HE.out, if_pos HNE.out] at hR
      rw [hR]
      exact ⟨rfl, HB.out.trans (hb.mono HB.out.size)⟩
    | true =>
      have HQ2 := hide (show e2 = 0 by simpa using q2)
      cases q3 : (b == lot) with
      | true =>
        have HNE := hide (show (2 : Int) ≠ 0 by decide)
        have HQ3 := hide (show b = lot by simpa using q3)
        obtain ⟨hv, z, x0, x1, x2, x3, x4⟩ := HK.out
        have HV := hide hv
        clear hv
        have HE := hide (show spoilsE7 c b lot = 2 by rw [HAE.out, HAI.out, if_pos HQ1.out, if_pos ⟨HQ2.out, HQ3.out⟩]; exact truthE_ne HNE.out)
        have HTE := hide (truthE_ne (c := c) HNE.out)
        go_wp2_with (go_at_call 73; refine (truth7_any HV.out 2 (fun h => absurd h HNE.out)).mono ?_; rintro e v9 ⟨rfl, hb⟩; rw [HTE.out])
        go_ret2
        have hR := HRR.out
        rw [HE.out, if_pos HNE.out] at hR
        rw [hR]
        exact ⟨rfl, HB.out.trans (hb.mono HB.out.size)⟩
      | false =>
        have HQ3 := hide (show ¬ b = lot by simpa using q3)
        obtain ⟨hv, z, x0, x1, x2, x3, x4⟩ := HK.out
        have HV := hide hv
        clear hv
        obtain ⟨hval, hb0, hb1⟩ := HI1.out HQ1.out
        obtain ⟨-, hl0, hl1⟩ := HI2.out HQ2.out
        have HVD := hide hval
        have hlots := hval.lots
        go_upto_region 7 with (go_at_call 73; refine (truth7_any HV.out e2 (fun _ => HVD.out)).mono ?_; rintro e v3 ⟨rfl, hb⟩)
        have HE := hide (show spoilsE7 c b lot = truthE c e2 by rw [HAE.out, HAI.out, if_pos HQ1.out, if_neg (fun h => HQ3.out h.2)])
        have HK := hide (HK.out.next hb)
        have HB := hide (HB.out.trans (hb.mono HB.out.size))
        clear hb z x0 x1 x2 x3 x4 HV hval HSV HIX
        generalize truthE c e2 = E at *
        have hR := HRR.out
        rw [HE.out] at hR
        have HR := hide hR
        clear hR HRR HE HAE HAI
        cases hce : (E != 0) with
        | true =>
          have HNE := hide (show E ≠ 0 by simpa using hce)
          go_wp2_with fail
          go_ret2
          have hR := HR.out
          rw [if_pos HNE.out] at hR
          rw [hR]
          exact ⟨rfl, HB.out⟩
        | false =>
          have hE : E = 0 := by simpa using hce
          obtain ⟨lot, rfl⟩ : ∃ k : Nat, lot = (k : Int) := ⟨lot.toNat, by omega⟩
          obtain ⟨b, rfl⟩ : ∃ k : Nat, b = (k : Int) := ⟨b.toNat, by omega⟩
          have hlt : lot < c.lots.length := by omega
          have hR := HR.out
          rw [if_neg (by simp [hE]), Int.toNat_natCast, Int.toNat_natCast] at hR
          have hval := HVD.out.lot lot hlt
          obtain ⟨hd, hhd⟩ : ∃ hd : Nat, (nth c.lots lot).hold = hd := ⟨(nth c.lots lot).hold.toNat, by omega⟩
          have hhd2 : hd < c.holds.length := by omega
          rw [hhd, Int.toNat_natCast] at hR
          have HR := hide hR
          obtain ⟨hv, z, x0, x1, x2, x3, x4⟩ := HK.out
          obtain ⟨bl, ol, rfl, hbl, t0, -, -, -⟩ := hv.lots.lots hlt
          rw [hhd] at t0
          have HV := hide hv
          clear hv hR hval hhd
          subst hE
          go_upto_region 11 with (go_at_call 44; refine (ways7_any HV.out HVD.out hhd2 IntsS.nil_).mono ?_; rintro e v4 ⟨AA, cA, rfl, hAll, hb⟩)
          have hMEM : ∀ j, j < (waysM c hd []).length → (0 ≤ (nth (waysM c hd []) j).1 ∧ (nth (waysM c hd []) j).1 ≤ 6) ∧ (nth (waysM c hd []) j).2.length = c.lots.length ∧ ∀ k, 0 ≤ nth (nth (waysM c hd []) j).2 k ∧ nth (nth (waysM c hd []) j).2 k ≤ 40 :=
            fun j hj => waysM_mem HVD.out hhd2 (by rw [nth_eq hj]; exact List.getElem_mem hj)
          have HMEM := hide hMEM
          have hwl := waysM_len HVD.out hhd2 (but := [])
          have HK := hide (HK.out.next hb)
          have HB := hide (HB.out.trans (hb.mono HB.out.size))
          have HWL := hide hAll
          have HSM := hide HVD.out.small
          have hnb := hAll.bd
          clear hb z x0 x1 x2 x3 x4 HV hAll hMEM t0 hbl
          generalize waysM c hd [] = ws at *
          have hlots6 : c.lots.length ≤ 1000000 := by omega
          go_wp2_with fail
          go_loopw [11, 12] (fun v11 v12 wr => ∃ j : Nat, j ≤ ws.length ∧ v12 = .int .i64 j ∧ v11 = .int .i64 (((ws.take j).filter (spoilsB c hd b lot)).length : Nat) ∧ Below v4.heap.size v4 wr) (fun _ v12 _ => ws.length - (intOf v12).toNat)
          case atStart => exact ⟨0, Nat.zero_le _, rfl, rfl, Below.refl _ _⟩
          case round =>
            obtain ⟨j, hj, rfl, rfl, hB⟩ := hrel
            have hsz := hB.size
            by_cases hlw : j < ws.length
            · obtain ⟨bw, ow, Ag, cg, rfl, hbw, hg0, hg1, hgi⟩ := HWL.out.at_ hlw
              have HME := hide (HMEM.out j hlw)
              have HKR := hide (HK.out.next hB)
              obtain ⟨hv, zz1, q0, q1, q2, q3, q4⟩ := HKR.out
              have HCC := hide hv
              have q5 := (hB.cell (p := ⟨bw, ow + j * 2, none⟩) hbw).trans hg0
              have q6 := (hB.cell (p := ⟨bw, ow + j * 2 + 1, none⟩) hbw).trans hg1
              have HGG := hide ((hgi.below hB).more hsz)
              have zz2 : bw < wr.heap.size := by omega
              have hj0 : (0 : Int) ≤ (j : Int) := Int.natCast_nonneg _
              have hj1 : (j : Int) < (ws.length : Int) := by omega
              have hp0 : (0 : Int) ≤ (lot : Int) := Int.natCast_nonneg _
              have hp1 : (lot : Int) < (c.lots.length : Int) := by omega
              have HBR := hide hB
              have HFL := hide (filter_take_len ws (spoilsB c hd b lot) hlw)
              have hle : ((ws.take j).filter (spoilsB c hd b lot)).length ≤ j := by
                have h1 := List.length_filter_le (spoilsB c hd b lot) (ws.take j)
                have h2 := List.length_take_le j ws
                omega
              clear hv hB hg0 hg1 hgi
              go_wp2_with fail
              refine wp_post0 (fun act0 a W => ∃ vs : Nat → Value, a = { tmps := setAll (fun i => [55, 56, 57, 58, 59, 60, 61, 62, 63, 64, 65, 66, 67, 68, 69, 70, 71, 72, 73, 74, 75, 76, 77, 78, 79, 80, 81].getD i 0) vs [0, 1, 2, 3, 4, 5, 6, 7, 8, 9, 10, 11, 12, 13, 14, 15, 16, 17, 18, 19, 20, 21, 22, 23, 24, 25, 26] act0.tmps, defers := act0.defers } ∧ Below wr.heap.size wr W ∧ vs 26 = .bool (decide (nth (timesM c (ofL c hd [(b : Int)]) (nth ws j).1 (nth ws j).2) lot > nth (timesM c (ofL c hd []) (nth ws j).1 (nth ws j).2) lot))) ?reg ?imp
              case reg =>
                refine wp_region_grow2 (dst := fun i => [55, 56, 57, 58, 59, 60, 61, 62, 63, 64, 65, 66, 67, 68, 69, 70, 71, 72, 73, 74, 75, 76, 77, 78, 79, 80, 81].getD i 0) (mono := fun i => decide (i < 27)) (pre := fun i => decide (i < 27))
                  (Pv := fun i v W => match i with
                    | 0 => v = .agg #[.slice A1 c.heat.length c1, .int .i64 c.gas, .slice A2 c.holds.length c2, .slice (some ⟨bl, ol, none⟩) c.lots.length c3, .slice A4 c.seen.length c4]
                    | 1 => v = .agg #[.slice A1 c.heat.length c1, .int .i64 c.gas, .slice A2 c.holds.length c2, .slice (some ⟨bl, ol, none⟩) c.lots.length c3, .slice A4 c.seen.length c4]
                    | 2 => v = .int .i64 (hd : Nat)
                    | 3 => v = .int .i64 (b : Nat)
                    | 4 => ∃ A cp, v = .slice A 1 cp ∧ IntsS W W.heap.size A 1 cp [(b : Nat)]
                    | 5 => ∃ A cp, v = .slice A (ofL c hd [(b : Int)]).length cp ∧ IntsS W W.heap.size A (ofL c hd [(b : Int)]).length cp (natInts (ofL c hd [(b : Int)]))
                    | 6 => v = .slice (some ⟨bw, ow, none⟩) ws.length cA
                    | 7 => v = .int .i64 (j : Nat)
                    | 8 => v = .pointer (some ⟨bw, ow + j * 2, none⟩)
                    | 9 => v = .agg #[.int .i64 (nth ws j).1, .slice Ag (nth ws j).2.length cg]
                    | 10 => ∃ A cp, v = .slice A c.lots.length cp ∧ IntsS W W.heap.size A c.lots.length cp (timesM c (ofL c hd [(b : Int)]) (nth ws j).1 (nth ws j).2)
                    | 11 => v = .int .i64 (lot : Nat)
                    | 12 => ∃ gb gf, v = .pointer (some ⟨gb, gf, none⟩) ∧ gb < W.heap.size ∧ W.cell? ⟨gb, gf, none⟩ = some ((.int .i64 (nth (timesM c (ofL c hd [(b : Int)]) (nth ws j).1 (nth ws j).2) lot)))
                    | 13 => v = (.int .i64 (nth (timesM c (ofL c hd [(b : Int)]) (nth ws j).1 (nth ws j).2) lot))
                    | 14 => v = .agg #[.slice A1 c.heat.length c1, .int .i64 c.gas, .slice A2 c.holds.length c2, .slice (some ⟨bl, ol, none⟩) c.lots.length c3, .slice A4 c.seen.length c4]
                    | 15 => v = .agg #[.slice A1 c.heat.length c1, .int .i64 c.gas, .slice A2 c.holds.length c2, .slice (some ⟨bl, ol, none⟩) c.lots.length c3, .slice A4 c.seen.length c4]
                    | 16 => v = .int .i64 (hd : Nat)
                    | 17 => ∃ A cp, v = .slice A (ofL c hd []).length cp ∧ IntsS W W.heap.size A (ofL c hd []).length cp (natInts (ofL c hd []))
                    | 18 => v = .slice (some ⟨bw, ow, none⟩) ws.length cA
                    | 19 => v = .int .i64 (j : Nat)
                    | 20 => v = .pointer (some ⟨bw, ow + j * 2, none⟩)
                    | 21 => v = .agg #[.int .i64 (nth ws j).1, .slice Ag (nth ws j).2.length cg]
                    | 22 => ∃ A cp, v = .slice A c.lots.length cp ∧ IntsS W W.heap.size A c.lots.length cp (timesM c (ofL c hd []) (nth ws j).1 (nth ws j).2)
                    | 23 => v = .int .i64 (lot : Nat)
                    | 24 => ∃ gb gf, v = .pointer (some ⟨gb, gf, none⟩) ∧ gb < W.heap.size ∧ W.cell? ⟨gb, gf, none⟩ = some ((.int .i64 (nth (timesM c (ofL c hd []) (nth ws j).1 (nth ws j).2) lot)))
                    | 25 => v = (.int .i64 (nth (timesM c (ofL c hd []) (nth ws j).1 (nth ws j).2) lot))
                    | 26 => v = .bool (decide (nth (timesM c (ofL c hd [(b : Int)]) (nth ws j).1 (nth ws j).2) lot > nth (timesM c (ofL c hd []) (nth ws j).1 (nth ws j).2) lot))
                    | _ => True) (by kernel_rfl) (by kernel_rfl) ?hst ?hstep ?hend
                case hst =>
                  intro i v W W' h hb
                  match i, h with
                  | 0, h => exact h
                  | 1, h => exact h
                  | 2, h => exact h
                  | 3, h => exact h
                  | 4, h => (obtain ⟨A, cp, h1, h2⟩ := h; exact ⟨A, cp, h1, h2.next hb⟩)
                  | 5, h => (obtain ⟨A, cp, h1, h2⟩ := h; exact ⟨A, cp, h1, h2.next hb⟩)
                  | 6, h => exact h
                  | 7, h => exact h
                  | 8, h => exact h
                  | 9, h => exact h
                  | 10, h => (obtain ⟨A, cp, h1, h2⟩ := h; exact ⟨A, cp, h1, h2.next hb⟩)
                  | 11, h => exact h
                  | 12, h => (obtain ⟨gb, gf, h1, h2, h3⟩ := h; exact ⟨gb, gf, h1, Nat.lt_of_lt_of_le h2 hb.size, (hb.cell (p := ⟨gb, gf, none⟩) h2).trans h3⟩)
                  | 13, h => exact h
                  | 14, h => exact h
                  | 15, h => exact h
                  | 16, h => exact h
                  | 17, h => (obtain ⟨A, cp, h1, h2⟩ := h; exact ⟨A, cp, h1, h2.next hb⟩)
                  | 18, h => exact h
                  | 19, h => exact h
                  | 20, h => exact h
                  | 21, h => exact h
                  | 22, h => (obtain ⟨A, cp, h1, h2⟩ := h; exact ⟨A, cp, h1, h2.next hb⟩)
                  | 23, h => exact h
                  | 24, h => (obtain ⟨gb, gf, h1, h2, h3⟩ := h; exact ⟨gb, gf, h1, Nat.lt_of_lt_of_le h2 hb.size, (hb.cell (p := ⟨gb, gf, none⟩) h2).trans h3⟩)
                  | 25, h => exact h
                  | 26, h => exact h
                  | i + 27, h => exact trivial
                case hstep =>
                  intro i hi hm listed vs a W hU haft K hK
                  have hb := ((Below.refl wr.heap.size wr).drew).trans hU.below
                  match i, hi, hm with
                  | 0, hi, hm =>
                    have z3 : a.tmps[3]?.getD undef = .pointer (some ⟨w.heap.size, 0, none⟩) := hU.same 3 (by decide)
                    have y0 := (hb.cell (p := ⟨w.heap.size, 0, none⟩) zz1).trans q0
                    have y1 := (hb.cell (p := ⟨w.heap.size, 1, none⟩) zz1).trans q1
                    have y2 := (hb.cell (p := ⟨w.heap.size, 2, none⟩) zz1).trans q2
                    have y3 := (hb.cell (p := ⟨w.heap.size, 3, none⟩) zz1).trans q3
                    have y4 := (hb.cell (p := ⟨w.heap.size, 4, none⟩) zz1).trans q4
                    refine wpOp_value (v := .agg #[.slice A1 c.heat.length c1, .int .i64 c.gas, .slice A2 c.holds.length c2, .slice (some ⟨bl, ol, none⟩) c.lots.length c3, .slice A4 c.seen.length c4]) (W' := W) rfl rfl ?_ (hK _ _ (Below.refl _ _) rfl)
                    go_simp
                  | 1, hi, hm =>
                    have z3 : a.tmps[3]?.getD undef = .pointer (some ⟨w.heap.size, 0, none⟩) := hU.same 3 (by decide)
                    have y0 := (hb.cell (p := ⟨w.heap.size, 0, none⟩) zz1).trans q0
                    have y1 := (hb.cell (p := ⟨w.heap.size, 1, none⟩) zz1).trans q1
                    have y2 := (hb.cell (p := ⟨w.heap.size, 2, none⟩) zz1).trans q2
                    have y3 := (hb.cell (p := ⟨w.heap.size, 3, none⟩) zz1).trans q3
                    have y4 := (hb.cell (p := ⟨w.heap.size, 4, none⟩) zz1).trans q4
                    refine wpOp_value (v := .agg #[.slice A1 c.heat.length c1, .int .i64 c.gas, .slice A2 c.holds.length c2, .slice (some ⟨bl, ol, none⟩) c.lots.length c3, .slice A4 c.seen.length c4]) (W' := W) rfl rfl ?_ (hK _ _ (Below.refl _ _) rfl)
                    go_simp
                  | 2, hi, hm =>
                    have z9 : a.tmps[9]?.getD undef = .int .i64 (hd : Nat) := hU.same 9 (by decide)
                    refine wpOp_value (v := .int .i64 (hd : Nat)) (W' := W) rfl rfl ?_ (hK _ _ (Below.refl _ _) rfl)
                    go_simp
                  | 3, hi, hm =>
                    have z1 : a.tmps[1]?.getD undef = .int .i64 (b : Nat) := hU.same 1 (by decide)
                    refine wpOp_value (v := .int .i64 (b : Nat)) (W' := W) rfl rfl ?_ (hK _ _ (Below.refl _ _) rfl)
                    go_simp
                  | 4, hi, hm =>
                    have l3 := haft _ rfl { on := 3, ground := .data } (by simp) rfl
                    have p3 := hU.pv 3 l3
                    have s3 : a.tmps[58]?.getD undef = vs 3 := hU.slot 3 (by decide) l3
                    have hv3 : vs 3 = .int .i64 (b : Nat) := p3
                    rw [hv3] at s3
                    refine wpOp_value (v := .slice (some ⟨W.heap.size, 0, none⟩) 1 1) (W' := (W.alloc (.cells #[.int .i64 (b : Nat)] 3))) rfl rfl ?_ (hK _ _ ((Below.refl _ _).alloc (Nat.le_refl _) _) ⟨_, _, rfl, (IntsS.lit1 rfl (b : Nat)).more (by simp)⟩)
                    go_simp
                  | 5, hi, hm =>
                    have l1 := haft _ rfl { on := 1, ground := .data } (by simp) rfl
                    have p1 := hU.pv 1 l1
                    have s1 : a.tmps[56]?.getD undef = vs 1 := hU.slot 1 (by decide) l1
                    have hv1 : vs 1 = .agg #[.slice A1 c.heat.length c1, .int .i64 c.gas, .slice A2 c.holds.length c2, .slice (some ⟨bl, ol, none⟩) c.lots.length c3, .slice A4 c.seen.length c4] := p1
                    rw [hv1] at s1
                    have l2 := haft _ rfl { on := 2, ground := .data } (by simp) rfl
                    have p2 := hU.pv 2 l2
                    have s2 : a.tmps[57]?.getD undef = vs 2 := hU.slot 2 (by decide) l2
                    have hv2 : vs 2 = .int .i64 (hd : Nat) := p2
                    rw [hv2] at s2
                    have l4 := haft _ rfl { on := 4, ground := .data } (by simp) rfl
                    have p4 := hU.pv 4 l4
                    have s4 : a.tmps[59]?.getD undef = vs 4 := hU.slot 4 (by decide) l4
                    obtain ⟨PA4, kp4, hv4, hi4⟩ := p4
                    rw [hv4] at s4
                    refine wpOp_enter (f := 45) (args := #[.agg #[.slice A1 c.heat.length c1, .int .i64 c.gas, .slice A2 c.holds.length c2, .slice (some ⟨bl, ol, none⟩) c.lots.length c3, .slice A4 c.seen.length c4], .int .i64 (hd : Nat), .slice PA4 1 kp4]) (W' := W) rfl rfl ?_ ((of_any (HCC.out.next hb) (hd : Int) hi4 hlots6).mono (fun e w'' h => ?_))
                    · go_simp
                    · obtain ⟨A, cp, he, hL, hbw⟩ := h
                      exact ⟨_, he, hK _ _ hbw ⟨A, cp, rfl, hL⟩⟩
                  | 6, hi, hm =>
                    have z10 : a.tmps[10]?.getD undef = .slice (some ⟨bw, ow, none⟩) ws.length cA := hU.same 10 (by decide)
                    refine wpOp_value (v := .slice (some ⟨bw, ow, none⟩) ws.length cA) (W' := W) rfl rfl ?_ (hK _ _ (Below.refl _ _) rfl)
                    go_simp
                  | 7, hi, hm =>
                    have z12 : a.tmps[12]?.getD undef = .int .i64 (j : Nat) := hU.same 12 (by decide)
                    refine wpOp_value (v := .int .i64 (j : Nat)) (W' := W) rfl rfl ?_ (hK _ _ (Below.refl _ _) rfl)
                    go_simp
                  | 8, hi, hm =>
                    have l6 := haft _ rfl { on := 6, ground := .data } (by simp) rfl
                    have p6 := hU.pv 6 l6
                    have s6 : a.tmps[61]?.getD undef = vs 6 := hU.slot 6 (by decide) l6
                    have hv6 : vs 6 = .slice (some ⟨bw, ow, none⟩) ws.length cA := p6
                    rw [hv6] at s6
                    have l7 := haft _ rfl { on := 7, ground := .data } (by simp) rfl
                    have p7 := hU.pv 7 l7
                    have s7 : a.tmps[62]?.getD undef = vs 7 := hU.slot 7 (by decide) l7
                    have hv7 : vs 7 = .int .i64 (j : Nat) := p7
                    rw [hv7] at s7
                    refine wpOp_value (v := .pointer (some ⟨bw, ow + j * 2, none⟩)) (W' := W) rfl rfl ?_ (hK _ _ (Below.refl _ _) rfl)
                    go_simp
                  | 9, hi, hm =>
                    have l8 := haft _ rfl { on := 8, ground := .data } (by simp) rfl
                    have p8 := hU.pv 8 l8
                    have s8 : a.tmps[63]?.getD undef = vs 8 := hU.slot 8 (by decide) l8
                    have hv8 : vs 8 = .pointer (some ⟨bw, ow + j * 2, none⟩) := p8
                    rw [hv8] at s8
                    have y0 := (hb.cell (p := ⟨bw, ow + j * 2, none⟩) zz2).trans q5
                    have y1 := (hb.cell (p := ⟨bw, ow + j * 2 + 1, none⟩) zz2).trans q6
                    refine wpOp_value (v := .agg #[.int .i64 (nth ws j).1, .slice Ag (nth ws j).2.length cg]) (W' := W) rfl rfl ?_ (hK _ _ (Below.refl _ _) rfl)
                    go_simp
                  | 10, hi, hm =>
                    have l0 := haft _ rfl { on := 0, ground := .data } (by simp) rfl
                    have p0 := hU.pv 0 l0
                    have s0 : a.tmps[55]?.getD undef = vs 0 := hU.slot 0 (by decide) l0
                    have hv0 : vs 0 = .agg #[.slice A1 c.heat.length c1, .int .i64 c.gas, .slice A2 c.holds.length c2, .slice (some ⟨bl, ol, none⟩) c.lots.length c3, .slice A4 c.seen.length c4] := p0
                    rw [hv0] at s0
                    have l5 := haft _ rfl { on := 5, ground := .data } (by simp) rfl
                    have p5 := hU.pv 5 l5
                    have s5 : a.tmps[60]?.getD undef = vs 5 := hU.slot 5 (by decide) l5
                    obtain ⟨PA5, kp5, hv5, hi5⟩ := p5
                    rw [hv5] at s5
                    have l9 := haft _ rfl { on := 9, ground := .data } (by simp) rfl
                    have p9 := hU.pv 9 l9
                    have s9 : a.tmps[64]?.getD undef = vs 9 := hU.slot 9 (by decide) l9
                    have hv9 : vs 9 = .agg #[.int .i64 (nth ws j).1, .slice Ag (nth ws j).2.length cg] := p9
                    rw [hv9] at s9
                    refine wpOp_enter (f := 85) (args := #[.agg #[.slice A1 c.heat.length c1, .int .i64 c.gas, .slice A2 c.holds.length c2, .slice (some ⟨bl, ol, none⟩) c.lots.length c3, .slice A4 c.seen.length c4], .slice PA5 (ofL c hd [(b : Int)]).length kp5, .agg #[.int .i64 (nth ws j).1, .slice Ag (nth ws j).2.length cg]]) (W' := W) rfl rfl ?_ ((times7_any (HCC.out.next hb) HSM.out hi5 ofL_lt (ofL_nodup _ _ _) (HGG.out.next hb) HME.out.2.1 (fun i => by have := HME.out.2.2 i; omega) HME.out.1).mono (fun e w'' h => ?_))
                    · go_simp
                    · obtain ⟨A, cp, he, hT, hbw⟩ := h
                      exact ⟨_, he, hK _ _ hbw ⟨A, cp, rfl, hT⟩⟩
                  | 11, hi, hm =>
                    have z2 : a.tmps[2]?.getD undef = .int .i64 (lot : Nat) := hU.same 2 (by decide)
                    refine wpOp_value (v := .int .i64 (lot : Nat)) (W' := W) rfl rfl ?_ (hK _ _ (Below.refl _ _) rfl)
                    go_simp
                  | 12, hi, hm =>
                    have l10 := haft _ rfl { on := 10, ground := .data } (by simp) rfl
                    have p10 := hU.pv 10 l10
                    have s10 : a.tmps[65]?.getD undef = vs 10 := hU.slot 10 (by decide) l10
                    obtain ⟨PA10, kp10, hv10, hi10⟩ := p10
                    rw [hv10] at s10
                    have l11 := haft _ rfl { on := 11, ground := .data } (by simp) rfl
                    have p11 := hU.pv 11 l11
                    have s11 : a.tmps[66]?.getD undef = vs 11 := hU.slot 11 (by decide) l11
                    have hv11 : vs 11 = .int .i64 (lot : Nat) := p11
                    rw [hv11] at s11
                    obtain ⟨gb, gf, e, hbz, hcz⟩ := hi10.at_ (hlt)
                    subst e
                    refine wpOp_value (v := .pointer (some ⟨gb, gf + lot, none⟩)) (W' := W) rfl rfl ?_ (hK _ _ (Below.refl _ _) ⟨_, _, rfl, hbz, hcz⟩)
                    go_simp
                  | 13, hi, hm =>
                    have l12 := haft _ rfl { on := 12, ground := .data } (by simp) rfl
                    have p12 := hU.pv 12 l12
                    have s12 : a.tmps[67]?.getD undef = vs 12 := hU.slot 12 (by decide) l12
                    obtain ⟨b12, o12, hv12, hz12, hc12⟩ := p12
                    rw [hv12] at s12
                    refine wpOp_value (v := (.int .i64 (nth (timesM c (ofL c hd [(b : Int)]) (nth ws j).1 (nth ws j).2) lot))) (W' := W) rfl rfl ?_ (hK _ _ (Below.refl _ _) rfl)
                    go_simp
                  | 14, hi, hm =>
                    have z3 : a.tmps[3]?.getD undef = .pointer (some ⟨w.heap.size, 0, none⟩) := hU.same 3 (by decide)
                    have y0 := (hb.cell (p := ⟨w.heap.size, 0, none⟩) zz1).trans q0
                    have y1 := (hb.cell (p := ⟨w.heap.size, 1, none⟩) zz1).trans q1
                    have y2 := (hb.cell (p := ⟨w.heap.size, 2, none⟩) zz1).trans q2
                    have y3 := (hb.cell (p := ⟨w.heap.size, 3, none⟩) zz1).trans q3
                    have y4 := (hb.cell (p := ⟨w.heap.size, 4, none⟩) zz1).trans q4
                    refine wpOp_value (v := .agg #[.slice A1 c.heat.length c1, .int .i64 c.gas, .slice A2 c.holds.length c2, .slice (some ⟨bl, ol, none⟩) c.lots.length c3, .slice A4 c.seen.length c4]) (W' := W) rfl rfl ?_ (hK _ _ (Below.refl _ _) rfl)
                    go_simp
                  | 15, hi, hm =>
                    have z3 : a.tmps[3]?.getD undef = .pointer (some ⟨w.heap.size, 0, none⟩) := hU.same 3 (by decide)
                    have y0 := (hb.cell (p := ⟨w.heap.size, 0, none⟩) zz1).trans q0
                    have y1 := (hb.cell (p := ⟨w.heap.size, 1, none⟩) zz1).trans q1
                    have y2 := (hb.cell (p := ⟨w.heap.size, 2, none⟩) zz1).trans q2
                    have y3 := (hb.cell (p := ⟨w.heap.size, 3, none⟩) zz1).trans q3
                    have y4 := (hb.cell (p := ⟨w.heap.size, 4, none⟩) zz1).trans q4
                    refine wpOp_value (v := .agg #[.slice A1 c.heat.length c1, .int .i64 c.gas, .slice A2 c.holds.length c2, .slice (some ⟨bl, ol, none⟩) c.lots.length c3, .slice A4 c.seen.length c4]) (W' := W) rfl rfl ?_ (hK _ _ (Below.refl _ _) rfl)
                    go_simp
                  | 16, hi, hm =>
                    have z9 : a.tmps[9]?.getD undef = .int .i64 (hd : Nat) := hU.same 9 (by decide)
                    refine wpOp_value (v := .int .i64 (hd : Nat)) (W' := W) rfl rfl ?_ (hK _ _ (Below.refl _ _) rfl)
                    go_simp
                  | 17, hi, hm =>
                    have l15 := haft _ rfl { on := 15, ground := .data } (by simp) rfl
                    have p15 := hU.pv 15 l15
                    have s15 : a.tmps[70]?.getD undef = vs 15 := hU.slot 15 (by decide) l15
                    have hv15 : vs 15 = .agg #[.slice A1 c.heat.length c1, .int .i64 c.gas, .slice A2 c.holds.length c2, .slice (some ⟨bl, ol, none⟩) c.lots.length c3, .slice A4 c.seen.length c4] := p15
                    rw [hv15] at s15
                    have l16 := haft _ rfl { on := 16, ground := .data } (by simp) rfl
                    have p16 := hU.pv 16 l16
                    have s16 : a.tmps[71]?.getD undef = vs 16 := hU.slot 16 (by decide) l16
                    have hv16 : vs 16 = .int .i64 (hd : Nat) := p16
                    rw [hv16] at s16
                    refine wpOp_enter (f := 45) (args := #[.agg #[.slice A1 c.heat.length c1, .int .i64 c.gas, .slice A2 c.holds.length c2, .slice (some ⟨bl, ol, none⟩) c.lots.length c3, .slice A4 c.seen.length c4], .int .i64 (hd : Nat), .slice none 0 0]) (W' := W) rfl rfl ?_ ((of_any (HCC.out.next hb) (hd : Int) IntsS.nil_ hlots6).mono (fun e w'' h => ?_))
                    · go_simp
                    · obtain ⟨A, cp, he, hL, hbw⟩ := h
                      exact ⟨_, he, hK _ _ hbw ⟨A, cp, rfl, hL⟩⟩
                  | 18, hi, hm =>
                    have z10 : a.tmps[10]?.getD undef = .slice (some ⟨bw, ow, none⟩) ws.length cA := hU.same 10 (by decide)
                    refine wpOp_value (v := .slice (some ⟨bw, ow, none⟩) ws.length cA) (W' := W) rfl rfl ?_ (hK _ _ (Below.refl _ _) rfl)
                    go_simp
                  | 19, hi, hm =>
                    have z12 : a.tmps[12]?.getD undef = .int .i64 (j : Nat) := hU.same 12 (by decide)
                    refine wpOp_value (v := .int .i64 (j : Nat)) (W' := W) rfl rfl ?_ (hK _ _ (Below.refl _ _) rfl)
                    go_simp
                  | 20, hi, hm =>
                    have l18 := haft _ rfl { on := 18, ground := .data } (by simp) rfl
                    have p18 := hU.pv 18 l18
                    have s18 : a.tmps[73]?.getD undef = vs 18 := hU.slot 18 (by decide) l18
                    have hv18 : vs 18 = .slice (some ⟨bw, ow, none⟩) ws.length cA := p18
                    rw [hv18] at s18
                    have l19 := haft _ rfl { on := 19, ground := .data } (by simp) rfl
                    have p19 := hU.pv 19 l19
                    have s19 : a.tmps[74]?.getD undef = vs 19 := hU.slot 19 (by decide) l19
                    have hv19 : vs 19 = .int .i64 (j : Nat) := p19
                    rw [hv19] at s19
                    refine wpOp_value (v := .pointer (some ⟨bw, ow + j * 2, none⟩)) (W' := W) rfl rfl ?_ (hK _ _ (Below.refl _ _) rfl)
                    go_simp
                  | 21, hi, hm =>
                    have l20 := haft _ rfl { on := 20, ground := .data } (by simp) rfl
                    have p20 := hU.pv 20 l20
                    have s20 : a.tmps[75]?.getD undef = vs 20 := hU.slot 20 (by decide) l20
                    have hv20 : vs 20 = .pointer (some ⟨bw, ow + j * 2, none⟩) := p20
                    rw [hv20] at s20
                    have y0 := (hb.cell (p := ⟨bw, ow + j * 2, none⟩) zz2).trans q5
                    have y1 := (hb.cell (p := ⟨bw, ow + j * 2 + 1, none⟩) zz2).trans q6
                    refine wpOp_value (v := .agg #[.int .i64 (nth ws j).1, .slice Ag (nth ws j).2.length cg]) (W' := W) rfl rfl ?_ (hK _ _ (Below.refl _ _) rfl)
                    go_simp
                  | 22, hi, hm =>
                    have l14 := haft _ rfl { on := 14, ground := .data } (by simp) rfl
                    have p14 := hU.pv 14 l14
                    have s14 : a.tmps[69]?.getD undef = vs 14 := hU.slot 14 (by decide) l14
                    have hv14 : vs 14 = .agg #[.slice A1 c.heat.length c1, .int .i64 c.gas, .slice A2 c.holds.length c2, .slice (some ⟨bl, ol, none⟩) c.lots.length c3, .slice A4 c.seen.length c4] := p14
                    rw [hv14] at s14
                    have l17 := haft _ rfl { on := 17, ground := .data } (by simp) rfl
                    have p17 := hU.pv 17 l17
                    have s17 : a.tmps[72]?.getD undef = vs 17 := hU.slot 17 (by decide) l17
                    obtain ⟨PA17, kp17, hv17, hi17⟩ := p17
                    rw [hv17] at s17
                    have l21 := haft _ rfl { on := 21, ground := .data } (by simp) rfl
                    have p21 := hU.pv 21 l21
                    have s21 : a.tmps[76]?.getD undef = vs 21 := hU.slot 21 (by decide) l21
                    have hv21 : vs 21 = .agg #[.int .i64 (nth ws j).1, .slice Ag (nth ws j).2.length cg] := p21
                    rw [hv21] at s21
                    refine wpOp_enter (f := 85) (args := #[.agg #[.slice A1 c.heat.length c1, .int .i64 c.gas, .slice A2 c.holds.length c2, .slice (some ⟨bl, ol, none⟩) c.lots.length c3, .slice A4 c.seen.length c4], .slice PA17 (ofL c hd []).length kp17, .agg #[.int .i64 (nth ws j).1, .slice Ag (nth ws j).2.length cg]]) (W' := W) rfl rfl ?_ ((times7_any (HCC.out.next hb) HSM.out hi17 ofL_lt (ofL_nodup _ _ _) (HGG.out.next hb) HME.out.2.1 (fun i => by have := HME.out.2.2 i; omega) HME.out.1).mono (fun e w'' h => ?_))
                    · go_simp
                    · obtain ⟨A, cp, he, hT, hbw⟩ := h
                      exact ⟨_, he, hK _ _ hbw ⟨A, cp, rfl, hT⟩⟩
                  | 23, hi, hm =>
                    have z2 : a.tmps[2]?.getD undef = .int .i64 (lot : Nat) := hU.same 2 (by decide)
                    refine wpOp_value (v := .int .i64 (lot : Nat)) (W' := W) rfl rfl ?_ (hK _ _ (Below.refl _ _) rfl)
                    go_simp
                  | 24, hi, hm =>
                    have l22 := haft _ rfl { on := 22, ground := .data } (by simp) rfl
                    have p22 := hU.pv 22 l22
                    have s22 : a.tmps[77]?.getD undef = vs 22 := hU.slot 22 (by decide) l22
                    obtain ⟨PA22, kp22, hv22, hi22⟩ := p22
                    rw [hv22] at s22
                    have l23 := haft _ rfl { on := 23, ground := .data } (by simp) rfl
                    have p23 := hU.pv 23 l23
                    have s23 : a.tmps[78]?.getD undef = vs 23 := hU.slot 23 (by decide) l23
                    have hv23 : vs 23 = .int .i64 (lot : Nat) := p23
                    rw [hv23] at s23
                    obtain ⟨gb, gf, e, hbz, hcz⟩ := hi22.at_ (hlt)
                    subst e
                    refine wpOp_value (v := .pointer (some ⟨gb, gf + lot, none⟩)) (W' := W) rfl rfl ?_ (hK _ _ (Below.refl _ _) ⟨_, _, rfl, hbz, hcz⟩)
                    go_simp
                  | 25, hi, hm =>
                    have l24 := haft _ rfl { on := 24, ground := .data } (by simp) rfl
                    have p24 := hU.pv 24 l24
                    have s24 : a.tmps[79]?.getD undef = vs 24 := hU.slot 24 (by decide) l24
                    obtain ⟨b24, o24, hv24, hz24, hc24⟩ := p24
                    rw [hv24] at s24
                    refine wpOp_value (v := (.int .i64 (nth (timesM c (ofL c hd []) (nth ws j).1 (nth ws j).2) lot))) (W' := W) rfl rfl ?_ (hK _ _ (Below.refl _ _) rfl)
                    go_simp
                  | 26, hi, hm =>
                    have l13 := haft _ rfl { on := 13, ground := .data } (by simp) rfl
                    have p13 := hU.pv 13 l13
                    have s13 : a.tmps[68]?.getD undef = vs 13 := hU.slot 13 (by decide) l13
                    have hv13 : vs 13 = (.int .i64 (nth (timesM c (ofL c hd [(b : Int)]) (nth ws j).1 (nth ws j).2) lot)) := p13
                    rw [hv13] at s13
                    have l25 := haft _ rfl { on := 25, ground := .data } (by simp) rfl
                    have p25 := hU.pv 25 l25
                    have s25 : a.tmps[80]?.getD undef = vs 25 := hU.slot 25 (by decide) l25
                    have hv25 : vs 25 = (.int .i64 (nth (timesM c (ofL c hd []) (nth ws j).1 (nth ws j).2) lot)) := p25
                    rw [hv25] at s25
                    refine wpOp_value (v := .bool (decide (nth (timesM c (ofL c hd [(b : Int)]) (nth ws j).1 (nth ws j).2) lot > nth (timesM c (ofL c hd []) (nth ws j).1 (nth ws j).2) lot))) (W' := W) rfl rfl ?_ (hK _ _ (Below.refl _ _) rfl)
                    go_simp
                  | i + 27, hi, hm => exact absurd (of_decide_eq_true hm) (by omega)
                case hend =>
                  intro listed vs a W hG hpre
                  have hb := ((Below.refl wr.heap.size wr).drew).trans hG.below
                  have hact := hG.act
                  have hT := hG.lst hpre 0 #[true, true, true, true, true, true, true, true, true, true, true, true, true, true, true, true, true, true, true, true, true, true, true, true, true, true, true] rfl (by kernel_rfl) (hpre 0 (by decide) (by decide))
                  rw [hG.ix hT (l := [0, 1, 2, 3, 4, 5, 6, 7, 8, 9, 10, 11, 12, 13, 14, 15, 16, 17, 18, 19, 20, 21, 22, 23, 24, 25, 26]) (by kernel_rfl)] at hact
                  rw [hG.lo hT (k := 0) (by kernel_rfl)]
                  have hpost := And.intro trivial (show vs 26 = .bool (decide (nth (timesM c (ofL c hd [(b : Int)]) (nth ws j).1 (nth ws j).2) lot > nth (timesM c (ofL c hd []) (nth ws j).1 (nth ws j).2) lot)) from hG.pv 26 (hpre 26 (by decide) (by decide)))
                  subst hT
                  refine wpAny_done (by kernel_rfl) ?_ _
                  exact ⟨rfl, vs, hact, hb, hpost.2⟩
              case imp =>
              rintro a w5 ⟨vs, rfl, hb5, h26⟩
              simp only [setAll, List.setIfInBounds_toArray, List.set_cons_succ, List.set_cons_zero, List.getD_cons_succ, List.getD_cons_zero]
              have h26 : vs 26 = .bool (spoilsB c hd b lot (nth ws j)) := h26
              have HBR := hide (HBR.out.trans (hb5.mono hsz))
              clear hb5 q0 q1 q2 q3 q4 q5 q6
              generalize ((ws.take j).filter (spoilsB c hd b lot)).length = n at *
              have hn0 : (0 : Int) ≤ (n : Int) := Int.natCast_nonneg _
              cases hsb : spoilsB c hd b lot (nth ws j) with
              | true =>
                have HSB := hide hsb
                rw [h26, hsb]
                clear h26 hsb
                go_wp2_with fail
                go_roundw
                case rel => exact ⟨j + 1, by omega, by go_num, by rw [HFL.out, HSB.out]; go_num, HBR.out⟩
                case measure => simp [intOf]; omega
              | false =>
                have HSB := hide hsb
                rw [h26, hsb]
                clear h26 hsb
                go_wp2_with fail
                go_roundw
                case rel => exact ⟨j + 1, by omega, by go_num, by rw [HFL.out, HSB.out]; rfl, HBR.out⟩
                case measure => simp [intOf]; omega
            · have hjj : j = ws.length := by omega
              have HJ := hide hjj
              have HBR := hide hB
              clear hjj hB
              go_wp2_with (go_at_call 77; refine (settled_any _ _ _).mono ?_; rintro e w' ⟨rfl, rfl⟩)
              go_ret2
              rw [HR.out, HJ.out, List.take_length]
              exact ⟨rfl, HB.out.trans (HBR.out.mono HB.out.size)⟩
end Go.Proofs.Ytbkknliggnhpcaa
