/- The contract of the reference's Fits of chapter 07. -/
import Derived.Test.YtbkknliggnhpcaaRefP
import Derived.Test.YtbkknliggnhpcaaRefN
set_option linter.unusedVariables false
set_option linter.unusedSimpArgs false
namespace Go.Proofs.Ytbkknliggnhpcaa
open Go.RowKit
attribute [local go_sem ↓] Go.wp_at_zero Go.wp_at_succ

/-- The cargo with a lot of one green in a hold. -/
def moreC (c : Cargo) (hd : Nat) (green frm : Int) : Cargo := withLot c ⟨hd, frm, ⟨green, green⟩⟩
def thenM (c : Cargo) (hd : Nat) (green frm wm : Int) (g : List Int) : List Int := timesM (moreC c hd green frm) (ofL (moreC c hd green frm) hd []) wm (g ++ [green])
def fitsB (c : Cargo) (hd : Nat) (green frm un : Int) (p : Int × List Int) : Bool :=
  decide (nth (thenM c hd green frm p.1 p.2) c.lots.length > un) && (ofL c hd []).all fun q => nth (thenM c hd green frm p.1 p.2) q == nth (timesM c (ofL c hd []) p.1 p.2) q

set_option maxHeartbeats 2000000 in
set_option maxRecDepth 100000 in
theorem fits7_any {A1 A2 A3 A4 : Option Addr} {c1 c2 c3 c4 : Nat} {c : Cargo} {w : World} (h : CargoV w w.heap.size c A1 A2 A3 A4 c1 c2 c3 c4) (hval : Valid c) {hd : Nat} (hhd : hd < c.holds.length) {green frm un wm : Int} {g : List Int} (hg40 : 0 ≤ green ∧ green ≤ 40) (hwm : 0 ≤ wm ∧ wm ≤ 6) (hgl : g.length = c.lots.length) (hgb : ∀ i, 0 ≤ nth g i ∧ nth g i ≤ 40)
    {Ag : Option Addr} {cg : Nat} (hgi : IntsS w w.heap.size Ag g.length cg g) :
    Calls Try.prog 43 #[cargoVal c A1 A2 A3 A4 c1 c2 c3 c4, .int .i64 hd, .int .i64 green, .int .i64 frm, .int .i64 un, .agg #[.int .i64 wm, .slice Ag g.length cg]] w fun e w' => e = .returned (.bool (fitsB c hd green frm un (wm, g))) ∧ Below w.heap.size w w' := by
  obtain ⟨i0, hi0, hz00, hz01, hz02⟩ := info_parts Try.infoInt
  have hB1 : Below w.heap.size w (w.alloc (.cells #[.slice A1 c.heat.length c1, .int .i64 c.gas, .slice A2 c.holds.length c2, .slice A3 c.lots.length c3, .slice A4 c.seen.length c4] 27)) := (Below.refl _ _).alloc (Nat.le_refl _) _
  have hB2 : Below (w.alloc (.cells #[.slice A1 c.heat.length c1, .int .i64 c.gas, .slice A2 c.holds.length c2, .slice A3 c.lots.length c3, .slice A4 c.seen.length c4] 27)).heap.size (w.alloc (.cells #[.slice A1 c.heat.length c1, .int .i64 c.gas, .slice A2 c.holds.length c2, .slice A3 c.lots.length c3, .slice A4 c.seen.length c4] 27)) ((w.alloc (.cells #[.slice A1 c.heat.length c1, .int .i64 c.gas, .slice A2 c.holds.length c2, .slice A3 c.lots.length c3, .slice A4 c.seen.length c4] 27)).alloc (.cells #[.int .i64 wm, .slice Ag g.length cg] 66)) := (Below.refl _ _).alloc (Nat.le_refl _) _
  have bw : Blk ((w.alloc (.cells #[.slice A1 c.heat.length c1, .int .i64 c.gas, .slice A2 c.holds.length c2, .slice A3 c.lots.length c3, .slice A4 c.seen.length c4] 27)).alloc (.cells #[.int .i64 wm, .slice Ag g.length cg] 66)) (w.heap.size + 1) 66 #[.int .i64 wm, .slice Ag g.length cg] := Blk.made' (by simp)
  have HK := hide ((BoxC.made h).next hB2)
  have HB := hide (hB1.trans (hB2.mono hB1.size))
  have HBW := hide bw
  have HG := hide ((hgi.next hB1).next hB2)
  have HVD := hide hval
  have HSM := hide hval.small
  have hlots := hval.lots
  have hlots6 : c.lots.length ≤ 1000000 := by omega
  have HGL := hide hgl
  have HGB := hide hgb
  have HRR := hide (show fitsB c hd green frm un (wm, g) = (decide (nth (thenM c hd green frm wm g) c.lots.length > un) && (ofL c hd []).all fun q => nth (thenM c hd green frm wm g) q == nth (timesM c (ofL c hd []) wm g) q) from rfl)
  clear hB1 hB2 bw h hval hgi hgl hgb
  go_enter Try.func43, Try.ntmps43
  go_upto_region 1 with (fail)
  generalize ((w.alloc (.cells #[.slice A1 c.heat.length c1, .int .i64 c.gas, .slice A2 c.holds.length c2, .slice A3 c.lots.length c3, .slice A4 c.seen.length c4] 27)).alloc (.cells #[.int .i64 wm, .slice Ag g.length cg] 66)) = v0 at *
  obtain ⟨hv, z, x0, x1, x2, x3, x4⟩ := HK.out
  have HV := hide hv
  clear hv
  go_upto_region 2 with (go_at_call 98; refine (with7_any HV.out ⟨hd, frm, ⟨green, green⟩⟩ hlots6).mono ?_; rintro e v1 ⟨AM, cM, rfl, hM, hb⟩)
  have HMC := hide (show thenM c hd green frm wm g = timesM (withLot c ⟨hd, frm, ⟨green, green⟩⟩) (ofL (withLot c ⟨hd, frm, ⟨green, green⟩⟩) hd []) wm (g ++ [green]) from rfl)
  have hml : (withLot c ⟨hd, frm, ⟨green, green⟩⟩).lots.length = c.lots.length + 1 := by simp [withLot]
  have HMS := hide (withLot_small HVD.out ⟨hd, frm, ⟨green, green⟩⟩)
  have HFB := hide (HB.out.trans (hb.mono HB.out.size))
  have hb2 : Below v1.heap.size v1 (v1.alloc (.cells #[.slice A1 (withLot c ⟨hd, frm, ⟨green, green⟩⟩).heat.length c1, .int .i64 (withLot c ⟨hd, frm, ⟨green, green⟩⟩).gas, .slice A2 (withLot c ⟨hd, frm, ⟨green, green⟩⟩).holds.length c2, .slice AM (withLot c ⟨hd, frm, ⟨green, green⟩⟩).lots.length cM, .slice A4 (withLot c ⟨hd, frm, ⟨green, green⟩⟩).seen.length c4] 27)) := (Below.refl _ _).alloc (Nat.le_refl _) _
  have HKM := hide (BoxC.made hM)
  have HK := hide ((HK.out.next hb).next hb2)
  have HG := hide ((HG.out.next hb).next hb2)
  have HBW := hide ((HBW.out.next hb).next hb2)
  have HB := hide (HFB.out.trans (hb2.mono HFB.out.size))
  clear z x0 x1 x2 x3 x4 HV hb hb2 hM HFB
  generalize (v1.alloc (.cells #[.slice A1 (withLot c ⟨hd, frm, ⟨green, green⟩⟩).heat.length c1, .int .i64 (withLot c ⟨hd, frm, ⟨green, green⟩⟩).gas, .slice A2 (withLot c ⟨hd, frm, ⟨green, green⟩⟩).holds.length c2, .slice AM (withLot c ⟨hd, frm, ⟨green, green⟩⟩).lots.length cM, .slice A4 (withLot c ⟨hd, frm, ⟨green, green⟩⟩).seen.length c4] 27)) = v2 at *
  generalize (withLot c ⟨hd, frm, ⟨green, green⟩⟩) = m at *
  obtain ⟨hv, z, x0, x1, x2, x3, x4⟩ := HK.out
  have HV := hide hv
  have HML := hide hml
  clear hv hml
  go_upto_region 3 with (go_at_call 45; refine (of_any HV.out (hd : Int) IntsS.nil_ hlots6).mono ?_; rintro e v3 ⟨AL, cL, rfl, hL, hb⟩)
  have HK := hide (HK.out.next hb)
  have HKM := hide (HKM.out.next hb)
  have HG := hide (HG.out.next hb)
  have HBW := hide (HBW.out.next hb)
  have HB := hide (HB.out.trans (hb.mono HB.out.size))
  have HL := hide hL
  have HLT := hide (ofL_lt (c := c) (hold := hd) (but := []))
  have HND := hide (ofL_nodup c hd [])
  have hLl : (ofL c (hd : Int) []).length ≤ 4 := Nat.le_trans (ofTo_le c hd [] c.lots.length) hlots
  clear hb hL z x0 x1 x2 x3 x4 HV
  generalize ofL c (hd : Int) [] = L at *
  obtain ⟨hv, z, x0, x1, x2, x3, x4⟩ := HK.out
  have yw0 : v3.cell? ⟨w.heap.size + 1, 0, none⟩ = some (.int .i64 wm) := HBW.out.at_ 0
  have yw1 : v3.cell? ⟨w.heap.size + 1, 1, none⟩ = some (.slice Ag g.length cg) := HBW.out.at_ 1
  have zw := HBW.out.lt
  have HV := hide hv
  clear hv
  go_upto_region 4 with (go_at_call 85; refine (times7_any HV.out HSM.out HL.out HLT.out HND.out HG.out HGL.out (fun i => by have := HGB.out i; omega) hwm).mono ?_; rintro e v4 ⟨AT, cT, rfl, hT, hb⟩)
  have HK := hide (HK.out.next hb)
  have HKM := hide (HKM.out.next hb)
  have HG := hide (HG.out.next hb)
  have HL := hide (HL.out.next hb)
  have HBW := hide (HBW.out.next hb)
  have HB := hide (HB.out.trans (hb.mono HB.out.size))
  have HT := hide hT
  clear hb hT z x0 x1 x2 x3 x4 HV yw0 yw1 zw
  generalize timesM c L wm g = T0 at *
  obtain ⟨hvm, zm, y0m, y1m, y2m, y3m, y4m⟩ := HKM.out
  have HVM := hide hvm
  have yw0 : v4.cell? ⟨w.heap.size + 1, 0, none⟩ = some (.int .i64 wm) := HBW.out.at_ 0
  have yw1 : v4.cell? ⟨w.heap.size + 1, 1, none⟩ = some (.slice Ag g.length cg) := HBW.out.at_ 1
  have zw : w.heap.size + 1 < v4.heap.size := HBW.out.lt
  have hgl2 : g.length ≤ 4 := by have := HGL.out; omega
  have hm6 : m.lots.length ≤ 1000000 := by have := HML.out; omega
  have HML2 := hide (ofL_lt (c := m) (hold := hd) (but := []))
  have HMN := hide (ofL_nodup m hd [])
  have HGM := hide (show g.length + 1 = m.lots.length by have := HML.out; have := HGL.out; omega)
  have HGB2 := hide (show ∀ i, -100 ≤ nth (g ++ [green]) i ∧ nth (g ++ [green]) i ≤ 100 from fun i => by
    have := HGB.out i
    rw [nth_app]
    split
    · omega
    · rcases Nat.eq_zero_or_pos (i - g.length) with e | e
      · rw [e]; show -100 ≤ green ∧ green ≤ 100; omega
      · rw [nth_out (show [green].length ≤ i - g.length from e)]; decide)
  clear hvm
  refine wp_post0 (fun act0 a W => ∃ vs : Nat → Value, a = { tmps := setAll (fun oi => [34, 35, 36, 37, 38, 39, 40, 41, 42, 43, 44, 45, 46, 47, 48, 16].getD oi 0) vs [0, 1, 2, 3, 4, 5, 6, 7, 8, 9, 10, 11, 12, 13, 14, 15] act0.tmps, defers := act0.defers } ∧ Below v4.heap.size v4 W ∧ ∃ A cp, vs 15 = .slice A m.lots.length cp ∧ IntsS W W.heap.size A m.lots.length cp (timesM m (ofL m (hd : Int) []) wm (g ++ [green]))) ?reg ?imp
  case reg =>
    have hST : Stab v4.heap.size (fun oi v W => match oi with | 0 => v = .agg #[.slice A1 m.heat.length c1, .int .i64 m.gas, .slice A2 m.holds.length c2, .slice AM m.lots.length cM, .slice A4 m.seen.length c4] | 1 => v = .agg #[.slice A1 m.heat.length c1, .int .i64 m.gas, .slice A2 m.holds.length c2, .slice AM m.lots.length cM, .slice A4 m.seen.length c4] | 2 => v = .int .i64 hd | 3 => ∃ A cp, v = .slice A (ofL m (hd : Int) []).length cp ∧ W.ownsRow v4.heap.size 3 1 (.slice A (ofL m (hd : Int) []).length cp) (ofL m (hd : Int) []).length ((natInts (ofL m (hd : Int) [])).map (Value.int .i64)) | 4 => v = .pointer (some ⟨w.heap.size + 1, 0, none⟩) | 5 => v = .int .i64 wm | 6 => ∃ A cp, v = .slice A 0 cp ∧ W.ownsRow v4.heap.size 3 1 (.slice A 0 cp) 0 ([]) | 7 => v = .pointer (some ⟨w.heap.size + 1, 1, none⟩) | 8 => v = .slice Ag g.length cg | 9 => ∃ A cp, v = .slice A g.length cp ∧ W.ownsRow v4.heap.size 3 1 (.slice A g.length cp) g.length (g.map (Value.int .i64)) | 10 => v = .int .i64 green | 11 => ∃ A cp, v = .slice A 1 cp ∧ W.ownsRow v4.heap.size 3 1 (.slice A 1 cp) 1 ([.int .i64 green]) | 12 => ∃ A cp, v = .slice A (g.length + 1) cp ∧ IntsS W W.heap.size A (g.length + 1) cp (g ++ [green]) | 13 => ∃ A cp, v = .agg #[.int .i64 wm, .slice A (g.length + 1) cp] ∧ IntsS W W.heap.size A (g.length + 1) cp (g ++ [green]) | 14 => ∃ A cp, v = .slice A m.lots.length cp ∧ IntsS W W.heap.size A m.lots.length cp (timesM m (ofL m (hd : Int) []) wm (g ++ [green])) | 15 => ∃ A cp, v = .slice A m.lots.length cp ∧ IntsS W W.heap.size A m.lots.length cp (timesM m (ofL m (hd : Int) []) wm (g ++ [green])) | _ => True) (fun oi v b => match oi with | 3 => v.ownBlock = some b | 6 => v.ownBlock = some b | 9 => v.ownBlock = some b | 11 => v.ownBlock = some b | 12 => v.ownBlock = some b ∧ 0 < (g.length + 1) | 13 => (∃ x o m cp, v = .agg #[x, .slice (some ⟨b, o, none⟩) m cp]) ∧ 0 < (g.length + 1) | 14 => v.ownBlock = some b ∧ 0 < m.lots.length | 15 => v.ownBlock = some b ∧ 0 < m.lots.length | _ => False) := by
      intro oi v W W' h hbs hz hk
      match oi, h, hk with
      | 0, h, hk => exact h
      | 1, h, hk => exact h
      | 2, h, hk => exact h
      | 3, h, hk => obtain ⟨A, cp, rfl, h2⟩ := h; exact ⟨A, cp, rfl, own_stab h2 (fun b hb e => hk b hb (.inr e))⟩
      | 4, h, hk => exact h
      | 5, h, hk => exact h
      | 6, h, hk => obtain ⟨A, cp, rfl, h2⟩ := h; exact ⟨A, cp, rfl, own_stab h2 (fun b hb e => hk b hb (.inr e))⟩
      | 7, h, hk => exact h
      | 8, h, hk => exact h
      | 9, h, hk => obtain ⟨A, cp, rfl, h2⟩ := h; exact ⟨A, cp, rfl, own_stab h2 (fun b hb e => hk b hb (.inr e))⟩
      | 10, h, hk => exact h
      | 11, h, hk => obtain ⟨A, cp, rfl, h2⟩ := h; exact ⟨A, cp, rfl, own_stab h2 (fun b hb e => hk b hb (.inr e))⟩
      | 12, h, hk => obtain ⟨A, cp, rfl, h2⟩ := h; exact ⟨A, cp, rfl, h2.stab hz (fun b o hb e hn => hk b hb (.inr ⟨by rw [e]; rfl, hn⟩))⟩
      | 13, h, hk => obtain ⟨A, cp, rfl, h2⟩ := h; exact ⟨A, cp, rfl, h2.stab hz (fun b o hb e hn => hk b hb (.inr ⟨⟨_, o, _, _, by rw [e]⟩, hn⟩))⟩
      | 14, h, hk => obtain ⟨A, cp, rfl, h2⟩ := h; exact ⟨A, cp, rfl, h2.stab hz (fun b o hb e hn => hk b hb (.inr ⟨by rw [e]; rfl, hn⟩))⟩
      | 15, h, hk => obtain ⟨A, cp, rfl, h2⟩ := h; exact ⟨A, cp, rfl, h2.stab hz (fun b o hb e hn => hk b hb (.inr ⟨by rw [e]; rfl, hn⟩))⟩
      | oi + 16, h, hk => exact trivial
    refine wp_region_inv (dst := fun oi => [34, 35, 36, 37, 38, 39, 40, 41, 42, 43, 44, 45, 46, 47, 48, 16].getD oi 0) (mono := fun oi => decide (oi < 16)) (pre := fun oi => decide (oi < 16)) (G := Loose 16 v4.heap.size (fun oi => match oi with | 6 => 9 | 9 => 12 | _ => 16) (fun oi v W => match oi with | 0 => v = .agg #[.slice A1 m.heat.length c1, .int .i64 m.gas, .slice A2 m.holds.length c2, .slice AM m.lots.length cM, .slice A4 m.seen.length c4] | 1 => v = .agg #[.slice A1 m.heat.length c1, .int .i64 m.gas, .slice A2 m.holds.length c2, .slice AM m.lots.length cM, .slice A4 m.seen.length c4] | 2 => v = .int .i64 hd | 3 => ∃ A cp, v = .slice A (ofL m (hd : Int) []).length cp ∧ W.ownsRow v4.heap.size 3 1 (.slice A (ofL m (hd : Int) []).length cp) (ofL m (hd : Int) []).length ((natInts (ofL m (hd : Int) [])).map (Value.int .i64)) | 4 => v = .pointer (some ⟨w.heap.size + 1, 0, none⟩) | 5 => v = .int .i64 wm | 6 => ∃ A cp, v = .slice A 0 cp ∧ W.ownsRow v4.heap.size 3 1 (.slice A 0 cp) 0 ([]) | 7 => v = .pointer (some ⟨w.heap.size + 1, 1, none⟩) | 8 => v = .slice Ag g.length cg | 9 => ∃ A cp, v = .slice A g.length cp ∧ W.ownsRow v4.heap.size 3 1 (.slice A g.length cp) g.length (g.map (Value.int .i64)) | 10 => v = .int .i64 green | 11 => ∃ A cp, v = .slice A 1 cp ∧ W.ownsRow v4.heap.size 3 1 (.slice A 1 cp) 1 ([.int .i64 green]) | 12 => ∃ A cp, v = .slice A (g.length + 1) cp ∧ IntsS W W.heap.size A (g.length + 1) cp (g ++ [green]) | 13 => ∃ A cp, v = .agg #[.int .i64 wm, .slice A (g.length + 1) cp] ∧ IntsS W W.heap.size A (g.length + 1) cp (g ++ [green]) | 14 => ∃ A cp, v = .slice A m.lots.length cp ∧ IntsS W W.heap.size A m.lots.length cp (timesM m (ofL m (hd : Int) []) wm (g ++ [green])) | 15 => ∃ A cp, v = .slice A m.lots.length cp ∧ IntsS W W.heap.size A m.lots.length cp (timesM m (ofL m (hd : Int) []) wm (g ++ [green])) | _ => True) (fun oi v b => match oi with | 3 => v.ownBlock = some b | 6 => v.ownBlock = some b | 9 => v.ownBlock = some b | 11 => v.ownBlock = some b | 12 => v.ownBlock = some b ∧ 0 < (g.length + 1) | 13 => (∃ x o m cp, v = .agg #[x, .slice (some ⟨b, o, none⟩) m cp]) ∧ 0 < (g.length + 1) | 14 => v.ownBlock = some b ∧ 0 < m.lots.length | 15 => v.ownBlock = some b ∧ 0 < m.lots.length | _ => False)) (by kernel_rfl) (by kernel_rfl) (Loose.start (Nat.le_refl _)) ?hstep ?hend
    case hstep =>
      intro oi hoi hom listed vs a W hU hsz hG hcl hl haft K hK
      have hb := ((Below.refl v4.heap.size v4).drew).trans hU.below
      have hF := Loose.stepF hU hG hST hoi hK
      match oi, hoi, hom with
      | 0, hoi, hom =>
        have z13 : a.tmps[13]?.getD undef = .pointer (some ⟨v1.heap.size, 0, none⟩) := hU.same 13 (by decide)
        have y0 := (hb.cell (p := ⟨v1.heap.size, 0, none⟩) (zm)).trans (y0m)
        have y1 := (hb.cell (p := ⟨v1.heap.size, 1, none⟩) (zm)).trans (y1m)
        have y2 := (hb.cell (p := ⟨v1.heap.size, 2, none⟩) (zm)).trans (y2m)
        have y3 := (hb.cell (p := ⟨v1.heap.size, 3, none⟩) (zm)).trans (y3m)
        have y4 := (hb.cell (p := ⟨v1.heap.size, 4, none⟩) (zm)).trans (y4m)
        refine wpOp_value (v := .agg #[.slice A1 m.heat.length c1, .int .i64 m.gas, .slice A2 m.holds.length c2, .slice AM m.lots.length cM, .slice A4 m.seen.length c4]) (W' := W) rfl rfl ?_ (hF _ _ (Below.refl _ _) rfl (fun _ h => False.elim h))
        go_simp
      | 1, hoi, hom =>
        have z13 : a.tmps[13]?.getD undef = .pointer (some ⟨v1.heap.size, 0, none⟩) := hU.same 13 (by decide)
        have y0 := (hb.cell (p := ⟨v1.heap.size, 0, none⟩) (zm)).trans (y0m)
        have y1 := (hb.cell (p := ⟨v1.heap.size, 1, none⟩) (zm)).trans (y1m)
        have y2 := (hb.cell (p := ⟨v1.heap.size, 2, none⟩) (zm)).trans (y2m)
        have y3 := (hb.cell (p := ⟨v1.heap.size, 3, none⟩) (zm)).trans (y3m)
        have y4 := (hb.cell (p := ⟨v1.heap.size, 4, none⟩) (zm)).trans (y4m)
        refine wpOp_value (v := .agg #[.slice A1 m.heat.length c1, .int .i64 m.gas, .slice A2 m.holds.length c2, .slice AM m.lots.length cM, .slice A4 m.seen.length c4]) (W' := W) rfl rfl ?_ (hF _ _ (Below.refl _ _) rfl (fun _ h => False.elim h))
        go_simp
      | 2, hoi, hom =>
        have z1 : a.tmps[1]?.getD undef = .int .i64 hd := hU.same 1 (by decide)
        refine wpOp_value (v := .int .i64 hd) (W' := W) rfl rfl ?_ (hF _ _ (Below.refl _ _) rfl (fun _ h => False.elim h))
        go_simp
      | 3, hoi, hom =>
        have l1 := haft _ rfl { on := 1, ground := .data } (by simp) rfl
        have p1 := hG.pv 1 (by decide) (live_end hsz rfl l1)
        have s1 : a.tmps[35]?.getD undef = vs 1 := hU.slot 1 (by decide) l1
        have hv1 : vs 1 = .agg #[.slice A1 m.heat.length c1, .int .i64 m.gas, .slice A2 m.holds.length c2, .slice AM m.lots.length cM, .slice A4 m.seen.length c4] := p1
        rw [hv1] at s1
        have l2 := haft _ rfl { on := 2, ground := .data } (by simp) rfl
        have p2 := hG.pv 2 (by decide) (live_end hsz rfl l2)
        have s2 : a.tmps[36]?.getD undef = vs 2 := hU.slot 2 (by decide) l2
        have hv2 : vs 2 = .int .i64 hd := p2
        rw [hv2] at s2
        refine wpOp_enter (f := 45) (args := #[cargoVal m A1 A2 AM A4 c1 c2 cM c4, .int .i64 hd, .slice none 0 0]) (W' := W) rfl rfl ?_ ((of_own (HVM.out.next hb) (hd : Int) IntsS.nil_ hm6).mono (fun e w'' h => ?_))
        · go_simp
        · obtain ⟨A', c', he, hown', hbw⟩ := h
          exact ⟨_, he, hF _ _ hbw ⟨A', c', rfl, own_base hown' hG.base⟩ (fun b h => ⟨(hown'.lt b h).2, .inl (hown'.lt b h).1⟩)⟩
      | 4, hoi, hom =>
        have z11 : a.tmps[11]?.getD undef = .pointer (some ⟨w.heap.size + 1, 0, none⟩) := hU.same 11 (by decide)
        refine wpOp_value (v := .pointer (some ⟨w.heap.size + 1, 0, none⟩)) (W' := W) rfl rfl ?_ (hF _ _ (Below.refl _ _) rfl (fun _ h => False.elim h))
        go_simp
      | 5, hoi, hom =>
        have l4 := haft _ rfl { on := 4, ground := .data } (by simp) rfl
        have p4 := hG.pv 4 (by decide) (live_end hsz rfl l4)
        have s4 : a.tmps[38]?.getD undef = vs 4 := hU.slot 4 (by decide) l4
        have hv4 : vs 4 = .pointer (some ⟨w.heap.size + 1, 0, none⟩) := p4
        rw [hv4] at s4
        have y0 := (hb.cell (p := ⟨w.heap.size + 1, 0, none⟩) (zw)).trans (yw0)
        refine wpOp_value (v := .int .i64 wm) (W' := W) rfl rfl ?_ (hF _ _ (Below.refl _ _) rfl (fun _ h => False.elim h))
        go_simp
      | 6, hoi, hom =>
        refine wpOp_value (v := .slice (some ⟨W.heap.size, 0, none⟩) 0 0) (W' := (W.alloc (.cells #[] 3))) rfl rfl ?_ (hF _ _ ((Below.refl _ _).alloc (Nat.le_refl _) _) (own_lit hG.base #[] 0 rfl (by simp [maxLen])) (fun b h => by rw [← own_new h]; exact ⟨by simp, .inl (Nat.le_refl _)⟩))
        go_simp
      | 7, hoi, hom =>
        have z11 : a.tmps[11]?.getD undef = .pointer (some ⟨w.heap.size + 1, 0, none⟩) := hU.same 11 (by decide)
        refine wpOp_value (v := .pointer (some ⟨w.heap.size + 1, 1, none⟩)) (W' := W) rfl rfl ?_ (hF _ _ (Below.refl _ _) rfl (fun _ h => False.elim h))
        go_simp
      | 8, hoi, hom =>
        have l7 := haft _ rfl { on := 7, ground := .data } (by simp) rfl
        have p7 := hG.pv 7 (by decide) (live_end hsz rfl l7)
        have s7 : a.tmps[41]?.getD undef = vs 7 := hU.slot 7 (by decide) l7
        have hv7 : vs 7 = .pointer (some ⟨w.heap.size + 1, 1, none⟩) := p7
        rw [hv7] at s7
        have y0 := (hb.cell (p := ⟨w.heap.size + 1, 1, none⟩) (zw)).trans (yw1)
        refine wpOp_value (v := .slice Ag g.length cg) (W' := W) rfl rfl ?_ (hF _ _ (Below.refl _ _) rfl (fun _ h => False.elim h))
        go_simp
      | 9, hoi, hom =>
        have l6 := haft _ rfl { on := 6, ground := .data } (by simp) rfl
        have p6 := hG.pv 6 (by decide) (⟨l6, hl⟩)
        have s6 : a.tmps[40]?.getD undef = vs 6 := hU.slot 6 (by decide) l6
        obtain ⟨PA6, kp6, hv6, hi6⟩ := p6
        rw [hv6] at s6
        have l8 := haft _ rfl { on := 8, ground := .data } (by simp) rfl
        have p8 := hG.pv 8 (by decide) (live_end hsz rfl l8)
        have s8 : a.tmps[42]?.getD undef = vs 8 := hU.slot 8 (by decide) l8
        have hv8 : vs 8 = .slice Ag g.length cg := p8
        rw [hv8] at s8
        have hA := Loose.stepA (p := 6) hU hG rfl hST hoi hK (by decide) (by decide) rfl ⟨l6, hl⟩ (fun b h => h) (by rw [hv6]; exact hi6)
        obtain ⟨v', W', hrun, hown', hg, hblk⟩ := run_app_row (P := Try.prog) W v4.heap.size 22 22 3 i0 (.int .i64 0) 1 8 Try.underlying22 hi0 hz00 hz01 hz02 rfl (by decide) hi6 (HG.out.row1.below hb) (fun _ _ => rfl) (by simp only [maxLen]; omega) (by omega) hG.base
        rw [Nat.zero_add, List.nil_append, ints_vals] at hown'
        exact wpOp_append (s := 40) (x := 42) (v' := v') (W' := W') rfl rfl rfl s6 s8 hrun (hA _ _ _ _ (by rw [hv6]; exact hg) hown' (by rw [hv6]; exact hblk) (own_ex hown') (fun b h => h))
      | 10, hoi, hom =>
        have z2 : a.tmps[2]?.getD undef = .int .i64 green := hU.same 2 (by decide)
        refine wpOp_value (v := .int .i64 green) (W' := W) rfl rfl ?_ (hF _ _ (Below.refl _ _) rfl (fun _ h => False.elim h))
        go_simp
      | 11, hoi, hom =>
        have l10 := haft _ rfl { on := 10, ground := .data } (by simp) rfl
        have p10 := hG.pv 10 (by decide) (live_end hsz rfl l10)
        have s10 : a.tmps[44]?.getD undef = vs 10 := hU.slot 10 (by decide) l10
        have hv10 : vs 10 = .int .i64 green := p10
        rw [hv10] at s10
        refine wpOp_value (v := .slice (some ⟨W.heap.size, 0, none⟩) 1 1) (W' := (W.alloc (.cells #[.int .i64 green] 3))) rfl rfl ?_ (hF _ _ ((Below.refl _ _).alloc (Nat.le_refl _) _) (own_lit hG.base #[.int .i64 green] 1 rfl (by simp [maxLen])) (fun b h => by rw [← own_new h]; exact ⟨by simp, .inl (Nat.le_refl _)⟩))
        go_simp
      | 12, hoi, hom =>
        have l9 := haft _ rfl { on := 9, ground := .data } (by simp) rfl
        have p9 := hG.pv 9 (by decide) (⟨l9, hl⟩)
        have s9 : a.tmps[43]?.getD undef = vs 9 := hU.slot 9 (by decide) l9
        obtain ⟨PA9, kp9, hv9, hi9⟩ := p9
        rw [hv9] at s9
        have l11 := haft _ rfl { on := 11, ground := .data } (by simp) rfl
        have p11 := hG.pv 11 (by decide) (live_end hsz rfl l11)
        have s11 : a.tmps[45]?.getD undef = vs 11 := hU.slot 11 (by decide) l11
        obtain ⟨PA11, kp11, hv11, hi11⟩ := p11
        rw [hv11] at s11
        obtain ⟨_, _, e11, _, _, hr11⟩ := row_own hi11
        obtain ⟨rfl, rfl⟩ : _ = PA11 ∧ _ = kp11 := by simp only [Value.slice.injEq, true_and] at e11; exact ⟨e11.1.symm, e11.2.symm⟩
        have hA := Loose.stepA (p := 9) hU hG rfl hST hoi hK (by decide) (by decide) rfl ⟨l9, hl⟩ (fun b h => h) (by rw [hv9]; exact hi9)
        obtain ⟨v', W', hrun, hown', hg, hblk⟩ := run_app_row (P := Try.prog) W v4.heap.size 22 22 3 i0 (.int .i64 0) 1 8 Try.underlying22 hi0 hz00 hz01 hz02 rfl (by decide) hi9 hr11 (one1 _) (by simp only [maxLen]; omega) (by omega) hG.base
        rw [ints_snoc] at hown'
        exact wpOp_append (s := 43) (x := 45) (v' := v') (W' := W') rfl rfl rfl s9 s11 hrun (hA _ _ _ _ (by rw [hv9]; exact hg) hown' (by rw [hv9]; exact hblk) (by obtain ⟨A, cp, rfl, h⟩ := IntsS.of_own (xs := g ++ [green]) (hown'); exact ⟨A, cp, rfl, h⟩) (fun b h => h.1))
      | 13, hoi, hom =>
        have l5 := haft _ rfl { on := 5, ground := .data } (by simp) rfl
        have p5 := hG.pv 5 (by decide) (live_end hsz rfl l5)
        have s5 : a.tmps[39]?.getD undef = vs 5 := hU.slot 5 (by decide) l5
        have hv5 : vs 5 = .int .i64 wm := p5
        rw [hv5] at s5
        have l12 := haft _ rfl { on := 12, ground := .data } (by simp) rfl
        have p12 := hG.pv 12 (by decide) (live_end hsz rfl l12)
        have s12 : a.tmps[46]?.getD undef = vs 12 := hU.slot 12 (by decide) l12
        obtain ⟨PA12, kp12, hv12, hi12⟩ := p12
        rw [hv12] at s12
        have hagg : ∀ b, ((∃ x o m cp, (Value.agg #[.int .i64 wm, .slice PA12 (g.length + 1) kp12]) = .agg #[x, .slice (some ⟨b, o, none⟩) m cp]) ∧ 0 < (g.length + 1)) → ((Value.slice PA12 (g.length + 1) kp12).ownBlock = some b ∧ 0 < (g.length + 1)) := fun b ⟨⟨_, _, _, _, h⟩, hn⟩ => by simp only [Value.agg.injEq, Array.mk.injEq, List.cons.injEq, and_true, Value.slice.injEq] at h; rw [h.2.1]; exact ⟨rfl, hn⟩
        refine wpOp_value (v := .agg #[.int .i64 wm, .slice PA12 (g.length + 1) kp12]) (W' := W) rfl rfl ?_ (hF _ _ (Below.refl _ _) ⟨_, _, rfl, hi12⟩ (fun b h => ⟨hG.lt 12 (by decide) (live_end hsz rfl l12) b (by rw [hv12]; exact hagg b h), .inr ⟨Nat.le_refl _, 12, by decide, by decide, live_end hsz rfl l12, Nat.le_refl _, by rw [hv12]; exact hagg b h⟩⟩))
        go_simp
      | 14, hoi, hom =>
        have l0 := haft _ rfl { on := 0, ground := .data } (by simp) rfl
        have p0 := hG.pv 0 (by decide) (live_end hsz rfl l0)
        have s0 : a.tmps[34]?.getD undef = vs 0 := hU.slot 0 (by decide) l0
        have hv0 : vs 0 = .agg #[.slice A1 m.heat.length c1, .int .i64 m.gas, .slice A2 m.holds.length c2, .slice AM m.lots.length cM, .slice A4 m.seen.length c4] := p0
        rw [hv0] at s0
        have l3 := haft _ rfl { on := 3, ground := .data } (by simp) rfl
        have p3 := hG.pv 3 (by decide) (live_end hsz rfl l3)
        have s3 : a.tmps[37]?.getD undef = vs 3 := hU.slot 3 (by decide) l3
        obtain ⟨PA3, kp3, hv3, hi3⟩ := p3
        rw [hv3] at s3
        have l13 := haft _ rfl { on := 13, ground := .data } (by simp) rfl
        have p13 := hG.pv 13 (by decide) (live_end hsz rfl l13)
        have s13 : a.tmps[47]?.getD undef = vs 13 := hU.slot 13 (by decide) l13
        obtain ⟨PA13, kp13, hv13, hi13⟩ := p13
        rw [hv13] at s13
        have l12 := haft _ rfl { on := 12, ground := .chain } (by simp) rfl
        have l9 := hcl 12 l12 _ rfl { on := 9, ground := .data } (by simp) rfl
        have hno : ∀ j, (match j with | 6 => 9 | 9 => 12 | _ => 16) < 16 → j = 6 ∨ j = 9 := by
          intro j
          split <;> intro h <;> omega
        have hN := Loose.stepN hU hG hST hoi hK (by decide) (fun j hj hc hL => by
          rcases hno j hc with e | e
          · subst e; have h2 : listed.getD 9 false = false := hL.2
            rw [l9] at h2; cases h2
          · subst e; have h2 : listed.getD 12 false = false := hL.2
            rw [l12] at h2; cases h2)
        refine wpOp_enter (f := 85) (args := #[cargoVal m A1 A2 AM A4 c1 c2 cM c4, .slice PA3 (ofL m (hd : Int) []).length kp3, .agg #[.int .i64 wm, .slice PA13 (g.length + 1) kp13]]) (W' := W) rfl rfl ?_ ((times7_any (HVM.out.next hb) HMS.out (ints_own hi3) HML2.out HMN.out hi13 HGM.out HGB2.out hwm).mono (fun e w'' h => ?_))
        · go_simp
        · obtain ⟨A', c', he, hT', hbw⟩ := h
          exact ⟨_, he, hN _ _ hbw ⟨A', c', rfl, hT'⟩ (fun b h => hT'.foot h)⟩
      | 15, hoi, hom =>
        have l14 := haft _ rfl { on := 14, ground := .data } (by simp) rfl
        have p14 := hG.pv 14 (by decide) (live_end hsz rfl l14)
        have s14 : a.tmps[48]?.getD undef = vs 14 := hU.slot 14 (by decide) l14
        obtain ⟨PA14, kp14, hv14, hi14⟩ := p14
        rw [hv14] at s14
        refine wpOp_value (v := .slice PA14 m.lots.length kp14) (W' := W) rfl rfl ?_ (hF _ _ (Below.refl _ _) ⟨_, _, rfl, hi14⟩ (fun b h => ⟨hG.lt 14 (by decide) (live_end hsz rfl l14) b (by rw [hv14]; exact h), .inr ⟨Nat.le_refl _, 14, by decide, by decide, live_end hsz rfl l14, Nat.le_refl _, by rw [hv14]; exact h⟩⟩))
        go_simp
      | oi + 16, hoi, hom => exact absurd (of_decide_eq_true hom) (by omega)
    case hend =>
      intro listed vs a W hG0 hG hpre
      have hb := ((Below.refl v4.heap.size v4).drew).trans hG0.below
      have hact := hG0.act
      have hT := hG0.lst hpre 0 #[true, true, true, true, true, true, true, true, true, true, true, true, true, true, true, true] rfl (by kernel_rfl) (hpre 0 (by decide) (by decide))
      rw [hG0.ix hT (l := [0, 1, 2, 3, 4, 5, 6, 7, 8, 9, 10, 11, 12, 13, 14, 15]) (by kernel_rfl)] at hact
      rw [hG0.lo hT (k := 0) (by kernel_rfl)]
      have p15 := hG.pv 15 (by decide) (live_end hG.size rfl (hpre 15 (by decide) (by decide)))
      subst hT
      refine wpAny_done (by kernel_rfl) ?_ _
      exact ⟨rfl, vs, hact, hb, p15⟩
  case imp =>
  rintro a v5 ⟨vs, rfl, hb5, A5, k5, hv5, hi5⟩
  simp only [setAll, List.setIfInBounds_toArray, List.set_cons_succ, List.set_cons_zero, List.getD_cons_succ, List.getD_cons_zero]
  rw [hv5, HML.out]
  rw [HML.out] at hi5
  have HK := hide (HK.out.next hb5)
  have HL := hide (HL.out.next hb5)
  have HT := hide (HT.out.next hb5)
  have HB := hide (HB.out.trans (hb5.mono HB.out.size))
  have HT5 := hide hi5
  clear hb5 hv5 hi5 zm y0m y1m y2m y3m y4m yw0 yw1 zw HVM HBW HG HKM hi0 hz00 hz01 hz02
  generalize timesM m (ofL m (hd : Int) []) wm (g ++ [green]) = T at *
  obtain ⟨hv, z, x0, x1, x2, x3, x4⟩ := HK.out
  clear hv
  obtain ⟨bt, ot, rfl, hbt, htc⟩ := HT5.out.row (by omega)
  have r1 := htc c.lots.length (by omega)
  rw [intsF] at r1
  have e0 : (0 : Int) ≤ (c.lots.length : Int) := Int.natCast_nonneg _
  have e1 : (c.lots.length : Int) < ((c.lots.length + 1 : Nat) : Int) := by omega
  have e2 : (c.lots.length : Int) < (c.lots.length : Int) + 1 := by omega
  clear htc
  go_wp2_with fail
  clear r1 e1 e2
  go_loopw [17, 18] (fun v17 v18 wr => ∃ k : Nat, k ≤ L.length ∧ v18 = .int .i64 k ∧ v17 = .bool (decide (nth T c.lots.length > un) && (L.take k).all fun q => nth T q == nth T0 q) ∧ Below v5.heap.size v5 wr) (fun _ v18 _ => L.length - (intOf v18).toNat)
  case atStart => exact ⟨0, Nat.zero_le _, rfl, by simp, Below.refl _ _⟩
  case round =>
    obtain ⟨k, hk, rfl, rfl, hB⟩ := hrel
    have HBX := hide hB
    by_cases hlk : k < L.length
    · have hql := HLT.out (nth L k) (by rw [nth_eq hlk]; exact List.getElem_mem hlk)
      obtain ⟨bl, ol, rfl, hbl, hlc⟩ := (HL.out.next hB).row (by omega)
      have r0 := hlc k hlk
      rw [intsF, nth_natInts hlk] at r0
      have HTA := hide (all_take L (fun q => nth T q == nth T0 q) hlk)
      generalize nth L k = q at *
      have hbt' : bt < wr.heap.size := by have := hB.size; omega
      obtain ⟨_, _, e, _, htc⟩ := (HT5.out.next hB).row (by omega)
      cases e
      have r1 := htc q (by omega)
      obtain ⟨bb, ob, rfl, hbb, hbc⟩ := (HT.out.next hB).row (by omega)
      have r2 := hbc q hql
      rw [intsF] at r1 r2
      have e1 : (0 : Int) ≤ (k : Int) := Int.natCast_nonneg _
      have e2 : (k : Int) < (L.length : Int) := by omega
      have e3 : (0 : Int) ≤ (q : Int) := Int.natCast_nonneg _
      have e4 : (q : Int) < (c.lots.length : Int) := by omega
      have e5 : (q : Int) < (c.lots.length : Int) + 1 := by omega
      have e6 : (q : Int) < ((c.lots.length + 1 : Nat) : Int) := by omega
      clear hB hlc htc hbc
      generalize hTK : (decide (nth T c.lots.length > un) && (L.take k).all fun q => nth T q == nth T0 q) = isb at *
      have HTK := hide (show (decide (nth T c.lots.length > un) && (L.take (k + 1)).all fun q => nth T q == nth T0 q) = (isb && (nth T q == nth T0 q)) by rw [HTA.out, ← Bool.and_assoc, hTK])
      clear hTK
      cases isb with
      | false =>
        go_wp2_with fail
        go_quiet (fail)
        go_wp2
        go_roundw
        case rel => exact ⟨k + 1, by omega, by go_num, by rw [HTK.out]; rfl, below_drewN HBX.out _⟩
        case measure => simp [intOf]; omega
      | true =>
        cases hq : (nth T q == nth T0 q) with
        | true =>
          have HQ := hide hq
          go_wp2_with fail
          go_quiet (fail)
          go_wp2
          go_roundw
          case rel => exact ⟨k + 1, by omega, by go_num, by rw [HTK.out, HQ.out]; rfl, below_drewN HBX.out _⟩
          case measure => simp [intOf]; omega
        | false =>
          have HQ := hide hq
          go_wp2_with fail
          go_quiet (fail)
          go_wp2
          go_roundw
          case rel => exact ⟨k + 1, by omega, by go_num, by rw [HTK.out, HQ.out]; rfl, below_drewN HBX.out _⟩
          case measure => simp [intOf]; omega
    · obtain rfl : k = L.length := by omega
      clear hB
      go_wp2_with fail
      go_ret
      refine ⟨ret_b ?_, HB.out.trans (HBX.out.mono HB.out.size)⟩
      rw [HRR.out, HMC.out, List.take_length]
end Go.Proofs.Ytbkknliggnhpcaa
