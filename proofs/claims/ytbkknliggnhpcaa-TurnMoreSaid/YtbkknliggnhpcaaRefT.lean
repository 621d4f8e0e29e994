/- The contract of the law's Truly of chapter 07: the hours at which all lots turn in a way that numbers say. -/
import Derived.Test.YtbkknliggnhpcaaRefS
import Derived.Test.YtbkknliggnhpcaaGC
set_option linter.unusedVariables false
set_option linter.unusedSimpArgs false
namespace Go.Proofs.Ytbkknliggnhpcaa
open Go.RowKit
attribute [local go_sem ↓] Go.wp_at_zero Go.wp_at_succ

def warmX (c : Cargo) (l : List Int) (h : Nat) : Int := anyF (nth c.holds h) (turnB l h)
def greenX (c : Cargo) (l : List Int) (i : Nat) : Int := anyF (nth c.lots i).green (turnB l (3 + i))
def greensX (c : Cargo) (l : List Int) (n : Nat) : List Int := (List.range n).map (greenX c l)
/-- The hours of one hold, in the way that numbers say. -/
def holdT (c : Cargo) (l ox : List Int) (h : Nat) : List Int := timesM c (ofL c h ox) (warmX c l h) (greensX c l c.lots.length)
def trulyTo (c : Cargo) (l ox : List Int) (h : Nat) : List Int := (List.range c.lots.length).map fun i => if (nth c.lots i).hold < h then nth (holdT c l ox (nth c.lots i).hold.toNat) i else 0
def trulyM (c : Cargo) (l ox : List Int) : List Int := trulyTo c l ox c.holds.length
theorem greensX_length (c : Cargo) (l : List Int) (n : Nat) : (greensX c l n).length = n := by simp [greensX]
theorem greensX_succ (c : Cargo) (l : List Int) (n : Nat) : greensX c l (n + 1) = greensX c l n ++ [greenX c l n] := by simp [greensX, List.range_succ]
theorem ints_vals2 {n : Nat} {xs : List Int} (h : xs.length = n) : (List.range (n * 1)).map (intsF xs) = xs.map (Value.int .i64) := by subst h; exact ints_vals xs
theorem greenX_bd {c : Cargo} (hv : Valid c) (l : List Int) {i : Nat} (hi : i < c.lots.length) : 0 ≤ greenX c l i ∧ greenX c l i ≤ 40 := by
  have := hv.lot i hi
  have h2 := anyF_mem (s := (nth c.lots i).green) (by omega) (turnB l (3 + i))
  unfold greenX; omega
theorem greensX_bd {c : Cargo} (hv : Valid c) (l : List Int) (i : Nat) : 0 ≤ nth (greensX c l c.lots.length) i ∧ nth (greensX c l c.lots.length) i ≤ 40 := by
  by_cases h : i < c.lots.length
  · rw [greensX, nth_map_range _ h]; exact greenX_bd hv l h
  · rw [nth_out (by rw [greensX_length]; omega)]; decide
theorem warmX_bd {c : Cargo} (hv : Valid c) (l : List Int) {h : Nat} (hh : h < c.holds.length) : 0 ≤ warmX c l h ∧ warmX c l h ≤ 6 := by
  have := hv.warm h hh
  have h2 := anyF_mem (s := nth c.holds h) (by omega) (turnB l h)
  unfold warmX; omega
/-- The hours when the lots below k have been looked at for hold j. -/
def TrM (c : Cargo) (l ox : List Int) (j k : Nat) (out : List Int) : Prop :=
  ∀ q, q < c.lots.length → nth out q = if q < k ∧ (nth c.lots q).hold = j then nth (holdT c l ox j) q else nth (trulyTo c l ox j) q
theorem trulyTo_length (c : Cargo) (l ox : List Int) (h : Nat) : (trulyTo c l ox h).length = c.lots.length := by simp [trulyTo]
theorem TrM.start (c : Cargo) (l ox : List Int) (j : Nat) : TrM c l ox j 0 (trulyTo c l ox j) := fun q _ => by rw [if_neg (by omega)]
theorem TrM.same {c : Cargo} {l ox out : List Int} {j k : Nat} (h : TrM c l ox j k out) (hk : (nth c.lots k).hold ≠ j) : TrM c l ox j (k + 1) out := fun q hq => by
  rw [h q hq]
  by_cases e : q = k
  · subst e; rw [if_neg (fun h => hk h.2), if_neg (fun h => hk h.2)]
  · by_cases h1 : q < k ∧ (nth c.lots q).hold = j
    · rw [if_pos h1, if_pos ⟨by omega, h1.2⟩]
    · rw [if_neg h1, if_neg (fun h2 => h1 ⟨by omega, h2.2⟩)]
theorem TrM.put {c : Cargo} {l ox out : List Int} {j k : Nat} (h : TrM c l ox j k out) (hl : k < out.length) (hk : (nth c.lots k).hold = j) : TrM c l ox j (k + 1) (out.set k (nth (holdT c l ox j) k)) := fun q hq => by
  rw [nth_set hl]
  by_cases e : q = k
  · subst e; rw [if_pos rfl, if_pos ⟨Nat.lt_succ_self _, hk⟩]
  · rw [if_neg e, h q hq]
    by_cases h1 : q < k ∧ (nth c.lots q).hold = j
    · rw [if_pos h1, if_pos ⟨by omega, h1.2⟩]
    · rw [if_neg h1, if_neg (fun h2 => h1 ⟨by omega, h2.2⟩)]
theorem TrM.done {c : Cargo} {l ox out : List Int} {j : Nat} (h : TrM c l ox j c.lots.length out) (hl : out.length = c.lots.length) : out = trulyTo c l ox (j + 1) := by
  refine nth_ext hl (trulyTo_length _ _ _ _) fun q hq => ?_
  rw [h q hq, trulyTo, trulyTo, nth_map_range _ hq, nth_map_range _ hq]
  by_cases e : (nth c.lots q).hold = j
  · rw [if_pos ⟨hq, e⟩, e, if_pos (by omega), Int.toNat_natCast]
  · rw [if_neg (fun h => e h.2)]
    by_cases h1 : (nth c.lots q).hold < j
    · rw [if_pos h1, if_pos (by omega)]
    · rw [if_neg h1, if_neg (by omega)]
theorem trulyTo_zero {c : Cargo} (hv : Valid c) (l ox : List Int) : trulyTo c l ox 0 = List.replicate c.lots.length 0 := by
  refine nth_ext (trulyTo_length _ _ _ _) (by simp) fun q hq => ?_
  have := hv.lot q hq
  rw [trulyTo, nth_map_range _ hq, if_neg (by omega)]
  simp [nth, hq]

set_option maxHeartbeats 1000000 in
set_option maxRecDepth 100000 in
theorem truly_own {A1 A2 A3 A4 : Option Addr} {c1 c2 c3 c4 : Nat} {c : Cargo} {w : World} (h : CargoV w w.heap.size c A1 A2 A3 A4 c1 c2 c3 c4) (hval : Valid c) {Ax Ao : Option Addr} {cx no co : Nat} {l ox : List Int} (hx : BytesS w w.heap.size Ax cx l) (ho : IntsS w w.heap.size Ao no co ox) :
    Calls Try.prog 47 #[cargoVal c A1 A2 A3 A4 c1 c2 c3 c4, .slice Ax l.length cx, .slice Ao no co] w fun e w' => ∃ A cp, e = .returned (.slice A c.lots.length cp) ∧ w'.ownsRow w.heap.size 3 1 (.slice A c.lots.length cp) c.lots.length ((trulyM c l ox).map (Value.int .i64)) ∧ Below w.heap.size w w' := by
  have hm3 := h.m3
  have hm2 := h.m2
  unfold maxLen at hm3 hm2
  obtain ⟨i0, hI0, hz00, hz01, hz02⟩ := info_parts Try.infoInt
  have HK0 := hide (BoxC.made h)
  have HB0 : Hid (Below w.heap.size w (w.alloc (.cells #[.slice A1 c.heat.length c1, .int .i64 c.gas, .slice A2 c.holds.length c2, .slice A3 c.lots.length c3, .slice A4 c.seen.length c4] 27))) := hide ((Below.refl _ _).alloc (Nat.le_refl _) _)
  have HX0 := hide (hx.next HB0.out)
  have HO0 := hide (ho.next HB0.out)
  have HVD := hide hval
  have HSM := hide hval.small
  have hlots := hval.lots
  have hhl := hval.holds
  have hlots6 : c.lots.length ≤ 1000000 := by omega
  have HBD := hide (turnB_bd hx.bd)
  have HTZ := hide (trulyTo_zero hval l ox)
  have HTM := hide (show trulyM c l ox = trulyTo c l ox c.holds.length from rfl)
  clear h hx ho hval
  go_enter Try.func47, Try.ntmps47
  go_upto_region 1 with (fail)
  generalize (w.alloc (.cells #[.slice A1 c.heat.length c1, .int .i64 c.gas, .slice A2 c.holds.length c2, .slice A3 c.lots.length c3, .slice A4 c.seen.length c4] 27)) = v0 at *
  obtain ⟨hv, z, x0, x1, x2, x3, x4⟩ := HK0.out
  clear hv
  go_wp2_with (at_make
               go_must (refine wpList_make_full _ rfl _ _ 22 rfl v0.heap.size 3 i0 (.int .i64 0) 1 Try.underlying22 hI0 hz00 hz01 _ _ _ _ c.lots.length rfl rfl rfl rfl (by rw [hz02]; omega) (by simp [maxLen]; omega) (by simp) ?_)
               intro wm hown1 hg1
               have hbm := (Below.refl v0.heap.size _).grown hg1 (by simp) (by simp)
               have hO1 : OwnI wm v0.heap.size v0.heap.size c.lots.length c.lots.length (List.replicate c.lots.length 0) := by simpa [OwnI, Value.cells, toList_madeCells_one] using hown1
               have HOM := hide hO1
               have HBM := hide hbm
               clear hown1 hg1 hbm hO1)
  clear z x0 x1 x2 x3 x4
  go_loopw [8, 9, 10, 11, 12] (fun v8 _ _ _ _ wr => ∃ j : Nat, j ≤ c.holds.length ∧ v8 = .int .i64 j ∧ Below v0.heap.size v0 wr ∧ OwnI wr v0.heap.size v0.heap.size c.lots.length c.lots.length (trulyTo c l ox j)) (fun v8 _ _ _ _ _ => c.holds.length - (intOf v8).toNat)
  case atStart => exact ⟨0, Nat.zero_le _, rfl, HBM.out, by rw [HTZ.out]; exact HOM.out⟩
  case round =>
    obtain ⟨j, hj, rfl, hB, hO⟩ := hrel
    obtain ⟨wa, rfl⟩ : ∃ wa : World, wa = wr := ⟨_, rfl⟩
    have HBA := hide hB
    have HOA := hide hO
    have HK := hide (HK0.out.next hB)
    have HX := hide (HX0.out.next hB)
    have HO := hide (HO0.out.next hB)
    have hsa := hO.lt
    clear hB hO
    obtain ⟨hv, z, x0, x1, x2, x3, x4⟩ := HK.out
    have hj0 : (0 : Int) ≤ (j : Int) := Int.natCast_nonneg _
    by_cases hlj : j < c.holds.length
    · obtain ⟨bh, oh, rfl, zbh, hw0, hw1⟩ := hv.holds.spans hlj
      have hj1 : (j : Int) < (c.holds.length : Int) := by omega
      have hwb := HVD.out.warm j hlj
      have w01 := warmX_bd HVD.out l hlj
      have s0 : 0 ≤ (nth c.holds j).lo := hwb.1
      have s1 : (nth c.holds j).lo ≤ (nth c.holds j).hi := hwb.2.1
      have s2 : (nth c.holds j).hi ≤ 1000 := by omega
      obtain ⟨t0, t1⟩ := HBD.out j
      clear hv hwb
      go_wp2_with fail
      refine wp_post0 (fun act0 a W => ∃ vs : Nat → Value, a = { tmps := setAll (fun oi => [24, 25, 26, 27, 28, 29, 30, 31, 32, 33, 9, 0].getD oi 0) vs [0, 1, 2, 3, 4, 5, 6, 7, 8, 9, 10] act0.tmps, defers := act0.defers } ∧ ∃ gb, vs 10 = .pointer (some ⟨gb, 0, none⟩) ∧ wa.heap.size ≤ gb ∧ Below wa.heap.size wa W ∧ Blk W gb 66 #[.int .i64 (warmX c l j), .slice none 0 0]) ?reg ?imp
      case reg =>
        have hST : Stab wa.heap.size (fun oi v W => match oi with | 0 => v = .pointer (some ⟨w.heap.size, 2, none⟩) | 1 => v = .slice (some ⟨bh, oh, none⟩) c.holds.length c2 | 2 => v = .int .i64 j | 3 => v = .pointer (some ⟨bh, oh + j * 2, none⟩) | 4 => v = .agg #[.int .i64 (nth c.holds j).lo, .int .i64 (nth c.holds j).hi] | 5 => v = .slice Ax l.length cx | 6 => v = .int .i64 j | 7 => v = .int .i64 (turnB l (j)) | 8 => v = .int .i64 (warmX c l j) | 9 => v = .agg #[.int .i64 (warmX c l j), .slice none 0 0] | 10 => ∃ gb, v = .pointer (some ⟨gb, 0, none⟩) ∧ wa.heap.size ≤ gb ∧ Blk W gb 66 #[.int .i64 0, .slice none 0 0] | _ => True) (fun oi v b => match oi with | 10 => ∃ o, v = .pointer (some ⟨b, o, none⟩) | _ => False) := by
          intro oi v W W' h hbs hz hk
          match oi, h, hk with
          | 0, h, hk => exact h
          | 1, h, hk => exact h
          | 2, h, hk => exact h
          | 3, h, hk => exact h
          | 4, h, hk => exact h
          | 5, h, hk => exact h
          | 6, h, hk => exact h
          | 7, h, hk => exact h
          | 8, h, hk => exact h
          | 9, h, hk => exact h
          | 10, h, hk => obtain ⟨gb, rfl, h2, h3⟩ := h; exact ⟨gb, rfl, h2, h3.block (hk gb h3.lt (.inr ⟨_, rfl⟩))⟩
          | oi + 11, h, hk => exact trivial
        refine wp_region_inv (dst := fun oi => [24, 25, 26, 27, 28, 29, 30, 31, 32, 33, 9, 0].getD oi 0) (mono := fun oi => decide (oi < 11)) (pre := fun oi => decide (oi < 11)) (G := Loose 12 wa.heap.size (fun oi => match oi with  | _ => 12) (fun oi v W => match oi with | 0 => v = .pointer (some ⟨w.heap.size, 2, none⟩) | 1 => v = .slice (some ⟨bh, oh, none⟩) c.holds.length c2 | 2 => v = .int .i64 j | 3 => v = .pointer (some ⟨bh, oh + j * 2, none⟩) | 4 => v = .agg #[.int .i64 (nth c.holds j).lo, .int .i64 (nth c.holds j).hi] | 5 => v = .slice Ax l.length cx | 6 => v = .int .i64 j | 7 => v = .int .i64 (turnB l (j)) | 8 => v = .int .i64 (warmX c l j) | 9 => v = .agg #[.int .i64 (warmX c l j), .slice none 0 0] | 10 => ∃ gb, v = .pointer (some ⟨gb, 0, none⟩) ∧ wa.heap.size ≤ gb ∧ Blk W gb 66 #[.int .i64 0, .slice none 0 0] | _ => True) (fun oi v b => match oi with | 10 => ∃ o, v = .pointer (some ⟨b, o, none⟩) | _ => False)) (by kernel_rfl) (by kernel_rfl) (Loose.start (Nat.le_refl _)) ?hstep ?hend
        case hstep =>
          intro oi hoi hom listed vs a W hU hsz hG hcl hl haft K hK
          have hb := ((Below.refl wa.heap.size wa).drew).trans hU.below
          have hF := Loose.stepF hU hG hST hoi hK
          match oi, hoi, hom with
          | 0, hoi, hom =>
            have z3 : a.tmps[3]?.getD undef = .pointer (some ⟨w.heap.size, 0, none⟩) := hU.same 3 (by decide)
            refine wpOp_value (v := .pointer (some ⟨w.heap.size, 2, none⟩)) (W' := W) rfl rfl ?_ (hF _ _ (Below.refl _ _) rfl (fun _ h => False.elim h))
            go_simp
          | 1, hoi, hom =>
            have l0 := haft _ rfl { on := 0, ground := .data } (by simp) rfl
            have p0 := hG.pv 0 (by decide) (live_end hsz rfl l0)
            have s0 : a.tmps[24]?.getD undef = vs 0 := hU.slot 0 (by decide) l0
            have hv0 : vs 0 = .pointer (some ⟨w.heap.size, 2, none⟩) := p0
            rw [hv0] at s0
            have y0 := (hb.cell (p := ⟨w.heap.size, 2, none⟩) (z)).trans (x2)
            refine wpOp_value (v := .slice (some ⟨bh, oh, none⟩) c.holds.length c2) (W' := W) rfl rfl ?_ (hF _ _ (Below.refl _ _) rfl (fun _ h => False.elim h))
            go_simp
          | 2, hoi, hom =>
            have z8 : a.tmps[8]?.getD undef = .int .i64 j := hU.same 8 (by decide)
            refine wpOp_value (v := .int .i64 j) (W' := W) rfl rfl ?_ (hF _ _ (Below.refl _ _) rfl (fun _ h => False.elim h))
            go_simp
          | 3, hoi, hom =>
            have l1 := haft _ rfl { on := 1, ground := .data } (by simp) rfl
            have p1 := hG.pv 1 (by decide) (live_end hsz rfl l1)
            have s1 : a.tmps[25]?.getD undef = vs 1 := hU.slot 1 (by decide) l1
            have hv1 : vs 1 = .slice (some ⟨bh, oh, none⟩) c.holds.length c2 := p1
            rw [hv1] at s1
            have l2 := haft _ rfl { on := 2, ground := .data } (by simp) rfl
            have p2 := hG.pv 2 (by decide) (live_end hsz rfl l2)
            have s2 : a.tmps[26]?.getD undef = vs 2 := hU.slot 2 (by decide) l2
            have hv2 : vs 2 = .int .i64 j := p2
            rw [hv2] at s2
            refine wpOp_value (v := .pointer (some ⟨bh, oh + j * 2, none⟩)) (W' := W) rfl rfl ?_ (hF _ _ (Below.refl _ _) rfl (fun _ h => False.elim h))
            go_simp
          | 4, hoi, hom =>
            have l3 := haft _ rfl { on := 3, ground := .data } (by simp) rfl
            have p3 := hG.pv 3 (by decide) (live_end hsz rfl l3)
            have s3 : a.tmps[27]?.getD undef = vs 3 := hU.slot 3 (by decide) l3
            have hv3 : vs 3 = .pointer (some ⟨bh, oh + j * 2, none⟩) := p3
            rw [hv3] at s3
            have y0 := (hb.cell (p := ⟨bh, oh + j * 2, none⟩) (zbh)).trans (hw0)
            have y1 := (hb.cell (p := ⟨bh, oh + j * 2 + 1, none⟩) (zbh)).trans (hw1)
            refine wpOp_value (v := .agg #[.int .i64 (nth c.holds j).lo, .int .i64 (nth c.holds j).hi]) (W' := W) rfl rfl ?_ (hF _ _ (Below.refl _ _) rfl (fun _ h => False.elim h))
            go_simp
          | 5, hoi, hom =>
            have z1 : a.tmps[1]?.getD undef = .slice Ax l.length cx := hU.same 1 (by decide)
            refine wpOp_value (v := .slice Ax l.length cx) (W' := W) rfl rfl ?_ (hF _ _ (Below.refl _ _) rfl (fun _ h => False.elim h))
            go_simp
          | 6, hoi, hom =>
            have z8 : a.tmps[8]?.getD undef = .int .i64 j := hU.same 8 (by decide)
            refine wpOp_value (v := .int .i64 j) (W' := W) rfl rfl ?_ (hF _ _ (Below.refl _ _) rfl (fun _ h => False.elim h))
            go_simp
          | 7, hoi, hom =>
            have l5 := haft _ rfl { on := 5, ground := .data } (by simp) rfl
            have p5 := hG.pv 5 (by decide) (live_end hsz rfl l5)
            have s5 : a.tmps[29]?.getD undef = vs 5 := hU.slot 5 (by decide) l5
            have hv5 : vs 5 = .slice Ax l.length cx := p5
            rw [hv5] at s5
            have l6 := haft _ rfl { on := 6, ground := .data } (by simp) rfl
            have p6 := hG.pv 6 (by decide) (live_end hsz rfl l6)
            have s6 : a.tmps[30]?.getD undef = vs 6 := hU.slot 6 (by decide) l6
            have hv6 : vs 6 = .int .i64 j := p6
            rw [hv6] at s6
            refine wpOp_enter (f := 42) (args := #[.slice Ax l.length cx, .int .i64 ((j : Nat) : Int)]) (W' := W) rfl rfl ?_ ((turns_l_any (HX.out.next hb) (j) (by omega)).mono (fun e w'' h => ?_))
            · go_simp
            · obtain ⟨he, hbw⟩ := h
              exact ⟨_, he, hF _ _ (by rw [← hbw]; exact Below.refl _ _) rfl (fun _ h => False.elim h)⟩
          | 8, hoi, hom =>
            have l4 := haft _ rfl { on := 4, ground := .data } (by simp) rfl
            have p4 := hG.pv 4 (by decide) (live_end hsz rfl l4)
            have s4 : a.tmps[28]?.getD undef = vs 4 := hU.slot 4 (by decide) l4
            have hv4 : vs 4 = .agg #[.int .i64 (nth c.holds j).lo, .int .i64 (nth c.holds j).hi] := p4
            rw [hv4] at s4
            have l7 := haft _ rfl { on := 7, ground := .data } (by simp) rfl
            have p7 := hG.pv 7 (by decide) (live_end hsz rfl l7)
            have s7 : a.tmps[31]?.getD undef = vs 7 := hU.slot 7 (by decide) l7
            have hv7 : vs 7 = .int .i64 (turnB l (j)) := p7
            rw [hv7] at s7
            refine wpOp_enter (f := 41) (args := #[.agg #[.int .i64 (nth c.holds j).lo, .int .i64 (nth c.holds j).hi], .int .i64 (turnB l (j))]) (W' := W) rfl rfl ?_ ((anyOf_any (s := nth c.holds j) s0 s1 s2 t0 t1).mono (fun e w'' h => ?_))
            · go_simp
            · obtain ⟨he, hbw⟩ := h
              exact ⟨_, he, hF _ _ hbw rfl (fun _ h => False.elim h)⟩
          | 9, hoi, hom =>
            have l8 := haft _ rfl { on := 8, ground := .data } (by simp) rfl
            have p8 := hG.pv 8 (by decide) (live_end hsz rfl l8)
            have s8 : a.tmps[32]?.getD undef = vs 8 := hU.slot 8 (by decide) l8
            have hv8 : vs 8 = .int .i64 (warmX c l j) := p8
            rw [hv8] at s8
            refine wpOp_value (v := .agg #[.int .i64 (warmX c l j), .slice none 0 0]) (W' := W) rfl rfl ?_ (hF _ _ (Below.refl _ _) rfl (fun _ h => False.elim h))
            go_simp
          | 10, hoi, hom =>
            refine wpOp_value (v := .pointer (some ⟨W.heap.size, 0, none⟩)) (W' := (W.alloc (.cells #[.int .i64 0, .slice none 0 0] 66))) rfl rfl ?_ (hF _ _ ((Below.refl _ _).alloc (Nat.le_refl _) _) ⟨_, rfl, hG.base, Blk.made⟩ (fun b ⟨o, h⟩ => by cases h; exact ⟨by simp, .inl (Nat.le_refl _)⟩))
            go_simp
          | oi + 11, hoi, hom => exact absurd (of_decide_eq_true hom) (by omega)
        case hend =>
          intro listed vs a W hG0 hG hpre
          have hb := ((Below.refl wa.heap.size wa).drew).trans hG0.below
          have hact := hG0.act
          have hT := hG0.lst hpre 0 #[true, true, true, true, true, true, true, true, true, true, true, false] rfl (by kernel_rfl) (hpre 0 (by decide) (by decide))
          rw [hG0.ix hT (l := [0, 1, 2, 3, 4, 5, 6, 7, 8, 9, 10]) (by kernel_rfl)] at hact
          rw [hG0.lo hT (k := 1) (by kernel_rfl)]
          have p9 := hG.pv 9 (by decide) (live_end hG.size rfl (hpre 9 (by decide) (by decide)))
          have p10 := hG.pv 10 (by decide) (live_end hG.size rfl (hpre 10 (by decide) (by decide)))
          clear hpre hG hST
          obtain rfl : a = _ := hact
          subst hT
          obtain ⟨gb, hv10, hz10, hi10⟩ := p10
          have hv9 : vs 9 = .agg #[.int .i64 (warmX c l j), .slice none 0 0] := p9
          have y0 : W.cell? ⟨gb, 0, none⟩ = some (.int .i64 0) := hi10.at_ 0
          have y1 : W.cell? ⟨gb, 1, none⟩ = some (.slice none 0 0) := hi10.at_ 1
          have f0 := hi10.free 0
          have f1 := hi10.free 1
          simp only [setAll, List.setIfInBounds_toArray, List.set_cons_succ, List.set_cons_zero, List.getD_cons_succ, List.getD_cons_zero]
          refine wpAny_all (rs := [11]) (by kernel_rfl) (by simp) ?_
          intro i hi
          obtain rfl : i = 11 := by simpa using hi
          refine wpOp_skip (W' := (W.setCell ⟨gb, 0, none⟩ (.int .i64 (warmX c l j))).setCell ⟨gb, 1, none⟩ (.slice none 0 0)) rfl rfl ?_ ?_
          · rw [hv10, hv9]; go_simp
          refine wpAny_done (by kernel_rfl) ?_ _
          exact ⟨rfl, vs, rfl, gb, hv10, hz10, (hb.setCell (p := ⟨gb, 0, none⟩) hz10 _).setCell (p := ⟨gb, 1, none⟩) hz10 _, (hi10.store 0 _).store 1 _⟩
      case imp =>
      rintro a w2 ⟨vs, rfl, gb, hv10, hgb, hb5, hblk⟩
      simp only [setAll, List.setIfInBounds_toArray, List.set_cons_succ, List.set_cons_zero, List.getD_cons_succ, List.getD_cons_zero]
      rw [hv10]
      have HB2 := hide (HBA.out.trans (hb5.mono HBA.out.size))
      have HO2 := hide (HOA.out.below hb5 hsa.2)
      have HBK := hide hblk
      have hsg : v0.heap.size < gb := by omega
      clear z x0 x1 x2 x3 x4 hw0 hw1 zbh s0 s1 s2 t0 t1 hv10 hb5 hblk
      go_wp2_with fail
      go_loopw [10] (fun v10 wr => ∃ (i : Nat) (AG : Option Addr) (cG : Nat), i ≤ c.lots.length ∧ v10 = .int .i64 i ∧ Below v0.heap.size v0 wr ∧ OwnI wr v0.heap.size v0.heap.size c.lots.length c.lots.length (trulyTo c l ox j) ∧ Blk wr gb 66 #[.int .i64 (warmX c l j), .slice AG i cG] ∧ IntsS wr wr.heap.size AG i cG (greensX c l i)) (fun v10 _ => c.lots.length - (intOf v10).toNat)
      case atStart => exact ⟨0, none, 0, Nat.zero_le _, rfl, HB2.out, HO2.out, HBK.out, IntsS.nil_⟩
      case round =>
        obtain ⟨i, AG, cG, hi', rfl, hB, hO, hblk, hG⟩ := hrel
        obtain ⟨wb, rfl⟩ : ∃ wb : World, wb = wr := ⟨_, rfl⟩
        have HBB := hide hB
        have HOB := hide hO
        have HBL := hide hblk
        have HG := hide hG
        have HKB := hide (HK0.out.next hB)
        have HX := hide (HX0.out.next hB)
        have HO := hide (HO0.out.next hB)
        have yg0 : wb.cell? ⟨gb, 0, none⟩ = some (.int .i64 (warmX c l j)) := hblk.at_ 0
        have yg1 : wb.cell? ⟨gb, 1, none⟩ = some (.slice AG i cG) := hblk.at_ 1
        have fg1 := hblk.free 1
        have zg := hblk.lt
        have hsb := hO.lt
        obtain ⟨hv, z, x0, x1, x2, x3, x4⟩ := HKB.out
        have hi0' : (0 : Int) ≤ (i : Int) := Int.natCast_nonneg _
        clear hB hO hblk hG
        by_cases hli : i < c.lots.length
        · obtain ⟨b3, o3, rfl, zb3, l0, l1, l2, l3⟩ := hv.lots.lots hli
          have hi1' : (i : Int) < (c.lots.length : Int) := by omega
          have hlb := HVD.out.lot i hli
          have s0 : 0 ≤ (nth c.lots i).green.lo := by omega
          have s1 : (nth c.lots i).green.lo ≤ (nth c.lots i).green.hi := by omega
          have s2 : (nth c.lots i).green.hi ≤ 1000 := by omega
          obtain ⟨t0, t1⟩ := HBD.out (3 + i)
          have HGL := hide (greensX_length c l i)
          have HGS := hide (greensX_succ c l i)
          have hw3i : IntKind.i64.wrap (3 + (i : Int)) = 3 + (i : Int) := IntWalk.i64_in _ (by omega)
          clear hv hlb l0 l1
          go_wp2_with fail
          refine wp_post0 (fun act0 a W => ∃ vs : Nat → Value, a = { tmps := setAll (fun oi => [41, 42, 43, 44, 45, 46, 47, 48, 49, 50, 51, 52, 53, 54, 55, 56, 57, 58, 0].getD oi 0) vs [0, 1, 2, 3, 4, 5, 6, 7, 8, 9, 10, 11, 12, 13, 14, 15, 16, 17] act0.tmps, defers := act0.defers } ∧ ∃ (W1 : World) (A : Option Addr) (cp : Nat), W = W1.setCell ⟨gb, 1, none⟩ (.slice A (i + 1) cp) ∧ Below wb.heap.size wb W1 ∧ W1.ownsRow wb.heap.size 3 1 (.slice A (i + 1) cp) (i + 1) ((greensX c l i ++ [greenX c l i]).map (Value.int .i64))) ?reg ?imp
          case reg =>
            have hST : Stab wb.heap.size (fun oi v W => match oi with | 0 => ∃ A cp, v = .slice A 0 cp ∧ W.ownsRow wb.heap.size 3 1 (.slice A 0 cp) 0 ([]) | 1 => v = .pointer (some ⟨gb, 1, none⟩) | 2 => v = .slice AG i cG | 3 => ∃ A cp, v = .slice A i cp ∧ W.ownsRow wb.heap.size 3 1 (.slice A i cp) i ((greensX c l i).map (Value.int .i64)) | 4 => v = .pointer (some ⟨w.heap.size, 3, none⟩) | 5 => v = .slice (some ⟨b3, o3, none⟩) c.lots.length c3 | 6 => v = .int .i64 i | 7 => v = .pointer (some ⟨b3, o3 + i * 4, none⟩) | 8 => v = .pointer (some ⟨b3, o3 + i * 4 + 2, none⟩) | 9 => v = .agg #[.int .i64 (nth c.lots i).green.lo, .int .i64 (nth c.lots i).green.hi] | 10 => v = .slice Ax l.length cx | 11 => v = .int .i64 i | 12 => v = .int .i64 ((3 + i : Nat) : Int) | 13 => v = .int .i64 (turnB l (3 + i)) | 14 => v = .int .i64 (greenX c l i) | 15 => ∃ A cp, v = .slice A 1 cp ∧ W.ownsRow wb.heap.size 3 1 (.slice A 1 cp) 1 ([.int .i64 (greenX c l i)]) | 16 => ∃ A cp, v = .slice A (i + 1) cp ∧ W.ownsRow wb.heap.size 3 1 (.slice A (i + 1) cp) (i + 1) ((greensX c l i ++ [greenX c l i]).map (Value.int .i64)) | _ => True) (fun oi v b => match oi with | 0 => v.ownBlock = some b | 3 => v.ownBlock = some b | 15 => v.ownBlock = some b | 16 => v.ownBlock = some b | _ => False) := by
              intro oi v W W' h hbs hz hk
              match oi, h, hk with
              | 0, h, hk => obtain ⟨A, cp, rfl, h2⟩ := h; exact ⟨A, cp, rfl, own_stab h2 (fun b hb e => hk b hb (.inr e))⟩
              | 1, h, hk => exact h
              | 2, h, hk => exact h
              | 3, h, hk => obtain ⟨A, cp, rfl, h2⟩ := h; exact ⟨A, cp, rfl, own_stab h2 (fun b hb e => hk b hb (.inr e))⟩
              | 4, h, hk => exact h
              | 5, h, hk => exact h
              | 6, h, hk => exact h
              | 7, h, hk => exact h
              | 8, h, hk => exact h
              | 9, h, hk => exact h
              | 10, h, hk => exact h
              | 11, h, hk => exact h
              | 12, h, hk => exact h
              | 13, h, hk => exact h
              | 14, h, hk => exact h
              | 15, h, hk => obtain ⟨A, cp, rfl, h2⟩ := h; exact ⟨A, cp, rfl, own_stab h2 (fun b hb e => hk b hb (.inr e))⟩
              | 16, h, hk => obtain ⟨A, cp, rfl, h2⟩ := h; exact ⟨A, cp, rfl, own_stab h2 (fun b hb e => hk b hb (.inr e))⟩
              | oi + 17, h, hk => exact trivial
            refine wp_region_inv (dst := fun oi => [41, 42, 43, 44, 45, 46, 47, 48, 49, 50, 51, 52, 53, 54, 55, 56, 57, 58, 0].getD oi 0) (mono := fun oi => decide (oi < 17)) (pre := fun oi => decide (oi < 17)) (G := Loose 19 wb.heap.size (fun oi => match oi with | 0 => 3 | 3 => 16 | _ => 19) (fun oi v W => match oi with | 0 => ∃ A cp, v = .slice A 0 cp ∧ W.ownsRow wb.heap.size 3 1 (.slice A 0 cp) 0 ([]) | 1 => v = .pointer (some ⟨gb, 1, none⟩) | 2 => v = .slice AG i cG | 3 => ∃ A cp, v = .slice A i cp ∧ W.ownsRow wb.heap.size 3 1 (.slice A i cp) i ((greensX c l i).map (Value.int .i64)) | 4 => v = .pointer (some ⟨w.heap.size, 3, none⟩) | 5 => v = .slice (some ⟨b3, o3, none⟩) c.lots.length c3 | 6 => v = .int .i64 i | 7 => v = .pointer (some ⟨b3, o3 + i * 4, none⟩) | 8 => v = .pointer (some ⟨b3, o3 + i * 4 + 2, none⟩) | 9 => v = .agg #[.int .i64 (nth c.lots i).green.lo, .int .i64 (nth c.lots i).green.hi] | 10 => v = .slice Ax l.length cx | 11 => v = .int .i64 i | 12 => v = .int .i64 ((3 + i : Nat) : Int) | 13 => v = .int .i64 (turnB l (3 + i)) | 14 => v = .int .i64 (greenX c l i) | 15 => ∃ A cp, v = .slice A 1 cp ∧ W.ownsRow wb.heap.size 3 1 (.slice A 1 cp) 1 ([.int .i64 (greenX c l i)]) | 16 => ∃ A cp, v = .slice A (i + 1) cp ∧ W.ownsRow wb.heap.size 3 1 (.slice A (i + 1) cp) (i + 1) ((greensX c l i ++ [greenX c l i]).map (Value.int .i64)) | _ => True) (fun oi v b => match oi with | 0 => v.ownBlock = some b | 3 => v.ownBlock = some b | 15 => v.ownBlock = some b | 16 => v.ownBlock = some b | _ => False)) (by kernel_rfl) (by kernel_rfl) (Loose.start (Nat.le_refl _)) ?hstep ?hend
            case hstep =>
              intro oi hoi hom listed vs a W hU hsz hG hcl hl haft K hK
              have hb := ((Below.refl wb.heap.size wb).drew).trans hU.below
              have hF := Loose.stepF hU hG hST hoi hK
              match oi, hoi, hom with
              | 0, hoi, hom =>
                refine wpOp_value (v := .slice (some ⟨W.heap.size, 0, none⟩) 0 0) (W' := (W.alloc (.cells #[] 3))) rfl rfl ?_ (hF _ _ ((Below.refl _ _).alloc (Nat.le_refl _) _) (own_lit hG.base #[] 0 rfl (by simp [maxLen])) (fun b h => by rw [← own_new h]; exact ⟨by simp, .inl (Nat.le_refl _)⟩))
                go_simp
              | 1, hoi, hom =>
                have z9 : a.tmps[9]?.getD undef = .pointer (some ⟨gb, 0, none⟩) := hU.same 9 (by decide)
                refine wpOp_value (v := .pointer (some ⟨gb, 1, none⟩)) (W' := W) rfl rfl ?_ (hF _ _ (Below.refl _ _) rfl (fun _ h => False.elim h))
                go_simp
              | 2, hoi, hom =>
                have l1 := haft _ rfl { on := 1, ground := .data } (by simp) rfl
                have p1 := hG.pv 1 (by decide) (live_end hsz rfl l1)
                have s1 : a.tmps[42]?.getD undef = vs 1 := hU.slot 1 (by decide) l1
                have hv1 : vs 1 = .pointer (some ⟨gb, 1, none⟩) := p1
                rw [hv1] at s1
                have y0 := (hb.cell (p := ⟨gb, 1, none⟩) (zg)).trans (yg1)
                refine wpOp_value (v := .slice AG i cG) (W' := W) rfl rfl ?_ (hF _ _ (Below.refl _ _) rfl (fun _ h => False.elim h))
                go_simp
              | 3, hoi, hom =>
                have l0 := haft _ rfl { on := 0, ground := .data } (by simp) rfl
                have p0 := hG.pv 0 (by decide) (⟨l0, hl⟩)
                have s0 : a.tmps[41]?.getD undef = vs 0 := hU.slot 0 (by decide) l0
                obtain ⟨PA0, kp0, hv0, hi0⟩ := p0
                rw [hv0] at s0
                have l2 := haft _ rfl { on := 2, ground := .data } (by simp) rfl
                have p2 := hG.pv 2 (by decide) (live_end hsz rfl l2)
                have s2 : a.tmps[43]?.getD undef = vs 2 := hU.slot 2 (by decide) l2
                have hv2 : vs 2 = .slice AG i cG := p2
                rw [hv2] at s2
                have hA := Loose.stepA (p := 0) hU hG rfl hST hoi hK (by decide) (by decide) rfl ⟨l0, hl⟩ (fun b h => h) (by rw [hv0]; exact hi0)
                obtain ⟨v', W', hrun, hown', hg, hblk⟩ := run_app_row (P := Try.prog) W wb.heap.size 22 22 3 i0 (.int .i64 0) 1 8 Try.underlying22 hI0 hz00 hz01 hz02 rfl (by decide) hi0 (HG.out.row1.below hb) (fun _ _ => rfl) (by simp only [maxLen]; omega) (by omega) hG.base
                rw [Nat.zero_add, List.nil_append, ints_vals2 HGL.out] at hown'
                exact wpOp_append (s := 41) (x := 43) (v' := v') (W' := W') rfl rfl rfl s0 s2 hrun (hA _ _ _ _ (by rw [hv0]; exact hg) hown' (by rw [hv0]; exact hblk) (own_ex hown') (fun b h => h))
              | 4, hoi, hom =>
                have z3 : a.tmps[3]?.getD undef = .pointer (some ⟨w.heap.size, 0, none⟩) := hU.same 3 (by decide)
                refine wpOp_value (v := .pointer (some ⟨w.heap.size, 3, none⟩)) (W' := W) rfl rfl ?_ (hF _ _ (Below.refl _ _) rfl (fun _ h => False.elim h))
                go_simp
              | 5, hoi, hom =>
                have l4 := haft _ rfl { on := 4, ground := .data } (by simp) rfl
                have p4 := hG.pv 4 (by decide) (live_end hsz rfl l4)
                have s4 : a.tmps[45]?.getD undef = vs 4 := hU.slot 4 (by decide) l4
                have hv4 : vs 4 = .pointer (some ⟨w.heap.size, 3, none⟩) := p4
                rw [hv4] at s4
                have y0 := (hb.cell (p := ⟨w.heap.size, 3, none⟩) (z)).trans (x3)
                refine wpOp_value (v := .slice (some ⟨b3, o3, none⟩) c.lots.length c3) (W' := W) rfl rfl ?_ (hF _ _ (Below.refl _ _) rfl (fun _ h => False.elim h))
                go_simp
              | 6, hoi, hom =>
                have z10 : a.tmps[10]?.getD undef = .int .i64 i := hU.same 10 (by decide)
                refine wpOp_value (v := .int .i64 i) (W' := W) rfl rfl ?_ (hF _ _ (Below.refl _ _) rfl (fun _ h => False.elim h))
                go_simp
              | 7, hoi, hom =>
                have l5 := haft _ rfl { on := 5, ground := .data } (by simp) rfl
                have p5 := hG.pv 5 (by decide) (live_end hsz rfl l5)
                have s5 : a.tmps[46]?.getD undef = vs 5 := hU.slot 5 (by decide) l5
                have hv5 : vs 5 = .slice (some ⟨b3, o3, none⟩) c.lots.length c3 := p5
                rw [hv5] at s5
                have l6 := haft _ rfl { on := 6, ground := .data } (by simp) rfl
                have p6 := hG.pv 6 (by decide) (live_end hsz rfl l6)
                have s6 : a.tmps[47]?.getD undef = vs 6 := hU.slot 6 (by decide) l6
                have hv6 : vs 6 = .int .i64 i := p6
                rw [hv6] at s6
                refine wpOp_value (v := .pointer (some ⟨b3, o3 + i * 4, none⟩)) (W' := W) rfl rfl ?_ (hF _ _ (Below.refl _ _) rfl (fun _ h => False.elim h))
                go_simp
              | 8, hoi, hom =>
                have l7 := haft _ rfl { on := 7, ground := .data } (by simp) rfl
                have p7 := hG.pv 7 (by decide) (live_end hsz rfl l7)
                have s7 : a.tmps[48]?.getD undef = vs 7 := hU.slot 7 (by decide) l7
                have hv7 : vs 7 = .pointer (some ⟨b3, o3 + i * 4, none⟩) := p7
                rw [hv7] at s7
                refine wpOp_value (v := .pointer (some ⟨b3, o3 + i * 4 + 2, none⟩)) (W' := W) rfl rfl ?_ (hF _ _ (Below.refl _ _) rfl (fun _ h => False.elim h))
                go_simp
              | 9, hoi, hom =>
                have l8 := haft _ rfl { on := 8, ground := .data } (by simp) rfl
                have p8 := hG.pv 8 (by decide) (live_end hsz rfl l8)
                have s8 : a.tmps[49]?.getD undef = vs 8 := hU.slot 8 (by decide) l8
                have hv8 : vs 8 = .pointer (some ⟨b3, o3 + i * 4 + 2, none⟩) := p8
                rw [hv8] at s8
                have y0 := (hb.cell (p := ⟨b3, o3 + i * 4 + 2, none⟩) (zb3)).trans (l2)
                have y1 := (hb.cell (p := ⟨b3, o3 + i * 4 + 3, none⟩) (zb3)).trans (l3)
                refine wpOp_value (v := .agg #[.int .i64 (nth c.lots i).green.lo, .int .i64 (nth c.lots i).green.hi]) (W' := W) rfl rfl ?_ (hF _ _ (Below.refl _ _) rfl (fun _ h => False.elim h))
                go_simp
              | 10, hoi, hom =>
                have z1 : a.tmps[1]?.getD undef = .slice Ax l.length cx := hU.same 1 (by decide)
                refine wpOp_value (v := .slice Ax l.length cx) (W' := W) rfl rfl ?_ (hF _ _ (Below.refl _ _) rfl (fun _ h => False.elim h))
                go_simp
              | 11, hoi, hom =>
                have z10 : a.tmps[10]?.getD undef = .int .i64 i := hU.same 10 (by decide)
                refine wpOp_value (v := .int .i64 i) (W' := W) rfl rfl ?_ (hF _ _ (Below.refl _ _) rfl (fun _ h => False.elim h))
                go_simp
              | 12, hoi, hom =>
                have l11 := haft _ rfl { on := 11, ground := .data } (by simp) rfl
                have p11 := hG.pv 11 (by decide) (live_end hsz rfl l11)
                have s11 : a.tmps[52]?.getD undef = vs 11 := hU.slot 11 (by decide) l11
                have hv11 : vs 11 = .int .i64 i := p11
                rw [hv11] at s11
                refine wpOp_value (v := .int .i64 ((3 + i : Nat) : Int)) (W' := W) rfl rfl ?_ (hF _ _ (Below.refl _ _) rfl (fun _ h => False.elim h))
                go_simp
              | 13, hoi, hom =>
                have l10 := haft _ rfl { on := 10, ground := .data } (by simp) rfl
                have p10 := hG.pv 10 (by decide) (live_end hsz rfl l10)
                have s10 : a.tmps[51]?.getD undef = vs 10 := hU.slot 10 (by decide) l10
                have hv10 : vs 10 = .slice Ax l.length cx := p10
                rw [hv10] at s10
                have l12 := haft _ rfl { on := 12, ground := .data } (by simp) rfl
                have p12 := hG.pv 12 (by decide) (live_end hsz rfl l12)
                have s12 : a.tmps[53]?.getD undef = vs 12 := hU.slot 12 (by decide) l12
                have hv12 : vs 12 = .int .i64 ((3 + i : Nat) : Int) := p12
                rw [hv12] at s12
                refine wpOp_enter (f := 42) (args := #[.slice Ax l.length cx, .int .i64 ((3 + i : Nat) : Int)]) (W' := W) rfl rfl ?_ ((turns_l_any (HX.out.next hb) (3 + i) (by omega)).mono (fun e w'' h => ?_))
                · go_simp
                · obtain ⟨he, hbw⟩ := h
                  exact ⟨_, he, hF _ _ (by rw [← hbw]; exact Below.refl _ _) rfl (fun _ h => False.elim h)⟩
              | 14, hoi, hom =>
                have l9 := haft _ rfl { on := 9, ground := .data } (by simp) rfl
                have p9 := hG.pv 9 (by decide) (live_end hsz rfl l9)
                have s9 : a.tmps[50]?.getD undef = vs 9 := hU.slot 9 (by decide) l9
                have hv9 : vs 9 = .agg #[.int .i64 (nth c.lots i).green.lo, .int .i64 (nth c.lots i).green.hi] := p9
                rw [hv9] at s9
                have l13 := haft _ rfl { on := 13, ground := .data } (by simp) rfl
                have p13 := hG.pv 13 (by decide) (live_end hsz rfl l13)
                have s13 : a.tmps[54]?.getD undef = vs 13 := hU.slot 13 (by decide) l13
                have hv13 : vs 13 = .int .i64 (turnB l (3 + i)) := p13
                rw [hv13] at s13
                refine wpOp_enter (f := 41) (args := #[.agg #[.int .i64 ((nth c.lots i).green).lo, .int .i64 ((nth c.lots i).green).hi], .int .i64 (turnB l ((3 + i)))]) (W' := W) rfl rfl ?_ ((anyOf_any (s := (nth c.lots i).green) s0 s1 s2 t0 t1).mono (fun e w'' h => ?_))
                · go_simp
                · obtain ⟨he, hbw⟩ := h
                  exact ⟨_, he, hF _ _ hbw rfl (fun _ h => False.elim h)⟩
              | 15, hoi, hom =>
                have l14 := haft _ rfl { on := 14, ground := .data } (by simp) rfl
                have p14 := hG.pv 14 (by decide) (live_end hsz rfl l14)
                have s14 : a.tmps[55]?.getD undef = vs 14 := hU.slot 14 (by decide) l14
                have hv14 : vs 14 = .int .i64 (greenX c l i) := p14
                rw [hv14] at s14
                refine wpOp_value (v := .slice (some ⟨W.heap.size, 0, none⟩) 1 1) (W' := (W.alloc (.cells #[.int .i64 (greenX c l i)] 3))) rfl rfl ?_ (hF _ _ ((Below.refl _ _).alloc (Nat.le_refl _) _) (own_lit hG.base #[.int .i64 (greenX c l i)] 1 rfl (by simp [maxLen])) (fun b h => by rw [← own_new h]; exact ⟨by simp, .inl (Nat.le_refl _)⟩))
                go_simp
              | 16, hoi, hom =>
                have l3 := haft _ rfl { on := 3, ground := .data } (by simp) rfl
                have p3 := hG.pv 3 (by decide) (⟨l3, hl⟩)
                have s3 : a.tmps[44]?.getD undef = vs 3 := hU.slot 3 (by decide) l3
                obtain ⟨PA3, kp3, hv3, hi3⟩ := p3
                rw [hv3] at s3
                have l15 := haft _ rfl { on := 15, ground := .data } (by simp) rfl
                have p15 := hG.pv 15 (by decide) (live_end hsz rfl l15)
                have s15 : a.tmps[56]?.getD undef = vs 15 := hU.slot 15 (by decide) l15
                obtain ⟨PA15, kp15, hv15, hi15⟩ := p15
                rw [hv15] at s15
                obtain ⟨_, _, e15, _, _, hr15⟩ := row_own hi15
                obtain ⟨rfl, rfl⟩ : _ = PA15 ∧ _ = kp15 := by simp only [Value.slice.injEq, true_and] at e15; exact ⟨e15.1.symm, e15.2.symm⟩
                have hA := Loose.stepA (p := 3) hU hG rfl hST hoi hK (by decide) (by decide) rfl ⟨l3, hl⟩ (fun b h => h) (by rw [hv3]; exact hi3)
                obtain ⟨v', W', hrun, hown', hg, hblk⟩ := run_app_row (P := Try.prog) W wb.heap.size 22 22 3 i0 (.int .i64 0) 1 8 Try.underlying22 hI0 hz00 hz01 hz02 rfl (by decide) hi3 hr15 (one1 _) (by simp only [maxLen]; omega) (by omega) hG.base
                rw [ints_snoc] at hown'
                exact wpOp_append (s := 44) (x := 56) (v' := v') (W' := W') rfl rfl rfl s3 s15 hrun (hA _ _ _ _ (by rw [hv3]; exact hg) hown' (by rw [hv3]; exact hblk) (own_ex hown') (fun b h => h))
              | oi + 17, hoi, hom => exact absurd (of_decide_eq_true hom) (by omega)
            case hend =>
              intro listed vs a W hG0 hG hpre
              have hb := ((Below.refl wb.heap.size wb).drew).trans hG0.below
              have hact := hG0.act
              have hT := hG0.lst hpre 0 #[true, true, true, true, true, true, true, true, true, true, true, true, true, true, true, true, true, false, false] rfl (by kernel_rfl) (hpre 0 (by decide) (by decide))
              rw [hG0.ix hT (l := [0, 1, 2, 3, 4, 5, 6, 7, 8, 9, 10, 11, 12, 13, 14, 15, 16]) (by kernel_rfl)] at hact
              rw [hG0.lo hT (k := 2) (by kernel_rfl)]
              have p16 := hG.pv 16 (by decide) (live_end hG.size rfl (hpre 16 (by decide) (by decide)))
              clear hpre hG hST
              obtain rfl : a = _ := hact
              subst hT
              obtain ⟨A, cp, hv16, hi16⟩ := p16
              have y1 := (hb.cell (p := ⟨gb, 1, none⟩) zg).trans yg1
              have f1 := (hb.frozen (p := ⟨gb, 1, none⟩) zg).trans fg1
              simp only [setAll, List.setIfInBounds_toArray, List.set_cons_succ, List.set_cons_zero, List.getD_cons_succ, List.getD_cons_zero]
              refine wpAny_all (rs := [17]) (by kernel_rfl) (by simp) ?_
              intro i2 hi2
              obtain rfl : i2 = 17 := by simpa using hi2
              refine wpOp_value (v := .pointer (some ⟨gb, 1, none⟩)) (W' := W) rfl rfl ?_ ?_
              · go_simp
              refine wpAny_all (rs := [18]) (by kernel_rfl) (by simp) ?_
              intro i2 hi2
              obtain rfl : i2 = 18 := by simpa using hi2
              refine wpOp_skip (W' := W.setCell ⟨gb, 1, none⟩ (.slice A (i + 1) cp)) rfl rfl ?_ ?_
              · rw [hv16]; go_simp
              refine wpAny_done (by kernel_rfl) ?_ _
              exact ⟨rfl, fun q => if q = 17 then .pointer (some ⟨gb, 1, none⟩) else vs q, rfl, W, A, cp, rfl, hb, hi16⟩
          case imp =>
          rintro a w3 ⟨vs, rfl, W1, AN, cN, rfl, hb1, hown⟩
          simp only [setAll, List.setIfInBounds_toArray, List.set_cons_succ, List.set_cons_zero, List.getD_cons_succ, List.getD_cons_zero]
          have hk1 : Keep (fun q => q = gb) W1 (W1.setCell ⟨gb, 1, none⟩ (.slice AN (i + 1) cN)) := Keep.setCell _ _ _ (fun q => q = gb) rfl
          have hown2 := own_kept hown hk1 (fun b hb2 hS => by omega)
          have HNX := hide (ints_own hown2)
          have HBN := hide ((HBB.out.trans (hb1.mono HBB.out.size)).setCell (p := ⟨gb, 1, none⟩) (Nat.le_of_lt hsg) (.slice AN (i + 1) cN))
          have HBL := hide (((HBL.out.below hb1 zg).store 1 (.slice AN (i + 1) cN)))
          have HOB := hide ((HOB.out.below hb1 hsb.2).far (a := ⟨gb, 1, none⟩) (Nat.ne_of_lt hsg) (.slice AN (i + 1) cN))
          clear hw3i z x0 x1 x2 x3 x4 l2 l3 zb3 s0 s1 s2 t0 t1 yg0 yg1 fg1 zg hk1 hown hown2 hb1
          generalize W1.setCell ⟨gb, 1, none⟩ (.slice AN (i + 1) cN) = wc at *
          go_wp2_with fail
          go_roundw
          case rel => exact ⟨i + 1, AN, cN, by omega, by go_num, HBN.out, HOB.out, HBL.out, by rw [HGS.out]; exact HNX.out⟩
          case measure => simp [intOf]; omega
        · have hii : i = c.lots.length := by omega
          subst hii
          have HV := hide hv
          have HLT := hide (ofL_lt (c := c) (hold := (j : Int)) (but := ox))
          have HND := hide (ofL_nodup c (j : Int) ox)
          have HGB := hide (show ∀ i, -100 ≤ nth (greensX c l c.lots.length) i ∧ nth (greensX c l c.lots.length) i ≤ 100 from fun i => by have := greensX_bd HVD.out l i; omega)
          clear hv hli
          go_wp2_with fail
          refine wp_post0 (fun act0 a W => ∃ vs : Nat → Value, a = { tmps := setAll (fun oi => [59, 60, 61, 62, 63, 64, 65, 11].getD oi 0) vs [0, 1, 2, 3, 4, 5, 6, 7] act0.tmps, defers := act0.defers } ∧ Below wb.heap.size wb W ∧ ∃ A cp, vs 7 = .slice A c.lots.length cp ∧ W.ownsRow wb.heap.size 3 1 (.slice A c.lots.length cp) c.lots.length ((holdT c l ox j).map (Value.int .i64))) ?reg ?imp
          case reg =>
            have hST : Stab wb.heap.size (fun oi v W => match oi with | 0 => v = .agg #[.slice A1 c.heat.length c1, .int .i64 c.gas, .slice (some ⟨bh, oh, none⟩) c.holds.length c2, .slice A3 c.lots.length c3, .slice A4 c.seen.length c4] | 1 => v = .agg #[.slice A1 c.heat.length c1, .int .i64 c.gas, .slice (some ⟨bh, oh, none⟩) c.holds.length c2, .slice A3 c.lots.length c3, .slice A4 c.seen.length c4] | 2 => v = .int .i64 j | 3 => v = .slice Ao no co | 4 => ∃ A cp, v = .slice A (ofL c (j : Int) ox).length cp ∧ IntsS W W.heap.size A (ofL c (j : Int) ox).length cp (natInts (ofL c (j : Int) ox)) | 5 => v = .agg #[.int .i64 (warmX c l j), .slice AG c.lots.length cG] | 6 => ∃ A cp, v = .slice A c.lots.length cp ∧ W.ownsRow wb.heap.size 3 1 (.slice A c.lots.length cp) c.lots.length ((holdT c l ox j).map (Value.int .i64)) | 7 => ∃ A cp, v = .slice A c.lots.length cp ∧ W.ownsRow wb.heap.size 3 1 (.slice A c.lots.length cp) c.lots.length ((holdT c l ox j).map (Value.int .i64)) | _ => True) (fun oi v b => match oi with | 4 => v.ownBlock = some b ∧ 0 < (ofL c (j : Int) ox).length | 6 => v.ownBlock = some b | 7 => v.ownBlock = some b | _ => False) := by
              intro oi v W W' h hbs hz hk
              match oi, h, hk with
              | 0, h, hk => exact h
              | 1, h, hk => exact h
              | 2, h, hk => exact h
              | 3, h, hk => exact h
              | 4, h, hk => obtain ⟨A, cp, rfl, h2⟩ := h; exact ⟨A, cp, rfl, h2.stab hz (fun b o hb e hn => hk b hb (.inr ⟨by rw [e]; rfl, hn⟩))⟩
              | 5, h, hk => exact h
              | 6, h, hk => obtain ⟨A, cp, rfl, h2⟩ := h; exact ⟨A, cp, rfl, own_stab h2 (fun b hb e => hk b hb (.inr e))⟩
              | 7, h, hk => obtain ⟨A, cp, rfl, h2⟩ := h; exact ⟨A, cp, rfl, own_stab h2 (fun b hb e => hk b hb (.inr e))⟩
              | oi + 8, h, hk => exact trivial
            refine wp_region_inv (dst := fun oi => [59, 60, 61, 62, 63, 64, 65, 11].getD oi 0) (mono := fun oi => decide (oi < 8)) (pre := fun oi => decide (oi < 8)) (G := Loose 8 wb.heap.size (fun oi => match oi with  | _ => 8) (fun oi v W => match oi with | 0 => v = .agg #[.slice A1 c.heat.length c1, .int .i64 c.gas, .slice (some ⟨bh, oh, none⟩) c.holds.length c2, .slice A3 c.lots.length c3, .slice A4 c.seen.length c4] | 1 => v = .agg #[.slice A1 c.heat.length c1, .int .i64 c.gas, .slice (some ⟨bh, oh, none⟩) c.holds.length c2, .slice A3 c.lots.length c3, .slice A4 c.seen.length c4] | 2 => v = .int .i64 j | 3 => v = .slice Ao no co | 4 => ∃ A cp, v = .slice A (ofL c (j : Int) ox).length cp ∧ IntsS W W.heap.size A (ofL c (j : Int) ox).length cp (natInts (ofL c (j : Int) ox)) | 5 => v = .agg #[.int .i64 (warmX c l j), .slice AG c.lots.length cG] | 6 => ∃ A cp, v = .slice A c.lots.length cp ∧ W.ownsRow wb.heap.size 3 1 (.slice A c.lots.length cp) c.lots.length ((holdT c l ox j).map (Value.int .i64)) | 7 => ∃ A cp, v = .slice A c.lots.length cp ∧ W.ownsRow wb.heap.size 3 1 (.slice A c.lots.length cp) c.lots.length ((holdT c l ox j).map (Value.int .i64)) | _ => True) (fun oi v b => match oi with | 4 => v.ownBlock = some b ∧ 0 < (ofL c (j : Int) ox).length | 6 => v.ownBlock = some b | 7 => v.ownBlock = some b | _ => False)) (by kernel_rfl) (by kernel_rfl) (Loose.start (Nat.le_refl _)) ?hstep ?hend
            case hstep =>
              intro oi hoi hom listed vs a W hU hsz hG hcl hl haft K hK
              have hb := ((Below.refl wb.heap.size wb).drew).trans hU.below
              have hF := Loose.stepF hU hG hST hoi hK
              match oi, hoi, hom with
              | 0, hoi, hom =>
                have z3 : a.tmps[3]?.getD undef = .pointer (some ⟨w.heap.size, 0, none⟩) := hU.same 3 (by decide)
                have y0 := (hb.cell (p := ⟨w.heap.size, 0, none⟩) (z)).trans (x0)
                have y1 := (hb.cell (p := ⟨w.heap.size, 1, none⟩) (z)).trans (x1)
                have y2 := (hb.cell (p := ⟨w.heap.size, 2, none⟩) (z)).trans (x2)
                have y3 := (hb.cell (p := ⟨w.heap.size, 3, none⟩) (z)).trans (x3)
                have y4 := (hb.cell (p := ⟨w.heap.size, 4, none⟩) (z)).trans (x4)
                refine wpOp_value (v := .agg #[.slice A1 c.heat.length c1, .int .i64 c.gas, .slice (some ⟨bh, oh, none⟩) c.holds.length c2, .slice A3 c.lots.length c3, .slice A4 c.seen.length c4]) (W' := W) rfl rfl ?_ (hF _ _ (Below.refl _ _) rfl (fun _ h => False.elim h))
                go_simp
              | 1, hoi, hom =>
                have z3 : a.tmps[3]?.getD undef = .pointer (some ⟨w.heap.size, 0, none⟩) := hU.same 3 (by decide)
                have y0 := (hb.cell (p := ⟨w.heap.size, 0, none⟩) (z)).trans (x0)
                have y1 := (hb.cell (p := ⟨w.heap.size, 1, none⟩) (z)).trans (x1)
                have y2 := (hb.cell (p := ⟨w.heap.size, 2, none⟩) (z)).trans (x2)
                have y3 := (hb.cell (p := ⟨w.heap.size, 3, none⟩) (z)).trans (x3)
                have y4 := (hb.cell (p := ⟨w.heap.size, 4, none⟩) (z)).trans (x4)
                refine wpOp_value (v := .agg #[.slice A1 c.heat.length c1, .int .i64 c.gas, .slice (some ⟨bh, oh, none⟩) c.holds.length c2, .slice A3 c.lots.length c3, .slice A4 c.seen.length c4]) (W' := W) rfl rfl ?_ (hF _ _ (Below.refl _ _) rfl (fun _ h => False.elim h))
                go_simp
              | 2, hoi, hom =>
                have z8 : a.tmps[8]?.getD undef = .int .i64 j := hU.same 8 (by decide)
                refine wpOp_value (v := .int .i64 j) (W' := W) rfl rfl ?_ (hF _ _ (Below.refl _ _) rfl (fun _ h => False.elim h))
                go_simp
              | 3, hoi, hom =>
                have z2 : a.tmps[2]?.getD undef = .slice Ao no co := hU.same 2 (by decide)
                refine wpOp_value (v := .slice Ao no co) (W' := W) rfl rfl ?_ (hF _ _ (Below.refl _ _) rfl (fun _ h => False.elim h))
                go_simp
              | 4, hoi, hom =>
                have l1 := haft _ rfl { on := 1, ground := .data } (by simp) rfl
                have p1 := hG.pv 1 (by decide) (live_end hsz rfl l1)
                have s1 : a.tmps[60]?.getD undef = vs 1 := hU.slot 1 (by decide) l1
                have hv1 : vs 1 = .agg #[.slice A1 c.heat.length c1, .int .i64 c.gas, .slice (some ⟨bh, oh, none⟩) c.holds.length c2, .slice A3 c.lots.length c3, .slice A4 c.seen.length c4] := p1
                rw [hv1] at s1
                have l2 := haft _ rfl { on := 2, ground := .data } (by simp) rfl
                have p2 := hG.pv 2 (by decide) (live_end hsz rfl l2)
                have s2 : a.tmps[61]?.getD undef = vs 2 := hU.slot 2 (by decide) l2
                have hv2 : vs 2 = .int .i64 j := p2
                rw [hv2] at s2
                have l3 := haft _ rfl { on := 3, ground := .data } (by simp) rfl
                have p3 := hG.pv 3 (by decide) (live_end hsz rfl l3)
                have s3 : a.tmps[62]?.getD undef = vs 3 := hU.slot 3 (by decide) l3
                have hv3 : vs 3 = .slice Ao no co := p3
                rw [hv3] at s3
                have hN := Loose.stepN hU hG hST hoi hK (Nat.le_refl _) (fun j _ hc => absurd hc (Nat.lt_irrefl _))
                refine wpOp_enter (f := 45) (args := #[cargoVal c A1 (some ⟨bh, oh, none⟩) A3 A4 c1 c2 c3 c4, .int .i64 j, .slice Ao no co]) (W' := W) rfl rfl ?_ ((of_any (HV.out.next hb) (j : Int) (HO.out.next hb) hlots6).mono (fun e w'' h => ?_))
                · go_simp
                · obtain ⟨A', c', he, h1, hbw⟩ := h
                  exact ⟨_, he, hN _ _ hbw ⟨A', c', rfl, h1⟩ (fun b h => h1.foot h)⟩
              | 5, hoi, hom =>
                have z9 : a.tmps[9]?.getD undef = .pointer (some ⟨gb, 0, none⟩) := hU.same 9 (by decide)
                have y0 := (hb.cell (p := ⟨gb, 0, none⟩) (zg)).trans (yg0)
                have y1 := (hb.cell (p := ⟨gb, 1, none⟩) (zg)).trans (yg1)
                refine wpOp_value (v := .agg #[.int .i64 (warmX c l j), .slice AG c.lots.length cG]) (W' := W) rfl rfl ?_ (hF _ _ (Below.refl _ _) rfl (fun _ h => False.elim h))
                go_simp
              | 6, hoi, hom =>
                have l0 := haft _ rfl { on := 0, ground := .data } (by simp) rfl
                have p0 := hG.pv 0 (by decide) (live_end hsz rfl l0)
                have s0 : a.tmps[59]?.getD undef = vs 0 := hU.slot 0 (by decide) l0
                have hv0 : vs 0 = .agg #[.slice A1 c.heat.length c1, .int .i64 c.gas, .slice (some ⟨bh, oh, none⟩) c.holds.length c2, .slice A3 c.lots.length c3, .slice A4 c.seen.length c4] := p0
                rw [hv0] at s0
                have l4 := haft _ rfl { on := 4, ground := .data } (by simp) rfl
                have p4 := hG.pv 4 (by decide) (live_end hsz rfl l4)
                have s4 : a.tmps[63]?.getD undef = vs 4 := hU.slot 4 (by decide) l4
                obtain ⟨PA4, kp4, hv4, hi4⟩ := p4
                rw [hv4] at s4
                have l5 := haft _ rfl { on := 5, ground := .data } (by simp) rfl
                have p5 := hG.pv 5 (by decide) (live_end hsz rfl l5)
                have s5 : a.tmps[64]?.getD undef = vs 5 := hU.slot 5 (by decide) l5
                have hv5 : vs 5 = .agg #[.int .i64 (warmX c l j), .slice AG c.lots.length cG] := p5
                rw [hv5] at s5
                refine wpOp_enter (f := 85) (args := #[cargoVal c A1 (some ⟨bh, oh, none⟩) A3 A4 c1 c2 c3 c4, .slice PA4 (ofL c (j : Int) ox).length kp4, .agg #[.int .i64 (warmX c l j), .slice AG c.lots.length cG]]) (W' := W) rfl rfl ?_ ((times7_own (HV.out.next hb) HSM.out hi4 HLT.out HND.out (HG.out.next hb) rfl HGB.out w01).mono (fun e w'' h => ?_))
                · go_simp
                · obtain ⟨A', c', he, h1, hbw⟩ := h
                  exact ⟨_, he, hF _ _ hbw ⟨A', c', rfl, own_base h1 hG.base⟩ (fun b h => ⟨(h1.lt b h).2, .inl (h1.lt b h).1⟩)⟩
              | 7, hoi, hom =>
                have l6 := haft _ rfl { on := 6, ground := .data } (by simp) rfl
                have p6 := hG.pv 6 (by decide) (live_end hsz rfl l6)
                have s6 : a.tmps[65]?.getD undef = vs 6 := hU.slot 6 (by decide) l6
                obtain ⟨PA6, kp6, hv6, hi6⟩ := p6
                rw [hv6] at s6
                refine wpOp_value (v := .slice PA6 c.lots.length kp6) (W' := W) rfl rfl ?_ (hF _ _ (Below.refl _ _) ⟨_, _, rfl, hi6⟩ (fun b h => ⟨hG.lt 6 (by decide) (live_end hsz rfl l6) b (by rw [hv6]; exact h), .inr ⟨Nat.le_refl _, 6, by decide, by decide, live_end hsz rfl l6, Nat.le_refl _, by rw [hv6]; exact h⟩⟩))
                go_simp
              | oi + 8, hoi, hom => exact absurd (of_decide_eq_true hom) (by omega)
            case hend =>
              intro listed vs a W hG0 hG hpre
              have hb := ((Below.refl wb.heap.size wb).drew).trans hG0.below
              have hact := hG0.act
              have hT := hG0.lst hpre 0 #[true, true, true, true, true, true, true, true] rfl (by kernel_rfl) (hpre 0 (by decide) (by decide))
              rw [hG0.ix hT (l := [0, 1, 2, 3, 4, 5, 6, 7]) (by kernel_rfl)] at hact
              rw [hG0.lo hT (k := 0) (by kernel_rfl)]
              have p7 := hG.pv 7 (by decide) (live_end hG.size rfl (hpre 7 (by decide) (by decide)))
              subst hT
              refine wpAny_done (by kernel_rfl) ?_ _
              exact ⟨rfl, vs, hact, hb, p7⟩
          case imp =>
          rintro a w3 ⟨vs, rfl, hb1, AT, cT, hv7, hT⟩
          simp only [setAll, List.setIfInBounds_toArray, List.set_cons_succ, List.set_cons_zero, List.getD_cons_succ, List.getD_cons_zero]
          rw [hv7]
          have HT := hide hT
          have HB3 := hide (HBB.out.trans (hb1.mono HBB.out.size))
          have HO3 := hide (HOB.out.below hb1 hsb.2)
          have HKC := hide (HKB.out.next hb1)
          clear z x0 x1 x2 x3 x4 yg0 yg1 fg1 zg hb1 hv7 hT HV HLT HND HGB
          have HTS := hide (TrM.start c l ox j)
          go_wp2_with fail
          go_loopw [12] (fun v12 wr => ∃ (k : Nat) (o : List Int), k ≤ c.lots.length ∧ v12 = .int .i64 k ∧ Below v0.heap.size v0 wr ∧ Keep (fun q => q = v0.heap.size) w3 wr ∧ OwnI wr v0.heap.size v0.heap.size c.lots.length c.lots.length o ∧ Hid (TrM c l ox j k o)) (fun v12 _ => c.lots.length - (intOf v12).toNat)
          case atStart => exact ⟨0, _, Nat.zero_le _, rfl, HB3.out, Keep.refl _ _, HO3.out, HTS⟩
          case round =>
            obtain ⟨k, o, hk, rfl, hB, hKp, hO, HTR⟩ := hrel
            have HKR := hide (HK0.out.next hB)
            have HBR := hide hB
            have hk0 : (0 : Int) ≤ (k : Int) := Int.natCast_nonneg _
            have hsz := hO.lt
            obtain ⟨hv, z, x0, x1, x2, x3, x4⟩ := HKR.out
            by_cases hlk : k < c.lots.length
            · obtain ⟨b3, o3, rfl, zb3, l0, l1, l2, l3⟩ := hv.lots.lots hlk
              have hk1 : (k : Int) < (c.lots.length : Int) := by omega
              have HTI := hide (ints_own (own_kept HT.out hKp (fun b hb2 hS => by omega)))
              obtain ⟨bt, ot, rfl, hbt, htc⟩ := HTI.out.row (by omega)
              have r1 := htc k hlk
              rw [intsF] at r1
              have HKP := hide hKp
              have HOO := hide hO
              have hol := hO.len
              clear hv hB hKp l1 l2 l3 htc
              cases hq : ((nth c.lots k).hold == (j : Int)) with
              | true =>
                have HQ := hide (show (nth c.lots k).hold = (j : Int) by simpa using hq)
                have y0 := hO.cell hlk
                have f0 := hO.frozen k
                clear hO
                go_wp2_with fail
                go_roundw
                case rel => exact ⟨k + 1, o.set k (nth (holdT c l ox j) k), by omega, by go_num, HBR.out.setCell (p := ⟨v0.heap.size, k, none⟩) (Nat.le_refl _) _, HKP.out.trans (Keep.setCell _ _ _ (fun q => q = v0.heap.size) rfl), HOO.out.set k _, hide (HTR.out.put (by omega) HQ.out)⟩
                case measure => simp [intOf]; omega
              | false =>
                have HQ := hide (show (nth c.lots k).hold ≠ (j : Int) by simpa using hq)
                clear hO
                go_wp2_with fail
                go_roundw
                case rel => exact ⟨k + 1, o, by omega, by go_num, HBR.out, HKP.out, HOO.out, hide (HTR.out.same HQ.out)⟩
                case measure => simp [intOf]; omega
            · have hkk : k = c.lots.length := by omega
              have HDN := hide (show o = trulyTo c l ox (j + 1) from TrM.done (hkk ▸ HTR.out) hO.len)
              have HOO := hide hO
              clear hv hB hKp hO hkk
              go_wp2_with fail
              go_roundw
              case rel => exact ⟨j + 1, by omega, by go_num, HBR.out, by rw [← HDN.out]; exact HOO.out⟩
              case measure => simp [intOf]; omega
    · have hjj : j = c.holds.length := by omega
      have HJJ := hide hjj
      clear hv hjj
      go_wp2_with fail
      go_ret
      exact ⟨_, _, rfl, by rw [HTM.out, ← HJJ.out]; exact own_base HOA.out HB0.out.size, (HB0.out.trans (HBA.out.mono HB0.out.size))⟩
end Go.Proofs.Ytbkknliggnhpcaa
