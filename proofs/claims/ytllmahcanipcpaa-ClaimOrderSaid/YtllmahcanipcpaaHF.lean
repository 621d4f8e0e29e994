/- The contract of claim's paid: the claims that are paid, as bits, kept in a map. -/
import Derived.Test.YtllmahcanipcpaaHE
import Derived.Laws.StructEq
import Derived.Laws.Shifts
import Derived.Deep.DeepCutAuto
import Derived.Test.YtllmahcanipcpaaHA
import Derived.OwnWalkIn
import Derived.TacticsInMore
set_option linter.unusedVariables false
set_option linter.unusedSimpArgs false
namespace Go.Proofs.Ytllmahcanipcpaa
open Go.RowKit
attribute [local go_sem ↓] Go.wp_at_zero Go.wp_at_succ

def paidN (f : File) (s : List Int) : Nat → Nat
  | 0 => 0
  | n + 1 => if paidB f s n then paidN f s n ||| 2 ^ n else paidN f s n
def paidV (f : File) (s : List Int) : Int := (paidN f s f.claims.length : Nat)
theorem paidN_lt (f : File) (s : List Int) : ∀ k, paidN f s k < 2 ^ k
  | 0 => by simp [paidN]
  | k + 1 => by
    have ih := paidN_lt f s k
    rw [paidN]
    split
    · exact Nat.or_lt_two_pow (by rw [Nat.pow_succ]; omega) (Nat.pow_lt_pow_right (by omega) (by omega))
    · rw [Nat.pow_succ]; omega
theorem paidN_32 {f : File} (s : List Int) {k : Nat} (hk : k ≤ 5) : paidN f s k < 32 := Nat.lt_of_lt_of_le (paidN_lt f s k) (Nat.le_trans (Nat.pow_le_pow_right (by omega) hk) (by decide))
set_option maxRecDepth 100000 in
theorem bits_or {m j : Nat} (hm : m < 32) (hj : j < 5) : bits BinOp.or .i64 (m : Int) (wrap64 (2 ^ j)) = ((m ||| 2 ^ j : Nat) : Int) := by
  have h : ∀ m : Fin 32, ∀ j : Fin 5, bits BinOp.or .i64 ((m : Nat) : Int) (wrap64 (2 ^ (j : Nat))) = (((m : Nat) ||| 2 ^ (j : Nat) : Nat) : Int) := of_decide_eq_true (by kernel_rfl)
  exact h ⟨m, hm⟩ ⟨j, hj⟩
/-- Claim i does not come ahead of claim n. -/
def firstAt (f : File) (n i : Nat) : Bool := !((nth f.claims i).lot == (nth f.claims n).lot && (nth f.claims i).against == (nth f.claims n).against && (decide ((nth f.claims i).day < (nth f.claims n).day) || ((nth f.claims i).day == (nth f.claims n).day && decide (i < n))))
def firstTo (f : File) (n k : Nat) : Bool := (List.range k).all (firstAt f n)
theorem firstTo_all (f : File) (n : Nat) : firstTo f n f.claims.length = firstB f n := rfl
theorem firstTo_succ (f : File) (n k : Nat) : firstTo f n (k + 1) = (firstTo f n k && firstAt f n k) := by simp [firstTo, List.range_succ]
theorem firstTo_false {f : File} {n k : Nat} (h : firstAt f n k = false) (hk : k < f.claims.length) : firstB f n = false := by
  rw [← firstTo_all, firstTo, List.all_eq_false]
  exact ⟨k, List.mem_range.2 hk, by simp [h]⟩
theorem paidB_def (f : File) (s : List Int) (n : Nat) : paidB f s n = (withM f s (nth f.claims n).lot.toNat == (nth f.claims n).against && decide ((nth f.claims n).day ≤ nth f.untils (nth f.claims n).against.toNat) && firstB f n) := rfl

set_option maxRecDepth 100000 in
theorem run_eq_claim (a b c d e : Int) (w : World) : (Op.equalIn 10000 52 (.agg #[.int .i64 a, .int .i64 b, .int .i64 c]) (.agg #[.int .i64 d, .int .i64 e, .int .i64 c])).run Try.prog w = .ok (a == d && b == e) w := by
  have hu : Try.prog.underlying 52 = some (.struct (Try.prog.fieldsOf 52)) := by kernel_rfl
  have hs : Try.prog.stoodInHeld 52 = false := by kernel_rfl
  rw [run_equalIn_agg w 9999 52 _ _ hu hs]
  by_cases h1 : a = d
  · subst h1
    by_cases h2 : b = e
    · subst h2; simp [go_sem, Try.underlying52, Try.underlying3]
    · have h2' : (b == e) = false := by simpa using h2
      simp [go_sem, Try.underlying52, Try.underlying3, h2']
  · have h1' : (a == d) = false := by simpa using h1
    simp [go_sem, Try.underlying52, Try.underlying3, h1']
set_option maxHeartbeats 4000000 in
set_option maxRecDepth 100000 in
theorem paid_any {w : World} {L b bm : Nat} {f : File} {a : FA} {but : Int} (h : LookG w L b bm f a but (paidV f)) (hv : Valid f) {s : List Int} (hs : PlB f s) :
    Calls Try.prog 59 #[.pointer (some ⟨b, 0, none⟩), plVal s] w fun e w' => e = .returned (.int .i64 (paidV f s)) ∧ Keep (fun k => k = bm) w w' ∧ Known w' bm (paidV f) := by
  obtain ⟨A1, A2, A3, A4, A5, c1, c2, c3, c4, c5, R, K⟩ := a
  obtain ⟨l0, ok, hlook, hl0⟩ := h.k.look s hs.pl
  have q1 := h.q1
  have q2 := h.q2
  have q4 := h.q4
  have q6 := h.q6
  have hm2 := h.v.m2
  have hm3 := h.v.m3
  have hm5 := h.v.m5
  dsimp only at q1 q2 q4 hm2 hm3 hm5
  unfold maxLen at hm2 hm3 hm5
  have hll := hv.lots
  have hcl := hv.claims
  have hul := hv.untils
  have hpl := hv.parties
  have hlt := h.hb
  have hltm := h.hm
  have hB0 : Below w.heap.size w (w.alloc (.cells #[iv (nth s 0), iv (nth s 1), iv (nth s 2), iv (nth s 3)] 86)) := (Below.refl _ _).alloc (Nat.le_refl _) _
  have bk : Blk (w.alloc (.cells #[iv (nth s 0), iv (nth s 1), iv (nth s 2), iv (nth s 3)] 86)) w.heap.size 86 #[iv (nth s 0), iv (nth s 1), iv (nth s 2), iv (nth s 3)] := Blk.made
  have HG := hide h
  have HV := hide hv
  have HP := hide hs
  clear h hv hs
  simp only [plVal, iv] at *
  go_enter Try.func59, Try.ntmps59
  go_upto_region 1 with (fail)
  generalize (w.alloc (.cells #[.int .i64 (nth s 0), .int .i64 (nth s 1), .int .i64 (nth s 2), .int .i64 (nth s 3)] 86)) = w0 at *
  have hzs := bk.lt
  have HB0 := hide hB0
  have HBK := hide bk
  have p6 := (hB0.cell (p := ⟨b, 6, none⟩) hlt).trans q6
  have s0 := bk.at_ 0
  have s1 := bk.at_ 1
  have s2 := bk.at_ 2
  have s3 := bk.at_ 3
  simp only [List.getElem?_toArray, List.getElem?_cons_zero, List.getElem?_cons_succ] at s0 s1 s2 s3
  have hla : ∀ n, (Instr.lookup 109 (.map (some bm)) (.agg #[.int .i64 (nth s 0), .int .i64 (nth s 1), .int .i64 (nth s 2), .int .i64 (nth s 3)]) true).run Try.prog (w0.drewN n) = .ok (.tuple #[.int .i64 l0, .bool ok]) (w0.drewN n) := fun n => hlook _ (hB0.block bm hltm)
  clear hlook
  go_step3
  go_wp2_with fail
  cases ok with
  | true =>
    have hl := hl0 rfl
    go_quiet (fail)
    go_wp2_with fail
    go_ret
    have hbd : Below w.heap.size w (w0.drewN nq) := below_drewN HB0.out nq
    exact ⟨rfl, Keep.of_below' hbd _, (HG.out.still hbd).k⟩
  | false =>
    clear hl0
    go_quiet (fail)
    clear hla p6 s0 s1 s2 s3
    have hbd : Below w.heap.size w (w0.drewN nq) := below_drewN HB0.out nq
    have hbk : Blk (w0.drewN nq) w.heap.size 86 #[.int .i64 (nth s 0), .int .i64 (nth s 1), .int .i64 (nth s 2), .int .i64 (nth s 3)] := HBK.out
    have hzl : w.heap.size < (w0.drewN nq).heap.size := hbk.lt
    clear HB0 HBK hB0 bk
    generalize w0.drewN nq = wl at *
    have HBD := hide hbd
    have HBK := hide hbk
    have HF := hide ((HG.out.v.more HG.out.hL).next hbd)
    have p1 := (hbd.cell (p := ⟨b, 1, none⟩) hlt).trans q1
    have p2 := (hbd.cell (p := ⟨b, 2, none⟩) hlt).trans q2
    have p4 := (hbd.cell (p := ⟨b, 4, none⟩) hlt).trans q4
    have hbl : b < wl.heap.size := by omega
    clear hbd hbk q1 q2 q4
    go_wp2_with fail
    go_step3
    go_wp2_with fail
    go_loopw [4, 7, 8, 9, 10, 11, 29] (fun v4 _ _ _ _ _ v29 wr => ∃ i : Nat, i ≤ f.claims.length ∧ v29 = .int .i64 i ∧ v4 = .int .i64 (paidN f s i : Nat) ∧ Below wl.heap.size wl wr) (fun _ _ _ _ _ _ v29 _ => f.claims.length - (intOf v29).toNat)
    case atStart => exact ⟨0, Nat.zero_le _, rfl, rfl, Below.refl _ _⟩
    case round =>
      obtain ⟨i, hi, rfl, rfl, hB⟩ := hrel
      obtain ⟨k1, f1⟩ := bcell hB
      have hzr := hB.size
      have HB := hide hB
      have hbr : b < wr.heap.size := by omega
      clear hB
      by_cases hlti : i < f.claims.length
      · have hi0 : (0 : Int) ≤ (i : Int) := Int.natCast_nonneg _
        have hi1 : (i : Int) < (f.claims.length : Int) := by omega
        obtain ⟨bc, oc, hA5, hbc, g0, g1, g2⟩ := HF.out.claims.claims hlti
        dsimp only at hA5
        subst hA5
        have hcv := HV.out.claim i hlti
        have HPD := hide (paidB_def f s i)
        have HPN := hide (show paidN f s (i + 1) = if paidB f s i then paidN f s i ||| 2 ^ i else paidN f s i from rfl)
        have hbcr : bc < wr.heap.size := by omega
        go_upto_region 7 with (fail)
        have hbx : Below wl.heap.size wl (wr.alloc (.cells #[.int .i64 (nth f.claims i).lot, .int .i64 (nth f.claims i).against, .int .i64 (nth f.claims i).day] 52)) := HB.out.alloc hzr _
        have bx : Blk (wr.alloc (.cells #[.int .i64 (nth f.claims i).lot, .int .i64 (nth f.claims i).against, .int .i64 (nth f.claims i).day] 52)) wr.heap.size 52 #[.int .i64 (nth f.claims i).lot, .int .i64 (nth f.claims i).against, .int .i64 (nth f.claims i).day] := Blk.made
        generalize (wr.alloc (.cells #[.int .i64 (nth f.claims i).lot, .int .i64 (nth f.claims i).against, .int .i64 (nth f.claims i).day] 52)) = wx at *
        clear k1 f1 g0 g1 g2
        have HFA := hide (fun k => show firstAt f i k = !((nth f.claims k).lot == (nth f.claims i).lot && (nth f.claims k).against == (nth f.claims i).against && (decide ((nth f.claims k).day < (nth f.claims i).day) || ((nth f.claims k).day == (nth f.claims i).day && decide (k < i)))) from rfl)
        have hzx := hbx.size
        have hxl := bx.lt
        have HBX := hide hbx
        have HXK := hide bx
        generalize nth f.claims i = c at *
        obtain ⟨cl, ca, cd⟩ := c
        dsimp only at hcv HPD bx HXK HFA
        obtain ⟨k, rfl⟩ : ∃ k : Nat, cl = (k : Int) := ⟨cl.toNat, by omega⟩
        obtain ⟨q, rfl⟩ : ∃ q : Nat, ca = (q : Int) := ⟨ca.toNat, by omega⟩
        rw [Int.toNat_natCast, Int.toNat_natCast] at HPD
        have hk : k < f.lots.length := by omega
        have hq : q < f.untils.length := by omega
        obtain ⟨m, hm, hmr, hm4⟩ := HP.out.at_ HV.out hk
        have hW : withM f s k = nth (nth f.lots k).route m := by rw [withM, hm, Int.toNat_natCast]
        have hm' : nth [nth s 0, nth s 1, nth s 2, nth s 3] k = (m : Int) := by
          rw [← hm]
          match k, (show k < 4 by omega) with
          | 0, _ => rfl
          | 1, _ => rfl
          | 2, _ => rfl
          | 3, _ => rfl
        have x0 := bx.at_ 0
        have x1 := bx.at_ 1
        have x2 := bx.at_ 2
        have s0 := (hbx.cell (p := ⟨w.heap.size, 0, none⟩) hzl).trans (HBK.out.at_ 0)
        have s1 := (hbx.cell (p := ⟨w.heap.size, 1, none⟩) hzl).trans (HBK.out.at_ 1)
        have s2 := (hbx.cell (p := ⟨w.heap.size, 2, none⟩) hzl).trans (HBK.out.at_ 2)
        have s3 := (hbx.cell (p := ⟨w.heap.size, 3, none⟩) hzl).trans (HBK.out.at_ 3)
        simp only [List.getElem?_toArray, List.getElem?_cons_succ, List.getElem?_cons_zero] at x0 x1 x2 s0 s1 s2 s3
        obtain ⟨bu, ou, hA2, hbu, y0⟩ := HF.out.untils.ints hq
        dsimp only at hA2
        subst hA2
        have y0' := (hbx.cell (p := ⟨bu, ou + q, none⟩) hbu).trans y0
        have r1 := (hbx.cell (p := ⟨b, 1, none⟩) hbl).trans p1
        have r2 := (hbx.cell (p := ⟨b, 2, none⟩) hbl).trans p2
        have hbx' : b < wx.heap.size := by omega
        have hbu' : bu < wx.heap.size := by omega
        have hzw' : w.heap.size < wx.heap.size := by omega
        have hq0 : (0 : Int) ≤ (q : Int) := Int.natCast_nonneg _
        have hq1 : (q : Int) < (f.untils.length : Int) := by omega
        have HFX := hide ((HF.out.below hbx).more hzx)
        have HW := hide hW
        have HM1 := hide hm'
        have HWC : Hid (∀ t : Later wx, Calls Try.prog 50 #[.pointer (some ⟨b, 0, none⟩), .agg #[.int .i64 (nth s 0), .int .i64 (nth s 1), .int .i64 (nth s 2), .int .i64 (nth s 3)], .int .i64 (k : Int)] (grow wx t) fun e w' => e = .returned (.int .i64 (withM f s k)) ∧ Below (grow wx t).heap.size (grow wx t) w') := fun t => by
          rw [HW.out]; exact with_any (HFX.out.next (grow_below (t := t))) ((grow_cell (t := t) b 2 hbx').trans r2) (nth s 0) (nth s 1) (nth s 2) (nth s 3) hk (by omega) HM1.out hmr
        clear hbx bx hm hW hm' y0 r2
        have hgc := @grow_cell
        cases hne : (withM f s k != (q : Int)) with
        | true =>
          have HNE := hide (show (withM f s k == (q : Int)) = false by simpa [bne] using hne)
          refine wp_region_grow (by kernel_rfl) (by kernel_rfl) ?_
          repeat (first | go_big_quiet_step ((first | (go_at_call 50; exact Calls.grow_of (HWC.out _)))) | quiet_step ((first | (go_at_call 50; exact Calls.grow_of (HWC.out _)))))
          refine wpQuiet_nil ?_
          rintro _ ⟨t, rfl⟩
          have hbt := grow_below (w := wx) (t := t)
          have HBT := hide (HBX.out.trans (hbt.mono HBX.out.size))
          have bz := HXK.out.next hbt
          clear hgc hbt s0 s1 s2 s3 x0 x1 x2 y0' r1
          generalize grow wx t = wy at *
          have HX := hide (show paidN f s (i + 1) = paidN f s i by rw [HPN.out, HPD.out, HNE.out]; rfl)
          go_wp2_with fail
          exact ⟨⟨i + 1, by omega, by go_num, by rw [HX.out], HBT.out⟩, by simp [intOf]; omega⟩
        | false =>
          have HNE := hide (show (withM f s k == (q : Int)) = true by simpa [bne] using hne)
          cases hgt : decide (cd > nth f.untils q) with
          | true =>
            have hgt' : nth f.untils q < cd := by simpa using hgt
            have HGT := hide (show decide (cd ≤ nth f.untils q) = false by simpa using hgt')
            refine wp_region_grow (by kernel_rfl) (by kernel_rfl) ?_
            repeat (first | go_big_quiet_step ((first | (go_at_call 50; exact Calls.grow_of (HWC.out _)))) | quiet_step ((first | (go_at_call 50; exact Calls.grow_of (HWC.out _)))))
            refine wpQuiet_nil ?_
            rintro _ ⟨t, rfl⟩
            have hbt := grow_below (w := wx) (t := t)
            have HBT := hide (HBX.out.trans (hbt.mono HBX.out.size))
            have bz := HXK.out.next hbt
            clear hgc hbt s0 s1 s2 s3 x0 x1 x2 y0' r1
            generalize grow wx t = wy at *
            have HX := hide (show paidN f s (i + 1) = paidN f s i by rw [HPN.out, HPD.out, HGT.out]; simp)
            go_wp2_with fail
            exact ⟨⟨i + 1, by omega, by go_num, by rw [HX.out], HBT.out⟩, by simp [intOf]; omega⟩
          | false =>
            have hgt' : ¬ (nth f.untils q < cd) := by simpa using hgt
            have HGT := hide (show decide (cd ≤ nth f.untils q) = true by simp; omega)
            refine wp_region_grow (by kernel_rfl) (by kernel_rfl) ?_
            repeat (first | go_big_quiet_step ((first | (go_at_call 50; exact Calls.grow_of (HWC.out _)))) | quiet_step ((first | (go_at_call 50; exact Calls.grow_of (HWC.out _)))))
            refine wpQuiet_nil ?_
            rintro _ ⟨t, rfl⟩
            have hbt := grow_below (w := wx) (t := t)
            have HBT := hide (HBX.out.trans (hbt.mono HBX.out.size))
            have bz := HXK.out.next hbt
            have r4 := (HBT.out.cell (p := ⟨b, 4, none⟩) hbl).trans p4
            clear hgc s0 s1 s2 s3 x0 x1 x2 y0' r1
            have hzy := HBT.out.size
            have hzt := hbt.size
            generalize grow wx t = wy at *
            go_wp2_with fail
            obtain ⟨wa, rfl⟩ : ∃ wa : World, wa = wr := ⟨_, rfl⟩
            go_loopw [9, 10, 11, 62] (fun _ _ _ v62 wr => ∃ j : Nat, j ≤ f.claims.length ∧ v62 = .int .i64 j ∧ Hid (firstTo f i j = true) ∧ Below wy.heap.size wy wr) (fun _ _ _ v62 _ => f.claims.length - (intOf v62).toNat)
            case atStart => exact ⟨0, Nat.zero_le _, rfl, hide rfl, Below.refl _ _⟩
            case round =>
              obtain ⟨j, hj, rfl, HFO, hB2⟩ := hrel
              obtain ⟨k2, f2⟩ := bcell hB2
              have hz2 := hB2.size
              have HB2 := hide hB2
              have hzb := bz.lt
              have z0 : wy.cell? ⟨wa.heap.size, 0, none⟩ = some (.int .i64 (k : Int)) := bz.at_ 0
              have z1 : wy.cell? ⟨wa.heap.size, 1, none⟩ = some (.int .i64 (q : Int)) := bz.at_ 1
              have z2 : wy.cell? ⟨wa.heap.size, 2, none⟩ = some (.int .i64 cd) := bz.at_ 2
              clear hB2
              have hj0 : (0 : Int) ≤ (j : Int) := Int.natCast_nonneg _
              by_cases hltj : j < f.claims.length
              · have hj1 : (j : Int) < (f.claims.length : Int) := by omega
                obtain ⟨bd, od, e5, hbd, g0, g1, g2⟩ := HF.out.claims.claims hltj
                dsimp only at e5
                obtain ⟨rfl, rfl⟩ : bc = bd ∧ oc = od := by simpa using e5
                have g0' := (HBT.out.cell (p := ⟨bc, oc + j * 3, none⟩) hbd).trans g0
                have g1' := (HBT.out.cell (p := ⟨bc, oc + j * 3 + 1, none⟩) hbd).trans g1
                have g2' := (HBT.out.cell (p := ⟨bc, oc + j * 3 + 2, none⟩) hbd).trans g2
                have HFS := hide (firstTo_succ f i j)
                have HFJ := hide (HFA.out j)
                have HFF := hide (fun h => firstTo_false (f := f) (n := i) (k := j) h hltj)
                have hbcy : bc < wy.heap.size := by omega
                have hbcz : bc < wr.heap.size := by omega
                have hrs : wa.heap.size < wr.heap.size := by omega
                have hgt2 : Try.prog.eqGuardType Try.prog.depth 52 = false := by kernel_rfl
                generalize nth f.claims j = x at *
                obtain ⟨xl, xa, xd⟩ := x
                dsimp only at g0' g1' g2' HFJ
                have hEq := run_eq_claim xl xa xd k q
                have hb2 : Below wl.heap.size wl ((wr.alloc (.cells #[.int .i64 xl, .int .i64 xa, .int .i64 xd] 52)).alloc (.cells #[.int .i64 (k : Int), .int .i64 (q : Int), .int .i64 xd] 52)) := ((HBT.out.trans (HB2.out.mono hzy)).alloc (by omega) _).alloc (by simp; omega) _
                have hb3 : Below wy.heap.size wy ((wr.alloc (.cells #[.int .i64 xl, .int .i64 xa, .int .i64 xd] 52)).alloc (.cells #[.int .i64 (k : Int), .int .i64 (q : Int), .int .i64 xd] 52)) := (HB2.out.alloc hz2 _).alloc (by simp; omega) _
                have HB4 := hide hb2
                have HB5 := hide hb3
                clear g0 g1 g2 e5 hb2 hb3
                cases he : (xl == (k : Int) && xa == (q : Int)) with
                | false =>
                  rw [he] at hEq
                  have HX := hide (show firstTo f i (j + 1) = true by rw [HFS.out, HFO.out, HFJ.out, he]; rfl)
                  clear he
                  go_wp2_with fail
                  exact ⟨⟨j + 1, by omega, by go_num, HX, HB5.out⟩, by simp [intOf]; omega⟩
                | true =>
                  rw [he] at hEq
                  have HE := hide he
                  clear he
                  by_cases hd : xd < cd
                  · have HX := hide (show paidN f s (i + 1) = paidN f s i by rw [HPN.out, HPD.out, HFF.out (by rw [HFJ.out, HE.out]; simp [hd])]; simp)
                    go_wp2_with fail
                    exact ⟨⟨i + 1, by omega, by go_num, by rw [HX.out], HB4.out⟩, by simp [intOf]; omega⟩
                  · by_cases hd2 : xd = cd
                    · subst hd2
                      have hdd : (xd == xd) = true := by simp
                      by_cases hji : j < i
                      · have hji' : (j : Int) < (i : Int) := by omega
                        have HX := hide (show paidN f s (i + 1) = paidN f s i by rw [HPN.out, HPD.out, HFF.out (by rw [HFJ.out, HE.out]; simp [hji])]; simp)
                        go_wp2_with fail
                        exact ⟨⟨i + 1, by omega, by go_num, by rw [HX.out], HB4.out⟩, by simp [intOf]; omega⟩
                      · have hji' : ¬ ((j : Int) < (i : Int)) := by omega
                        have HX := hide (show firstTo f i (j + 1) = true by rw [HFS.out, HFO.out, HFJ.out, HE.out]; simp [hji])
                        go_wp2_with fail
                        exact ⟨⟨j + 1, by omega, by go_num, HX, HB5.out⟩, by simp [intOf]; omega⟩
                    · have hdd : (xd == cd) = false := by simpa using hd2
                      have HX := hide (show firstTo f i (j + 1) = true by rw [HFS.out, HFO.out, HFJ.out, HE.out]; simp [hd, hd2])
                      go_wp2_with fail
                      exact ⟨⟨j + 1, by omega, by go_num, HX, HB5.out⟩, by simp [intOf]; omega⟩
              · obtain rfl : j = f.claims.length := by omega
                have hfb : firstB f i = true := by rw [← firstTo_all]; exact HFO.out
                have hor := bits_or (paidN_32 (f := f) s (k := i) (by omega)) (show i < 5 by omega)
                have HX := hide (show paidN f s (i + 1) = paidN f s i ||| 2 ^ i by rw [HPN.out, HPD.out, HNE.out, HGT.out, hfb]; rfl)
                clear hfb
                go_wp2_with fail
                exact ⟨⟨i + 1, by omega, by go_num, by rw [HX.out], HBT.out.trans (HB2.out.mono hzy)⟩, by simp [intOf]; omega⟩
      · obtain rfl : i = f.claims.length := by omega
        have hBr := HBD.out.trans (HB.out.mono (by have := HBD.out.size; omega))
        have hkr : Known wr.drew bm (paidV f) := (HG.out.k.keep (Keep.of_below' hBr (fun _ => False)) (fun h => h)).block rfl
        obtain ⟨wm, hrun, hkn, hgm⟩ := hkr.store s HP.out.pl
        rw [plVal, show iv (paidV f s) = .int .i64 (paidN f s f.claims.length : Nat) from rfl] at hrun
        simp only [iv] at hrun
        have r6 := (hBr.cell (p := ⟨b, 6, none⟩) hlt).trans q6
        have hbk := HBK.out.next (HB.out.mono (Nat.le_refl _))
        have s0 := hbk.at_ 0
        have s1 := hbk.at_ 1
        have s2 := hbk.at_ 2
        have s3 := hbk.at_ 3
        simp only [List.getElem?_toArray, List.getElem?_cons_succ, List.getElem?_cons_zero] at s0 s1 s2 s3
        have hzr' := hbk.lt
        have HKN := hide hkn
        have HKK : Hid (Keep (fun k => k = bm) w wm) := (Keep.of_below' (hBr.drew) _).trans ((Keep.of_grown hgm).mono (fun k _ e => by simpa using e))
        clear hkr hkn hgm hBr hbk k1 f1 p1 p2 p4
        go_upto_region 16 with (fail)
        apply wp_one
        case h =>
          go_region
          all_goals exact ⟨rfl, rfl, rfl⟩
        case hq =>
        go_wp2_with fail
        rw [Exit.noGoto_ret]
        go_ret
        exact ⟨rfl, HKK.out, HKN.out⟩
end Go.Proofs.Ytllmahcanipcpaa
/- The contract of claim's enter: a looked-at file, or an error. -/
namespace Go.Proofs.Ytllmahcanipcpaa
open Go.RowKit
attribute [local go_sem ↓] Go.wp_at_zero Go.wp_at_succ

def enterE (f : File) (n below other : Int) : Int := if (checkM f).2.2 ≠ 0 then (checkM f).2.2 else if offP 0 (below - 1) n then 4 else if other ≠ 0 then other else if someB f 0 then 0 else 8
/-- What enter gives. -/
def EnterP (f : File) (a : FA) (n below other : Int) (w : World) (e : Ending) (w' : World) : Prop :=
  (enterE f n below other = 0 ∧ Valid f ∧ ∃ b bm, e = .returned (.tuple #[.pointer (some ⟨b, 0, none⟩), .int .i64 0]) ∧ w.heap.size ≤ b ∧ w.heap.size ≤ bm ∧ LookG w' w.heap.size b bm f a (0 : Nat) (paidV f) ∧ Below w.heap.size w w') ∨
  (enterE f n below other ≠ 0 ∧ e = .returned (.tuple #[.pointer none, .int .i64 (enterE f n below other)]) ∧ Below w.heap.size w w')
set_option maxHeartbeats 1600000 in
set_option maxRecDepth 100000 in
theorem enter_any {f : File} {a : FA} {w : World} (h : FileV w w.heap.size f a) (n below other : Int) (hbl : 0 ≤ below ∧ below ≤ 9223372036854775807) :
    Calls Try.prog 48 #[fileVal f a, .int .i64 n, .int .i64 below, .int .i64 other] w (EnterP f a n below other w) := by
  have hw1 : IntKind.i64.wrap (below - 1) = below - 1 := IntWalk.i64_in _ (by omega)
  have hB0 : Below w.heap.size w (w.alloc (.cells (fileCells f a) 28)) := (Below.refl _ _).alloc (Nat.le_refl _) _
  have bk : Blk (w.alloc (.cells (fileCells f a) 28)) w.heap.size 28 (fileCells f a) := Blk.made
  have HC0 := hide (h.next hB0)
  have H00 := hide h
  have HBK := hide bk
  have HB0 := hide hB0
  have hz := bk.lt
  have HE0 := hide (show enterE f n below other = if (checkM f).2.2 ≠ 0 then (checkM f).2.2 else if offP 0 (below - 1) n then 4 else if other ≠ 0 then other else if someB f 0 then 0 else 8 from rfl)
  clear h hB0 bk
  generalize hE : enterE f n below other = E at *
  have HE := hide hE
  clear hE
  go_enter Try.func48, Try.ntmps48
  go_upto_region 1 with (fail)
  generalize (w.alloc (.cells (fileCells f a) 28)) = w0 at *
  have p0 := HBK.out.at_ 0
  have p1 := HBK.out.at_ 1
  have p2 := HBK.out.at_ 2
  have p3 := HBK.out.at_ 3
  have p4 := HBK.out.at_ 4
  simp only [fileCells, List.getElem?_toArray, List.getElem?_cons_succ, List.getElem?_cons_zero] at p0 p1 p2 p3 p4
  cases hce : ((checkM f).2.2 != 0) with
  | true =>
    have hne : (checkM f).2.2 ≠ 0 := by simpa using hce
    have HX := hide (show E = (checkM f).2.2 by rw [HE0.out, if_pos hne])
    have HNE := hide hne
    clear hne
    go_wp2_with (go_at_call 8; refine (check_any HC0.out).mono ?_; rintro e w1 ⟨rfl, hb1⟩)
    go_ret2
    exact .inr ⟨by rw [HE.out, HX.out]; exact HNE.out, by rw [HE.out, HX.out]; rfl, HB0.out.trans (hb1.mono (by omega))⟩
  | false =>
    have hne : (checkM f).2.2 = 0 := by simpa using hce
    have HV := hide (valid_of hne)
    have HE1 := hide (show E = if offP 0 (below - 1) n then 4 else if other ≠ 0 then other else if someB f 0 then 0 else 8 by rw [HE0.out, if_neg (by simp [hne])])
    clear hne HE0
    go_upto_region 2 with (go_at_call 8; refine (check_any HC0.out).mono ?_; rintro e w1 ⟨rfl, hb1⟩)
    have HC1 := hide (HC0.out.next hb1)
    have HB1 := hide (HB0.out.trans (hb1.mono (by omega)))
    have HBK1 := hide (HBK.out.next hb1)
    clear hb1 p0 p1 p2 p3 p4 hz HC0 HB0 HBK
    cases hof : offP 0 (below - 1) n with
    | true =>
      have HX := hide (show E = 4 by rw [HE1.out, hof]; rfl)
      have HOF := hide hof
      clear hof
      go_wp2_with (go_at_call 33; refine (off_1 (by simp) _ _ _).mono ?_; rintro e w2 ⟨rfl, hb2⟩; rw [HOF.out])
      go_ret2
      exact .inr ⟨by rw [HE.out, HX.out]; decide, by rw [HE.out, HX.out]; rfl, HB1.out.trans (hb2.mono HB1.out.size)⟩
    | false =>
      have HE2 := hide (show E = if other ≠ 0 then other else if someB f 0 then 0 else 8 by rw [HE1.out, hof]; rfl)
      have HOF := hide hof
      clear hof HE1
      go_upto_region 6 with (go_at_call 33; refine (off_1 (by simp) _ _ _).mono ?_; rintro e w2 ⟨rfl, hb2⟩; rw [HOF.out])
      have HC2 := hide (HC1.out.next hb2)
      have HB2 := hide (HB1.out.trans (hb2.mono HB1.out.size))
      have HBK2 := hide (HBK1.out.next hb2)
      clear hb2 HC1 HB1 HBK1
      cases hot : (other != 0) with
      | true =>
        have hne : other ≠ 0 := by simpa using hot
        have HX := hide (show E = other by rw [HE2.out, if_pos hne])
        have HNE := hide hne
        clear hne
        go_wp2_with fail
        go_ret2
        exact .inr ⟨by rw [HE.out, HX.out]; exact HNE.out, by rw [HE.out, HX.out]; rfl, HB2.out⟩
      | false =>
        have hne : other = 0 := by simpa using hot
        have HE3 := hide (show E = if someB f 0 then 0 else 8 by rw [HE2.out, if_neg (by simp [hne])])
        clear hne HE2
        have p0 := HBK2.out.at_ 0
        have p1 := HBK2.out.at_ 1
        have p2 := HBK2.out.at_ 2
        have p3 := HBK2.out.at_ 3
        have p4 := HBK2.out.at_ 4
        simp only [fileCells, List.getElem?_toArray, List.getElem?_cons_succ, List.getElem?_cons_zero] at p0 p1 p2 p3 p4
        have hz := HBK2.out.lt
        have HL0 := hide (look_any (but := (0 : Nat)) HC2.out (paidV f))
        rw [show (((0 : Nat) : Int)) = 0 from rfl] at HL0
        cases hso : someB f 0 with
        | true =>
          have HX := hide (show E = 0 by rw [HE3.out, hso]; rfl)
          go_wp2_with (first
            | (go_at_call 62; refine HL0.out.mono ?_; rintro e w3 ⟨b, bm, rfl, hbb, hbm, hB3, hL3⟩)
            | (go_at_call 63; refine (some_any (but := 0) hL3.lookG HV.out (by omega)).mono ?_; rintro e w4 ⟨rfl, hk4, hn4⟩; rw [hso]))
          go_ret2
          have hz2 := HB2.out.size
          have hbd : Below w.heap.size w w4 := HB2.out.trans ((hB3.mono (by omega)).trans (hk4.below (fun k h => by omega) (by have := hB3.size; omega)))
          exact .inl ⟨by rw [HE.out, HX.out], HV.out, b, bm, rfl, by omega, by omega, (hL3.lookG.keep hk4 (fun k h => .inl h) hn4).less (H00.out.below hbd) hbd.size, hbd⟩
        | false =>
          have HX := hide (show E = 8 by rw [HE3.out, hso]; rfl)
          go_wp2_with (first
            | (go_at_call 62; refine HL0.out.mono ?_; rintro e w3 ⟨b, bm, rfl, hbb, hbm, hB3, hL3⟩)
            | (go_at_call 63; refine (some_any (but := 0) hL3.lookG HV.out (by omega)).mono ?_; rintro e w4 ⟨rfl, hk4, hn4⟩; rw [hso]))
          go_ret2
          have hz2 := HB2.out.size
          exact .inr ⟨by rw [HE.out, HX.out]; decide, by rw [HE.out, HX.out]; rfl, HB2.out.trans ((hB3.mono (by omega)).trans (hk4.below (fun k h => by omega) (by have := hB3.size; omega)))⟩
end Go.Proofs.Ytllmahcanipcpaa
/- The plain law of chapter 11: sets as bits; what the program's questions answer. -/
namespace Go.Proofs.Ytllmahcanipcpaa
open Go.RowKit

/-- The bits of what is so below n. -/
def bitsN (q : Nat → Bool) : Nat → Nat
  | 0 => 0
  | n + 1 => if q n then bitsN q n ||| 2 ^ n else bitsN q n
theorem bitsN_test (q : Nat → Bool) : ∀ n i, (bitsN q n).testBit i = (decide (i < n) && q i)
  | 0, i => by simp [bitsN]
  | n + 1, i => by
    have ih := bitsN_test q n i
    rw [bitsN]
    split
    · rename_i hq
      rw [Nat.testBit_or, ih, Nat.testBit_two_pow]
      by_cases h : n = i
      · subst h; simp [hq]
      · have : decide (i < n + 1) = decide (i < n) := by simp; omega
        simp [h, this]
    · rename_i hq
      rw [ih]
      by_cases h : n = i
      · subst h; simp [hq]
      · have : decide (i < n + 1) = decide (i < n) := by simp; omega
        rw [this]
theorem bitsN_lt (q : Nat → Bool) : ∀ n, bitsN q n < 2 ^ n
  | 0 => by simp [bitsN]
  | k + 1 => by
    have ih := bitsN_lt q k
    rw [bitsN]
    split
    · exact Nat.or_lt_two_pow (by rw [Nat.pow_succ]; omega) (Nat.pow_lt_pow_right (by omega) (by omega))
    · rw [Nat.pow_succ]; omega
theorem bitsN_32 (q : Nat → Bool) {k : Nat} (hk : k ≤ 5) : bitsN q k < 32 := Nat.lt_of_lt_of_le (bitsN_lt q k) (Nat.le_trans (Nat.pow_le_pow_right (by omega) hk) (by decide))
theorem bitsN_ext {m n : Nat} {q : Nat → Bool} (h : ∀ i, m.testBit i = (decide (i < n) && q i)) : m = bitsN q n := Nat.eq_of_testBit_eq fun i => by rw [h, bitsN_test]
theorem bitsN_congr {q r : Nat → Bool} {n : Nat} (h : ∀ i, i < n → q i = r i) : bitsN q n = bitsN r n := bitsN_ext fun i => by
  rw [bitsN_test]
  by_cases hi : i < n
  · rw [h i hi]
  · simp [hi]
theorem bitsN_and (q r : Nat → Bool) (n : Nat) : bitsN q n &&& bitsN r n = bitsN (fun i => q i && r i) n := bitsN_ext fun i => by
  rw [Nat.testBit_and, bitsN_test, bitsN_test]; cases decide (i < n) <;> simp
theorem bitsN_or (q r : Nat → Bool) (n : Nat) : bitsN q n ||| bitsN r n = bitsN (fun i => q i || r i) n := bitsN_ext fun i => by
  rw [Nat.testBit_or, bitsN_test, bitsN_test]; cases decide (i < n) <;> simp
theorem bitsN_one {k n : Nat} (hk : k < n) : 2 ^ k = bitsN (fun i => k == i) n := bitsN_ext fun i => by
  rw [Nat.testBit_two_pow]
  by_cases h : k = i
  · subst h; simp [hk]
  · simp [h]
theorem listN_bits (q : Nat → Bool) (n : Nat) : listN (bitsN q n) n = (List.range n).filter q := by
  rw [listN]
  exact List.filter_congr fun i hi => by rw [bitsN_test, decide_eq_true (List.mem_range.1 hi), Bool.true_and]
theorem paidN_bits (f : File) (s : List Int) : ∀ n, paidN f s n = bitsN (paidB f s) n
  | 0 => rfl
  | n + 1 => by rw [paidN, bitsN, paidN_bits f s n]
set_option maxRecDepth 100000 in
theorem bits_orN {m k : Nat} (hm : m < 32) (hk : k < 32) : bits BinOp.or .i64 (m : Int) (k : Int) = ((m ||| k : Nat) : Int) := by
  have h : ∀ m : Fin 32, ∀ j : Fin 32, bits BinOp.or .i64 ((m : Nat) : Int) ((j : Nat) : Int) = (((m : Nat) ||| (j : Nat) : Nat) : Int) := of_decide_eq_true (by kernel_rfl)
  exact h ⟨m, hm⟩ ⟨k, hk⟩
set_option maxRecDepth 100000 in
theorem bits_andN {m k : Nat} (hm : m < 32) (hk : k < 32) : bits BinOp.and .i64 (m : Int) (k : Int) = ((m &&& k : Nat) : Int) := by
  have h : ∀ m : Fin 32, ∀ j : Fin 32, bits BinOp.and .i64 ((m : Nat) : Int) ((j : Nat) : Int) = (((m : Nat) &&& (j : Nat) : Nat) : Int) := of_decide_eq_true (by kernel_rfl)
  exact h ⟨m, hm⟩ ⟨k, hk⟩
set_option maxRecDepth 100000 in
theorem bits_and1 {k : Nat} (hk : k < 32) : bits BinOp.and .i64 (-1) (k : Int) = (k : Int) := by
  have h : ∀ j : Fin 32, bits BinOp.and .i64 (-1) ((j : Nat) : Int) = ((j : Nat) : Int) := of_decide_eq_true (by kernel_rfl)
  exact h ⟨k, hk⟩
/-- What surely is so, behind some truths: the program's bits. -/
def sureI (f : File) (T : List (List Int)) : Int := if T = [] then -1 else (bitsN (fun i => T.all fun p => paidB f p i) f.claims.length : Nat)
def mayN (f : File) (T : List (List Int)) : Nat := bitsN (fun i => T.any fun p => paidB f p i) f.claims.length
theorem sure_step {f : File} (hc : f.claims.length ≤ 5) (T : List (List Int)) (p : List Int) : bits BinOp.and .i64 (sureI f T) (paidV f p) = sureI f (T ++ [p]) := by
  rw [sureI, sureI, paidV, paidN_bits, if_neg (by simp : ¬ T ++ [p] = [])]
  split
  · rename_i h; subst h
    rw [bits_and1 (bitsN_32 _ hc)]
    simp
  · rw [bits_andN (bitsN_32 _ hc) (bitsN_32 _ hc), bitsN_and]
    simp
theorem may_step {f : File} (hc : f.claims.length ≤ 5) (T : List (List Int)) (p : List Int) : bits BinOp.or .i64 (mayN f T : Nat) (paidV f p) = (mayN f (T ++ [p]) : Nat) := by
  rw [mayN, mayN, paidV, paidN_bits, bits_orN (bitsN_32 _ hc) (bitsN_32 _ hc), bitsN_or]
  simp
theorem mayN_nil (f : File) : mayN f [] = 0 := by
  rw [mayN]
  exact (bitsN_ext (m := 0) fun i => by simp).symm
def whoN (f : File) (lot : Nat) (T : List (List Int)) : Nat := bitsN (fun i => T.any fun p => withM f p lot == (i : Int)) f.parties.length
theorem who_step {f : File} (hp : f.parties.length ≤ 4) (lot : Nat) (T : List (List Int)) (p : List Int) {k : Nat} (hk : withM f p lot = (k : Int)) (hk2 : k < f.parties.length) : bits BinOp.or .i64 (whoN f lot T : Nat) (wrap64 (2 ^ k)) = (whoN f lot (T ++ [p]) : Nat) := by
  rw [whoN, whoN, bits_or (bitsN_32 _ (by omega)) (by omega), bitsN_one hk2, bitsN_or]
  congr 2
  funext i
  rw [List.any_append, List.any_cons, List.any_nil, Bool.or_false, hk]
  congr 1
  rw [Bool.eq_iff_iff, beq_iff_eq, beq_iff_eq]; omega
theorem whoN_nil (f : File) (lot : Nat) : whoN f lot [] = 0 := by
  rw [whoN]
  exact (bitsN_ext (m := 0) fun i => by simp).symm
end Go.Proofs.Ytllmahcanipcpaa
/- A law of ranges over claim's truths: what a round needs, what is left at the end. -/
namespace Go.Proofs.Ytllmahcanipcpaa
open Go.RowKit

abbrev plCells (s : List Int) : Array Value := #[.int .i64 (nth s 0), .int .i64 (nth s 1), .int .i64 (nth s 2), .int .i64 (nth s 3)]
theorem RPost.imp {α : Type} {C : Nat → Prop} {M : World → Prop} {I I' : List α → World → Prop} {Ix Ix' : Code → List α → World → Prop} {xs : List α} {W : World} {e : Exit} {a : Act} {W' : World}
    (hI : Keep C W W' → M W' → I xs W' → I' xs W') (hX : ∀ cd, Keep C W W' → M W' → Ix cd xs W' → Ix' cd xs W') (h : RPost C M I Ix xs W e a W') : RPost C M I' Ix' xs W e a W' := by
  cases e with
  | normal => exact ⟨h.1, h.2.1, hI h.1 h.2.1 h.2.2⟩
  | ret => exact ⟨h.1, h.2.1, hX _ h.1 h.2.1 h.2.2⟩
  | exit id => exact ⟨h.1, h.2.1, hX _ h.1 h.2.1 h.2.2⟩
  | goto t => exact ⟨h.1, h.2.1, hX _ h.1 h.2.1 h.2.2⟩
  | panic c => exact h
  | outgrown => exact h
theorem range_truths {Q : Exit → Act → World → Prop} {a : Act} {w : World} {gop : Operand} {ps : Array Tmp} {assign body : Code} {L b bm p1 : Nat} {f : File} {fa : FA} {but : Nat}
    (hg : a.eval gop = .func (.func 77) #[] #[.pointer (some ⟨p1, 0, none⟩)]) (hps : ps.size = 1) (h : LookG w L b bm f fa but (paidV f)) (hv : Valid f) (hbut : but < 32)
    (e1 : w.cell? ⟨p1, 0, none⟩ = some (.pointer (some ⟨b, 0, none⟩))) (own : Nat → Prop) (hown : ∀ k, own k → L ≤ k ∧ k ≠ b ∧ k < w.heap.size ∧ k ≠ p1)
    (I : List (List Int) → World → Prop) (Ix : Code → List (List Int) → World → Prop)
    (hI : ∀ pre V V', I pre V → Keep (fun k => k = bm ∨ w.heap.size ≤ k) V V' → I pre V') (hIx : ∀ cd pre V V', Ix cd pre V → Keep (fun k => k = w.heap.size + 1) V V' → Ix cd pre V')
    (h0 : I [] w) (A : List Int → Nat → Act)
    (hass : ∀ l x W1, assign.wpIn (Fence.wide.inRound l) 0 Try.prog (fun e a' v => e = .normal ∧ a' = A x W1.heap.size ∧ v = W1.alloc (.cells (plCells x) 86)) { tmps := (ps.zip #[plVal x]).foldl (fun t (p, v) => t.setIfInBounds p v) a.tmps, defers := [] } W1)
    (hbody : ∀ l pre x W3 g, w.heap.size + 2 ≤ g → l = w.heap.size + 1 → x ∈ truthsB f but → PlB f x → I pre W3 → LookG W3 L b bm f fa but (paidV f) → Blk W3 g 86 (plCells x) → w.heap.size + 2 ≤ W3.heap.size →
      body.wpIn (Fence.wide.inRound l) 0 Try.prog (RPost (fun k => k = bm ∨ own k) (fun W => Known W bm (paidV f)) I Ix (pre ++ [x]) W3) (A x g) W3)
    (hdone : ∀ D W', w.heap.size ≤ D → I (truthsB f but) W' → LookG W' L b bm f fa but (paidV f) → Keep (fun k => k = bm ∨ own k) w W' → W'.heap[D]? = some (.deferred (some [])) → Q .normal { a with defers := { target := .collected D, args := #[] } :: a.defers } W')
    (hstop : ∀ D cd q W', w.heap.size ≤ D → q ≠ [] → q <+: truthsB f but → Ix cd q W' → LookG W' L b bm f fa but (paidV f) → Keep (fun k => k = bm ∨ own k) w W' → W'.heap[D]? = some (.deferred (some [])) → cd.wpIn Fence.wide 0 Try.prog Q { a with defers := { target := .collected D, args := #[] } :: a.defers } W') :
    (Code.rangeFunc gop ps assign body).wp Try.prog Q a w := by
  have hb0 := h.hb
  have hm0 := h.hm
  have hL0 := h.hL
  have hS : ∀ k, (k = bm ∨ own k) → k = bm ∨ (L ≤ k ∧ k ≠ b) := fun k hk => hk.imp id (fun h => ⟨(hown k h).1, (hown k h).2.1⟩)
  have hT : ∀ k, (k = bm ∨ (k = bm ∨ own k)) → k = bm ∨ own k := fun k hk => hk.elim .inl id
  refine wp_range hg (enters_of Try.func77 (by kernel_rfl) rfl) hps (truths_iter (C := fun k => k = bm ∨ own k) hv hbut (fun k hk => hk.elim .inl (fun h1 => .inr ⟨⟨(hown k h1).1, (hown k h1).2.1⟩, (hown k h1).2.2.1, (hown k h1).2.2.2⟩)) h e1)
    (fun k hk => hk.elim (fun h1 => by omega) (fun h1 => (hown k h1).2.2.1)) (fun k h => by omega) (fun V V' h hk => h.keep hk (by omega))
    (fun pre W => LookG W L b bm f fa but (paidV f) ∧ I pre W ∧ w.heap.size ≤ W.heap.size) (fun cd pre W => LookG W L b bm f fa but (paidV f) ∧ Ix cd pre W) ?_ ?_ h.k ⟨h, h0, Nat.le_refl _⟩ ?_ ?_ ?_
  · rintro pre V V' ⟨i1, i2, i3⟩ hk hm
    exact ⟨i1.keep hk (fun k h => h.imp id (fun h => by omega)) hm, hI _ _ _ i2 hk, by have := hk.size; omega⟩
  · rintro cd pre V V' ⟨i1, i2⟩ hk
    exact ⟨i1.keep' hk (fun k h => by omega), hIx _ _ _ _ i2 hk⟩
  · rintro l pre x W1 hl hx ⟨i1, i2, i3⟩ hm hlt
    refine wpIn_one (hass l x W1) ?_
    have hkA : Keep (fun _ => False) W1 (W1.alloc (.cells (plCells x) 86)) := Keep.alloc _ _ _
    have hbA : Blk (W1.alloc (.cells (plCells x) 86)) W1.heap.size 86 (plCells x) := Blk.made
    generalize W1.alloc (.cells (plCells x) 86) = W2 at *
    have j1 := i1.keep' hkA (fun _ h => h.elim)
    refine ⟨hkA.mono (fun _ _ h => h.elim), j1.k, fun W3 hk3 => ?_⟩
    have hz2 := hkA.size
    have hz3 := hk3.size
    have j2 := j1.keep' hk3 (fun k h => by omega)
    refine wpIn_mono (hbody l pre x W3 W1.heap.size (by omega) hl hx (statesP_ok hv (List.mem_filter.1 hx).1).1 (hI _ _ _ (hI _ _ _ i2 (hkA.mono (fun _ _ h => h.elim))) (hk3.mono (fun k _ h => .inr (by omega)))) j2 (hbA.keep hk3 (by omega)) (by omega)) ?_
    intro e a' W' hr
    refine RPost.imp (fun hk hm hi => ⟨j2.keep hk hS hm, hi, by have := hk.size; omega⟩) (fun cd hk hm hi => ⟨j2.keep hk hS hm, hi⟩) hr
  · rintro D W' hD ⟨i1, i2, i3⟩ hm hk hd
    exact hdone D W' hD i2 i1 (hk.mono (fun k _ h => hT k h)) hd
  · rintro D cd q W' hD hq hqp ⟨i1, i2⟩ hm hk hd
    exact hstop D cd q W' hD hq hqp i2 i1 (hk.mono (fun k _ h => hT k h)) hd
end Go.Proofs.Ytllmahcanipcpaa
/- The contract of claim's settled: what surely is paid, and what may be. -/
namespace Go.Proofs.Ytllmahcanipcpaa
open Go.RowKit
attribute [local go_sem ↓] Go.wp_at_zero Go.wp_at_succ
attribute [local go_sem] Oper.semAt_some

set_option maxHeartbeats 4000000 in
set_option maxRecDepth 100000 in
theorem fsettled_any {w : World} {L b bm : Nat} {f : File} {a : FA} {but : Nat} (h : LookG w L b bm f a but (paidV f)) (hv : Valid f) (hbut : but < 32) :
    Calls Try.prog 58 #[.pointer (some ⟨b, 0, none⟩)] w fun e w' => e = .returned (.tuple #[.int .i64 (sureI f (truthsB f but)), .int .i64 (mayN f (truthsB f but) : Nat)]) ∧ Keep (fun k => k = bm) w w' ∧ Known w' bm (paidV f) := by
  have HH := hide h
  have HV := hide hv
  have hb0 := h.hb
  have hm0 := h.hm
  have hL0 := h.hL
  have hcl := hv.claims
  clear h hv
  refine (callsIn_wide (n := 0)).1 (callsIn_of_wp_marks Try.func58 rfl trivial ?_ rfl)
  refine (wpIn_wide (n := 0)).2 ?_
  simp only [Try.ntmps58, List.size_toArray, List.length_cons, List.length_nil, Nat.reduceAdd, Nat.reduceSub, Array.replicate_succ, Array.replicate_zero, List.push_toArray, List.append_toArray, List.nil_append, List.cons_append]
  go_wp2_with fail
  have q1 : Blk (((w.alloc (.cells #[.pointer (some ⟨b, 0, none⟩)] 79)).alloc (.cells #[.int .i64 (-1)] 3)).alloc (.cells #[.int .i64 0] 3)) w.heap.size 79 #[.pointer (some ⟨b, 0, none⟩)] := (Blk.made.alloc _).alloc _
  have q2 : Blk (((w.alloc (.cells #[.pointer (some ⟨b, 0, none⟩)] 79)).alloc (.cells #[.int .i64 (-1)] 3)).alloc (.cells #[.int .i64 0] 3)) (w.heap.size + 1) 3 #[.int .i64 (-1)] := (Blk.made' (by simp)).alloc _
  have q3 : Blk (((w.alloc (.cells #[.pointer (some ⟨b, 0, none⟩)] 79)).alloc (.cells #[.int .i64 (-1)] 3)).alloc (.cells #[.int .i64 0] 3)) (w.heap.size + 1 + 1) 3 #[.int .i64 0] := Blk.made' (by simp)
  have hB0 : Below w.heap.size w (((w.alloc (.cells #[.pointer (some ⟨b, 0, none⟩)] 79)).alloc (.cells #[.int .i64 (-1)] 3)).alloc (.cells #[.int .i64 0] 3)) := (((Below.refl _ _).alloc (Nat.le_refl _) _).alloc (by simp) _).alloc (by simp; omega) _
  generalize (((w.alloc (.cells #[.pointer (some ⟨b, 0, none⟩)] 79)).alloc (.cells #[.int .i64 (-1)] 3)).alloc (.cells #[.int .i64 0] 3)) = w0 at *
  refine truths_any.mono ?_
  rintro e w1 ⟨p1, rfl, hp1, hp1', e1, hB1⟩
  have hz0 := q3.lt
  have hz1 := hB1.size
  have n1 := q1.next hB1
  have n2 := q2.next hB1
  have n3 := q3.next hB1
  have hBw := hB0.trans (hB1.mono hB0.size)
  have HL1 := hide (HH.out.still hBw)
  have HBW := hide hBw
  clear q1 q2 q3 hB0 hB1 hBw
  go_wp2_with fail
  refine range_truths (f := f) (A := fun x g => { tmps := #[.pointer (some ⟨b, 0, none⟩), .pointer (some ⟨w.heap.size, 0, none⟩), .pointer (some ⟨w.heap.size + 1, 0, none⟩), .pointer (some ⟨w.heap.size + 1 + 1, 0, none⟩), .pointer (some ⟨g, 0, none⟩), .pointer (some ⟨b, 0, none⟩), .func (.func 77) #[] #[.pointer (some ⟨p1, 0, none⟩)], plVal x, undef, undef, undef, undef, undef, undef, undef, undef, undef, undef, undef, undef], defers := [] }) rfl rfl HL1.out HV.out hbut e1
    (fun k => k = w.heap.size + 1 ∨ k = w.heap.size + 1 + 1) (fun k hk => by omega)
    (fun pre W => Blk W w.heap.size 79 #[.pointer (some ⟨b, 0, none⟩)] ∧ Blk W (w.heap.size + 1) 3 #[.int .i64 (sureI f pre)] ∧ Blk W (w.heap.size + 1 + 1) 3 #[.int .i64 (mayN f pre : Nat)]) (fun _ _ _ => False) ?hI (fun _ _ _ _ h _ => h) ?h0 ?hass ?body ?done (fun _ _ _ _ _ _ _ h _ _ _ => h.elim)
  case hI =>
    rintro pre V V' ⟨i1, i2, i3⟩ hk
    exact ⟨i1.keep hk (by omega), i2.keep hk (by omega), i3.keep hk (by omega)⟩
  case h0 => exact ⟨n1, by rw [sureI, if_pos rfl]; exact n2, by rw [mayN_nil]; exact n3⟩
  case hass =>
    intro l x W1
    simp only [plVal, iv]
    gi_wp2
  case body =>
    rintro l pre x W3 g hg hl hx0 hx ⟨i1, i2, i3⟩ hL hp hz3
    refine wpIn_block (wpIn_seq ?_)
    have hgz := hp.lt
    have r1 := i1.at_ 0
    have r2 := i2.at_ 0
    have x0 := hp.at_ 0
    have x1 := hp.at_ 1
    have x2 := hp.at_ 2
    have x3 := hp.at_ 3
    simp only [List.getElem?_toArray, List.getElem?_cons_zero, List.getElem?_cons_succ] at r1 r2 x0 x1 x2 x3
    have HL := hide hL
    have HI1 := hide i1
    have HI2 := hide i2
    have HI3 := hide i3
    have HP := hide hp
    have HS1 := hide (sure_step hcl pre x)
    have HS2 := hide (may_step hcl pre x)
    have HLT := hide (⟨hL.hb, hL.hm, hL.hL, i1.lt, i2.lt, i3.lt⟩ : b < W3.heap.size ∧ bm < W3.heap.size ∧ L ≤ W3.heap.size ∧ w.heap.size < W3.heap.size ∧ w.heap.size + 1 < W3.heap.size ∧ w.heap.size + 1 + 1 < W3.heap.size)
    have hwz : w.heap.size + 1 + 1 < W3.heap.size := i3.lt
    clear i1 i2 i3 hL hp
    refine wpIn_round_rel (dst := fun i => [8, 9, 10, 11, 12, 0].getD i 0) (mono := fun i => decide (i < 5)) (pre := fun i => decide (i < 5)) (R := LKeep (fun k => k = bm) (fun W => Known W bm (paidV f)))
      (Pv := fun i v W => match i with
        | 0 => v = .int .i64 (sureI f pre)
        | 1 => v = .pointer (some ⟨b, 0, none⟩)
        | 2 => v = .agg #[.int .i64 (nth x 0), .int .i64 (nth x 1), .int .i64 (nth x 2), .int .i64 (nth x 3)]
        | 3 => v = .int .i64 (paidV f x)
        | 4 => v = .int .i64 (sureI f (pre ++ [x]))
        | _ => True) (by kernel_rfl) (by kernel_rfl) (by rintro ⟨a, w, h⟩; exact h) (by kernel_rfl) (LKeep.refl _ _) (fun _ _ _ h h' => h.trans h') ?hst ?hstep ?hend
    case hst =>
      intro i v W W' h hk
      match i, h with
      | 0, h => exact h
      | 1, h => exact h
      | 2, h => exact h
      | 3, h => exact h
      | 4, h => exact h
      | i + 5, h => exact trivial
    case hstep =>
      intro i hi hm listed vs a W hU hk0 hpv haft K hK
      have hkk := (LKeep.drew (fun k => k = bm) (M := fun W => Known W bm (paidV f)) W3 (fun h => h)).trans hk0
      have hk := hkk.1
      have hkm := hkk.2
      clear hkk
      match i, hi, hm with
      | 0, hi, hm =>
        have z2 : a.tmps[2]?.getD undef = .pointer (some ⟨w.heap.size + 1, 0, none⟩) := hU.same 2 (by decide)
        have y0 := (hk.cell (b := w.heap.size + 1) (o := 0) (by omega) (by omega)).trans (r2)
        refine wpOp_value (v := .int .i64 (sureI f pre)) (W' := W) rfl rfl ?_ (hK _ _ (LKeep.refl _ _ _) rfl)
        go_simp
      | 1, hi, hm =>
        have z1 : a.tmps[1]?.getD undef = .pointer (some ⟨w.heap.size, 0, none⟩) := hU.same 1 (by decide)
        have y0 := (hk.cell (b := w.heap.size) (o := 0) (by omega) (by omega)).trans (r1)
        refine wpOp_value (v := .pointer (some ⟨b, 0, none⟩)) (W' := W) rfl rfl ?_ (hK _ _ (LKeep.refl _ _ _) rfl)
        go_simp
      | 2, hi, hm =>
        have z4 : a.tmps[4]?.getD undef = .pointer (some ⟨g, 0, none⟩) := hU.same 4 (by decide)
        have y0 := (hk.cell (b := g) (o := 0) (hgz) (by omega)).trans (x0)
        have y1 := (hk.cell (b := g) (o := 1) (hgz) (by omega)).trans (x1)
        have y2 := (hk.cell (b := g) (o := 2) (hgz) (by omega)).trans (x2)
        have y3 := (hk.cell (b := g) (o := 3) (hgz) (by omega)).trans (x3)
        refine wpOp_value (v := .agg #[.int .i64 (nth x 0), .int .i64 (nth x 1), .int .i64 (nth x 2), .int .i64 (nth x 3)]) (W' := W) rfl rfl ?_ (hK _ _ (LKeep.refl _ _ _) rfl)
        go_simp
      | 3, hi, hm =>
        have l1 := haft _ rfl { on := 1, ground := .data } (by simp) rfl
        have hv1 : vs 1 = .pointer (some ⟨b, 0, none⟩) := hpv 1 l1
        have s1 : a.tmps[9]?.getD undef = vs 1 := hU.slot 1 (by decide) l1
        rw [hv1] at s1
        have l2 := haft _ rfl { on := 2, ground := .data } (by simp) rfl
        have hv2 : vs 2 = .agg #[.int .i64 (nth x 0), .int .i64 (nth x 1), .int .i64 (nth x 2), .int .i64 (nth x 3)] := hpv 2 l2
        have s2 : a.tmps[10]?.getD undef = vs 2 := hU.slot 2 (by decide) l2
        rw [hv2] at s2
        refine wpOp_enter (f := 59) (args := #[.pointer (some ⟨b, 0, none⟩), .agg #[.int .i64 (nth x 0), .int .i64 (nth x 1), .int .i64 (nth x 2), .int .i64 (nth x 3)]]) (W' := W) rfl rfl ?_ ((paid_any (HL.out.keep hk (fun k h => .inl h) (hkm HL.out.k)) HV.out hx).mono (fun e w'' h => ?_))
        · go_simp
        · obtain ⟨he, hkw, hn⟩ := h
          exact ⟨_, he, hK _ _ (⟨hkw, fun _ => hn⟩) rfl⟩
      | 4, hi, hm =>
        have l0 := haft _ rfl { on := 0, ground := .data } (by simp) rfl
        have hv0 : vs 0 = .int .i64 (sureI f pre) := hpv 0 l0
        have s0 : a.tmps[8]?.getD undef = vs 0 := hU.slot 0 (by decide) l0
        rw [hv0] at s0
        have l3 := haft _ rfl { on := 3, ground := .data } (by simp) rfl
        have hv3 : vs 3 = .int .i64 (paidV f x) := hpv 3 l3
        have s3 : a.tmps[11]?.getD undef = vs 3 := hU.slot 3 (by decide) l3
        rw [hv3] at s3
        have hbe := HS1.out
        refine wpOp_value (v := .int .i64 (sureI f (pre ++ [x]))) (W' := W) rfl rfl ?_ (hK _ _ (LKeep.refl _ _ _) rfl)
        go_simp
      | i + 5, hi, hm => exact absurd (of_decide_eq_true hm) (by omega)
    case hend =>
      intro listed vs a W hG hk0 hpv hpre
      have hkk := (LKeep.drew (fun k => k = bm) (M := fun W => Known W bm (paidV f)) W3 (fun h => h)).trans hk0
      have hk := hkk.1
      have hkm := hkk.2
      clear hkk
      have hact := hG.act
      have hT := hG.lst hpre 0 #[true, true, true, true, true, false] rfl (by kernel_rfl) (hpre 0 (by decide) (by decide))
      rw [hG.ix hT (l := [0, 1, 2, 3, 4]) (by kernel_rfl)] at hact
      rw [hG.lo hT (k := 1) (by kernel_rfl)]
      have hv0 : vs 0 = .int .i64 (sureI f pre) := hpv 0 (hpre 0 (by decide) (by decide))
      have hv1 : vs 1 = .pointer (some ⟨b, 0, none⟩) := hpv 1 (hpre 1 (by decide) (by decide))
      have hv2 : vs 2 = .agg #[.int .i64 (nth x 0), .int .i64 (nth x 1), .int .i64 (nth x 2), .int .i64 (nth x 3)] := hpv 2 (hpre 2 (by decide) (by decide))
      have hv3 : vs 3 = .int .i64 (paidV f x) := hpv 3 (hpre 3 (by decide) (by decide))
      have hv4 : vs 4 = .int .i64 (sureI f (pre ++ [x])) := hpv 4 (hpre 4 (by decide) (by decide))
      clear hpv hpre hG hk0
      obtain rfl : a = _ := hact
      subst hT
      simp only [setAll, List.setIfInBounds_toArray, List.set_cons_succ, List.set_cons_zero, List.getD_cons_succ, List.getD_cons_zero]
      simp only [hv0, hv1, hv2, hv3, hv4]
      clear hv0 hv1 hv2 hv3 hv4
      have n2 := HI2.out.keep hk (by omega)
      have r2' := n2.at_ 0
      have f2 := n2.free 0
      simp only [List.getElem?_toArray, List.getElem?_cons_zero] at r2'
      refine wpAny_all (rs := [5]) (by kernel_rfl) (by simp) ?_
      intro i2 hi2
      obtain rfl : i2 = 5 := by simpa using hi2
      refine wpOp_skip (W' := W.setCell ⟨w.heap.size + 1, 0, none⟩ (.int .i64 (sureI f (pre ++ [x])))) rfl rfl ?_ ?_
      · go_simp
      refine wpAny_done (by kernel_rfl) ?_ _
      have hs : Keep (fun k => k = w.heap.size + 1) W (W.setCell ⟨w.heap.size + 1, 0, none⟩ (.int .i64 (sureI f (pre ++ [x])))) := Keep.setCell _ _ _ _ rfl
      have b2 : Blk (W.setCell ⟨w.heap.size + 1, 0, none⟩ (.int .i64 (sureI f (pre ++ [x])))) (w.heap.size + 1) 3 #[.int .i64 (sureI f (pre ++ [x]))] := n2.store 0 _
      generalize W.setCell ⟨w.heap.size + 1, 0, none⟩ (.int .i64 (sureI f (pre ++ [x]))) = W4 at *
      have hL4 := (HL.out.keep hk (fun k h => .inl h) (hkm HL.out.k)).keep' hs (fun k h => by omega)
      have i1 := (HI1.out.keep hk (by omega)).keep hs (by omega)
      have i3 := (HI3.out.keep hk (by omega)).keep hs (by omega)
      have hp4 := (HP.out.keep hk (by omega)).keep hs (by omega)
      have HK4 := hide ((hk.mono (S' := fun k => k = bm ∨ k = w.heap.size + 1 ∨ k = w.heap.size + 1 + 1) (fun k _ h => .inl h)).trans (hs.mono (fun k _ h => .inr (.inl h))))
      clear n2 r2' f2 hkm hk hs r1 r2 x0 x1 x2 x3 hwz hgz
      have r1 := i1.at_ 0
      have r2 := i3.at_ 0
      have x0 := hp4.at_ 0
      have x1 := hp4.at_ 1
      have x2 := hp4.at_ 2
      have x3 := hp4.at_ 3
      simp only [List.getElem?_toArray, List.getElem?_cons_zero, List.getElem?_cons_succ] at r1 r2 x0 x1 x2 x3
      have hgz := hp4.lt
      have hwz : w.heap.size + 1 + 1 < W4.heap.size := i3.lt
      have HL4 := hide hL4
      have HI4 := hide i1
      have HI5 := hide b2
      have HI6 := hide i3
      clear hL4 i1 b2 i3 hp4 HS1
      refine wpIn_round_rel (dst := fun i => [13, 14, 15, 16, 17, 0].getD i 0) (mono := fun i => decide (i < 5)) (pre := fun i => decide (i < 5)) (R := LKeep (fun k => k = bm) (fun W => Known W bm (paidV f)))
        (Pv := fun i v W => match i with
          | 0 => v = .int .i64 (mayN f pre : Nat)
          | 1 => v = .pointer (some ⟨b, 0, none⟩)
          | 2 => v = .agg #[.int .i64 (nth x 0), .int .i64 (nth x 1), .int .i64 (nth x 2), .int .i64 (nth x 3)]
          | 3 => v = .int .i64 (paidV f x)
          | 4 => v = .int .i64 (mayN f (pre ++ [x]) : Nat)
          | _ => True) (by kernel_rfl) (by kernel_rfl) (by rintro ⟨a, w, h⟩; exact h) (by kernel_rfl) (LKeep.refl _ _) (fun _ _ _ h h' => h.trans h') ?hstB ?hstepB ?hendB
      case hstB =>
        intro i v W W' h hk
        match i, h with
        | 0, h => exact h
        | 1, h => exact h
        | 2, h => exact h
        | 3, h => exact h
        | 4, h => exact h
        | i + 5, h => exact trivial
      case hstepB =>
        intro i hi hm listed vs a W hU hk0 hpv haft K hK
        have hkk := (LKeep.drew (fun k => k = bm) (M := fun W => Known W bm (paidV f)) W4 (fun h => h)).trans hk0
        have hk := hkk.1
        have hkm := hkk.2
        clear hkk
        match i, hi, hm with
        | 0, hi, hm =>
          have z3 : a.tmps[3]?.getD undef = .pointer (some ⟨w.heap.size + 1 + 1, 0, none⟩) := hU.same 3 (by decide)
          have y0 := (hk.cell (b := w.heap.size + 1 + 1) (o := 0) (by omega) (by omega)).trans (r2)
          refine wpOp_value (v := .int .i64 (mayN f pre : Nat)) (W' := W) rfl rfl ?_ (hK _ _ (LKeep.refl _ _ _) rfl)
          go_simp
        | 1, hi, hm =>
          have z1 : a.tmps[1]?.getD undef = .pointer (some ⟨w.heap.size, 0, none⟩) := hU.same 1 (by decide)
          have y0 := (hk.cell (b := w.heap.size) (o := 0) (by omega) (by omega)).trans (r1)
          refine wpOp_value (v := .pointer (some ⟨b, 0, none⟩)) (W' := W) rfl rfl ?_ (hK _ _ (LKeep.refl _ _ _) rfl)
          go_simp
        | 2, hi, hm =>
          have z4 : a.tmps[4]?.getD undef = .pointer (some ⟨g, 0, none⟩) := hU.same 4 (by decide)
          have y0 := (hk.cell (b := g) (o := 0) (hgz) (by omega)).trans (x0)
          have y1 := (hk.cell (b := g) (o := 1) (hgz) (by omega)).trans (x1)
          have y2 := (hk.cell (b := g) (o := 2) (hgz) (by omega)).trans (x2)
          have y3 := (hk.cell (b := g) (o := 3) (hgz) (by omega)).trans (x3)
          refine wpOp_value (v := .agg #[.int .i64 (nth x 0), .int .i64 (nth x 1), .int .i64 (nth x 2), .int .i64 (nth x 3)]) (W' := W) rfl rfl ?_ (hK _ _ (LKeep.refl _ _ _) rfl)
          go_simp
        | 3, hi, hm =>
          have l1 := haft _ rfl { on := 1, ground := .data } (by simp) rfl
          have hv1 : vs 1 = .pointer (some ⟨b, 0, none⟩) := hpv 1 l1
          have s1 : a.tmps[14]?.getD undef = vs 1 := hU.slot 1 (by decide) l1
          rw [hv1] at s1
          have l2 := haft _ rfl { on := 2, ground := .data } (by simp) rfl
          have hv2 : vs 2 = .agg #[.int .i64 (nth x 0), .int .i64 (nth x 1), .int .i64 (nth x 2), .int .i64 (nth x 3)] := hpv 2 l2
          have s2 : a.tmps[15]?.getD undef = vs 2 := hU.slot 2 (by decide) l2
          rw [hv2] at s2
          refine wpOp_enter (f := 59) (args := #[.pointer (some ⟨b, 0, none⟩), .agg #[.int .i64 (nth x 0), .int .i64 (nth x 1), .int .i64 (nth x 2), .int .i64 (nth x 3)]]) (W' := W) rfl rfl ?_ ((paid_any (HL4.out.keep hk (fun k h => .inl h) (hkm HL4.out.k)) HV.out hx).mono (fun e w'' h => ?_))
          · go_simp
          · obtain ⟨he, hkw, hn⟩ := h
            exact ⟨_, he, hK _ _ (⟨hkw, fun _ => hn⟩) rfl⟩
        | 4, hi, hm =>
          have l0 := haft _ rfl { on := 0, ground := .data } (by simp) rfl
          have hv0 : vs 0 = .int .i64 (mayN f pre : Nat) := hpv 0 l0
          have s0 : a.tmps[13]?.getD undef = vs 0 := hU.slot 0 (by decide) l0
          rw [hv0] at s0
          have l3 := haft _ rfl { on := 3, ground := .data } (by simp) rfl
          have hv3 : vs 3 = .int .i64 (paidV f x) := hpv 3 l3
          have s3 : a.tmps[16]?.getD undef = vs 3 := hU.slot 3 (by decide) l3
          rw [hv3] at s3
          have hbe := HS2.out
          refine wpOp_value (v := .int .i64 (mayN f (pre ++ [x]) : Nat)) (W' := W) rfl rfl ?_ (hK _ _ (LKeep.refl _ _ _) rfl)
          go_simp
        | i + 5, hi, hm => exact absurd (of_decide_eq_true hm) (by omega)
      case hendB =>
        intro listed vs a W hG hk0 hpv hpre
        have hkk := (LKeep.drew (fun k => k = bm) (M := fun W => Known W bm (paidV f)) W4 (fun h => h)).trans hk0
        have hk := hkk.1
        have hkm := hkk.2
        clear hkk
        have hact := hG.act
        have hT := hG.lst hpre 0 #[true, true, true, true, true, false] rfl (by kernel_rfl) (hpre 0 (by decide) (by decide))
        rw [hG.ix hT (l := [0, 1, 2, 3, 4]) (by kernel_rfl)] at hact
        rw [hG.lo hT (k := 1) (by kernel_rfl)]
        have hv0 : vs 0 = .int .i64 (mayN f pre : Nat) := hpv 0 (hpre 0 (by decide) (by decide))
        have hv1 : vs 1 = .pointer (some ⟨b, 0, none⟩) := hpv 1 (hpre 1 (by decide) (by decide))
        have hv2 : vs 2 = .agg #[.int .i64 (nth x 0), .int .i64 (nth x 1), .int .i64 (nth x 2), .int .i64 (nth x 3)] := hpv 2 (hpre 2 (by decide) (by decide))
        have hv3 : vs 3 = .int .i64 (paidV f x) := hpv 3 (hpre 3 (by decide) (by decide))
        have hv4 : vs 4 = .int .i64 (mayN f (pre ++ [x]) : Nat) := hpv 4 (hpre 4 (by decide) (by decide))
        clear hpv hpre hG hk0
        obtain rfl : a = _ := hact
        subst hT
        simp only [setAll, List.setIfInBounds_toArray, List.set_cons_succ, List.set_cons_zero, List.getD_cons_succ, List.getD_cons_zero]
        simp only [hv0, hv1, hv2, hv3, hv4]
        clear hv0 hv1 hv2 hv3 hv4
        have n2 := HI6.out.keep hk (by omega)
        have r2' := n2.at_ 0
        have f2 := n2.free 0
        simp only [List.getElem?_toArray, List.getElem?_cons_zero] at r2'
        refine wpAny_all (rs := [5]) (by kernel_rfl) (by simp) ?_
        intro i2 hi2
        obtain rfl : i2 = 5 := by simpa using hi2
        refine wpOp_skip (W' := W.setCell ⟨w.heap.size + 1 + 1, 0, none⟩ (.int .i64 (mayN f (pre ++ [x]) : Nat))) rfl rfl ?_ ?_
        · go_simp
        refine wpAny_done (by kernel_rfl) ?_ _
        have hs : Keep (fun k => k = w.heap.size + 1 + 1) W (W.setCell ⟨w.heap.size + 1 + 1, 0, none⟩ (.int .i64 (mayN f (pre ++ [x]) : Nat))) := Keep.setCell _ _ _ _ rfl
        have b2 : Blk (W.setCell ⟨w.heap.size + 1 + 1, 0, none⟩ (.int .i64 (mayN f (pre ++ [x]) : Nat))) (w.heap.size + 1 + 1) 3 #[.int .i64 (mayN f (pre ++ [x]) : Nat)] := n2.store 0 _
        generalize W.setCell ⟨w.heap.size + 1 + 1, 0, none⟩ (.int .i64 (mayN f (pre ++ [x]) : Nat)) = W5 at *
        have hn := HL4.out.keep hk (fun k h => .inl h) (hkm HL4.out.k)
        exact ⟨HK4.out.trans ((hk.mono (fun k _ h => .inl h)).trans (hs.mono (fun k _ h => .inr (.inr h)))), (hn.keep' hs (fun k h => by omega)).k, (HI4.out.keep hk (by omega)).keep hs (by omega), (HI5.out.keep hk (by omega)).keep hs (by omega), b2⟩
  case done =>
    rintro D W' hD ⟨i1, i2, i3⟩ hL hk hd
    have HMS : Hid (MarksOk (w.heap.size + 1 + 1 + 1) [{ target := .collected D, args := #[] }] W') := ⟨⟨D, by omega, rfl, hd, by simp⟩, trivial⟩
    have HKK : Hid (Keep (fun k => k = bm ∨ w.heap.size ≤ k) w W') := (Keep.of_below' HBW.out _).trans (hk.mono (fun k _ h => h.imp id (fun h => by omega)))
    have HKN := hide hL.k
    have r2 := i2.at_ 0
    have r3 := i3.at_ 0
    have f2 := i2.free 0
    have f3 := i3.free 0
    simp only [List.getElem?_toArray, List.getElem?_cons_zero] at r2 r3
    have hz2 := i2.lt
    have hz3 := i3.lt
    have HI2 := hide i2
    have HI3 := hide i3
    generalize hsv : sureI f (truthsB f but) = sv at *
    generalize hmv : mayN f (truthsB f but) = mv at *
    have HSV := hide hsv
    have HMV := hide hmv
    clear hk hd hL i1 i2 i3 hsv hmv
    go_upto_region 6 with (fail)
    apply wp_one
    case h =>
      go_region
      all_goals exact ⟨rfl, rfl, rfl⟩
    case hq =>
    go_wp2_with fail
    have b2 := (HI2.out.store 0 (.int .i64 sv)).else_ (p := ⟨w.heap.size + 1 + 1, 0, none⟩) (by show w.heap.size + 1 ≠ w.heap.size + 1 + 1; omega) (.int .i64 mv)
    have b3 := (HI3.out.else_ (p := ⟨w.heap.size + 1, 0, none⟩) (by show w.heap.size + 1 + 1 ≠ w.heap.size + 1; omega) (.int .i64 sv)).store 0 (.int .i64 mv)
    have hks : Keep (fun k => k = w.heap.size + 1 ∨ k = w.heap.size + 1 + 1) W' ((W'.setCell ⟨w.heap.size + 1, 0, none⟩ (.int .i64 sv)).setCell ⟨w.heap.size + 1 + 1, 0, none⟩ (.int .i64 mv)).drew := ((Keep.setCell _ _ _ _ (.inl rfl)).trans (Keep.setCell _ _ _ _ (.inr rfl))).trans (Keep.of_below' ((Below.refl _ _).drew) _)
    replace b2 : Blk ((W'.setCell ⟨w.heap.size + 1, 0, none⟩ (.int .i64 sv)).setCell ⟨w.heap.size + 1 + 1, 0, none⟩ (.int .i64 mv)).drew (w.heap.size + 1) 3 #[.int .i64 sv] := b2
    replace b3 : Blk ((W'.setCell ⟨w.heap.size + 1, 0, none⟩ (.int .i64 sv)).setCell ⟨w.heap.size + 1 + 1, 0, none⟩ (.int .i64 mv)).drew (w.heap.size + 1 + 1) 3 #[.int .i64 mv] := b3
    generalize ((W'.setCell ⟨w.heap.size + 1, 0, none⟩ (.int .i64 sv)).setCell ⟨w.heap.size + 1 + 1, 0, none⟩ (.int .i64 mv)).drew = wz at *
    refine leaves_marks (B := w.heap.size + 1 + 1 + 1) (HMS.out.keep hks (by omega)) (fun w' hkw' => ?_)
    have r2 := (b2.keep hkw' (by omega)).at_ 0
    have r3 := (b3.keep hkw' (by omega)).at_ 0
    simp only [List.getElem?_toArray, List.getElem?_cons_zero] at r2 r3
    refine ⟨.tuple #[.int .i64 sv, .int .i64 (mv : Nat)], by simp [results, Try.results58, go_sem, r2, r3], by rw [HSV.out, HMV.out], ?_, ?_⟩
    · exact (HKK.out.trans (hks.mono (fun k _ h => .inr (by omega)))).fin (hkw'.mono (fun k _ h => by omega))
    · exact (HKN.out.keep hks (by omega)).keep hkw' (by omega)
end Go.Proofs.Ytllmahcanipcpaa
/- The contract of claim's Who: with whom a lot can have turned. -/
namespace Go.Proofs.Ytllmahcanipcpaa
open Go.RowKit
attribute [local go_sem ↓] Go.wp_at_zero Go.wp_at_succ
attribute [local go_sem] Oper.semAt_some

/-- With whom a lot turned in some truth. -/
def whoL (f : File) (lot : Nat) : List Nat := (List.range f.parties.length).filter fun i => (truthsB f 0).any fun p => withM f p lot == (i : Int)
def whoV (f : File) (lot : Int) : List Nat × Int := if enterE f lot f.lots.length 0 = 0 then (whoL f lot.toNat, 0) else ([], enterE f lot f.lots.length 0)
theorem who_list (f : File) (lot : Nat) : listN (whoN f lot (truthsB f 0)) f.parties.length = whoL f lot := listN_bits _ _
theorem enter_in {f : File} {n below other : Int} (h : enterE f n below other = 0) : 0 ≤ n ∧ n < below ∧ other = 0 ∧ someB f 0 = true := by
  unfold enterE at h
  split at h
  · rename_i h1; exact absurd h h1
  split at h
  · omega
  split at h
  · rename_i h1; exact absurd h h1
  split at h
  · rename_i h2 h3 h4
    have := offP_false.1 (by simpa using h2)
    exact ⟨by omega, by omega, by omega, h4⟩
  · omega
theorem with_range {f : File} (hv : Valid f) {s : List Int} (hs : PlB f s) {k : Nat} (hk : k < f.lots.length) : ∃ q : Nat, withM f s k = (q : Int) ∧ q < f.parties.length := by
  obtain ⟨j, hj, hjr, _⟩ := hs.at_ hv hk
  have := (hv.route k hk).2.1 j hjr
  refine ⟨(withM f s k).toNat, ?_, ?_⟩ <;> rw [withM, hj, Int.toNat_natCast] <;> omega
theorem plB_cells (s : List Int) {k : Nat} (hk : k < 4) : nth [nth s 0, nth s 1, nth s 2, nth s 3] k = nth s k := by
  match k, hk with
  | 0, _ | 1, _ | 2, _ | 3, _ => rfl
theorem withG_any {w : World} {L b bm : Nat} {f : File} {a : FA} {but : Int} {V : List Int → Int} (h : LookG w L b bm f a but V) (hv : Valid f) {s : List Int} (hs : PlB f s) {k : Nat} (hk : k < f.lots.length) :
    Calls Try.prog 50 #[.pointer (some ⟨b, 0, none⟩), .agg #[.int .i64 (nth s 0), .int .i64 (nth s 1), .int .i64 (nth s 2), .int .i64 (nth s 3)], .int .i64 (k : Int)] w fun e w' => e = .returned (.int .i64 (withM f s k)) ∧ Below w.heap.size w w' := by
  obtain ⟨j, hj, hjr, _⟩ := hs.at_ hv hk
  have hl := hv.lots
  have := with_any (h.v.more h.hL) h.q2 (nth s 0) (nth s 1) (nth s 2) (nth s 3) hk (by omega) ((plB_cells s (by omega)).trans hj) hjr
  rw [withM, hj, Int.toNat_natCast]
  exact this
set_option maxHeartbeats 4000000 in
set_option maxRecDepth 100000 in
theorem who_any {w : World} {f : File} {a : FA} (h : FileV w w.heap.size f a) (lot : Int) :
    Calls Try.prog 10 #[fileVal f a, .int .i64 lot] w fun e w' => ∃ A cp, e = .returned (.tuple #[.slice A (whoV f lot).1.length cp, .int .i64 (whoV f lot).2]) ∧ IntsS w' w'.heap.size A (whoV f lot).1.length cp (natInts (whoV f lot).1) ∧ Below w.heap.size w w' := by
  have hB0 : Below w.heap.size w ((w.alloc (.cells (fileCells f a) 28)).alloc (.cells #[.int .i64 lot] 3)) := ((Below.refl _ _).alloc (Nat.le_refl _) _).alloc (by simp) _
  have q1 : Blk ((w.alloc (.cells (fileCells f a) 28)).alloc (.cells #[.int .i64 lot] 3)) w.heap.size 28 (fileCells f a) := Blk.made.alloc _
  have q2 : Blk ((w.alloc (.cells (fileCells f a) 28)).alloc (.cells #[.int .i64 lot] 3)) (w.heap.size + 1) 3 #[.int .i64 lot] := Blk.made' (by simp)
  have HC0 := hide (h.next hB0)
  have HQ1 := hide q1
  have HQ2 := hide q2
  have HB0 := hide hB0
  clear h hB0 q1 q2
  refine (callsIn_wide (n := 0)).1 (callsIn_of_wp_marks Try.func10 rfl trivial ?_ rfl)
  refine (wpIn_wide (n := 0)).2 ?_
  simp only [Try.ntmps10, List.size_toArray, List.length_cons, List.length_nil, Nat.reduceAdd, Nat.reduceSub, Array.replicate_succ, Array.replicate_zero, List.push_toArray, List.append_toArray, List.nil_append, List.cons_append]
  go_wp2_with fail
  generalize ((w.alloc (.cells (fileCells f a) 28)).alloc (.cells #[.int .i64 lot] 3)) = w0 at *
  refine (enter_any HC0.out lot _ 0 (by have := HC0.out.m3; unfold maxLen at this; omega)).mono ?_
  rintro e w1 (⟨hE, hv, b, bm, rfl, hbb, hbm, hL, hB1⟩ | ⟨hE, rfl, hB1⟩)
  · obtain ⟨hl0, hl1, -, hso⟩ := enter_in hE
    have HX := hide (show whoV f lot = (whoL f lot.toNat, 0) by rw [whoV, if_pos hE])
    have hz00 := HQ2.out.lt
    have hz01 := hB1.size
    have HV := hide hv
    have HB1 := hide (HB0.out.trans (hB1.mono HB0.out.size))
    have HR1 := hide (HQ1.out.next hB1)
    have HR2 := hide (HQ2.out.next hB1)
    have HL := hide hL
    have hpl := hv.parties
    have hb1 := hL.hb
    have hbm1 := hL.hm
    clear hE hv hL hB1 hso
    obtain ⟨k, rfl⟩ : ∃ k : Nat, lot = (k : Int) := ⟨lot.toNat, by omega⟩
    rw [Int.toNat_natCast] at HX
    have hkl : k < f.lots.length := by omega
    go_wp2_with fail
    have n3 : Blk ((w1.alloc (.cells #[.pointer (some ⟨b, 0, none⟩)] 79)).alloc (.cells #[.int .i64 0] 3)) w1.heap.size 79 #[.pointer (some ⟨b, 0, none⟩)] := Blk.made.alloc _
    have n4 : Blk ((w1.alloc (.cells #[.pointer (some ⟨b, 0, none⟩)] 79)).alloc (.cells #[.int .i64 0] 3)) (w1.heap.size + 1) 3 #[.int .i64 0] := Blk.made' (by simp)
    have hB2 : Below w1.heap.size w1 ((w1.alloc (.cells #[.pointer (some ⟨b, 0, none⟩)] 79)).alloc (.cells #[.int .i64 0] 3)) := ((Below.refl _ _).alloc (Nat.le_refl _) _).alloc (by simp) _
    generalize ((w1.alloc (.cells #[.pointer (some ⟨b, 0, none⟩)] 79)).alloc (.cells #[.int .i64 0] 3)) = w2 at *
    refine truths_any.mono ?_
    rintro e w3 ⟨p1, rfl, hp1, hp1', e1, hB3⟩
    have hz2 := n4.lt
    have hz3 := hB3.size
    have hB13 := hB2.trans (hB3.mono hB2.size)
    have HL3 := hide (HL.out.still hB13)
    have n1 := HR1.out.next hB13
    have n2 := HR2.out.next hB13
    replace n3 := n3.next hB3
    replace n4 := n4.next hB3
    have HB3 := hide (HB1.out.trans (hB13.mono (by omega)))
    clear hB2 hB3 hB13
    go_wp2_with fail
    refine range_truths (f := f) (A := fun x g => { tmps := #[fileVal f a, .int .i64 (k), .pointer (some ⟨w.heap.size, 0, none⟩), .pointer (some ⟨w.heap.size + 1, 0, none⟩), .slice none 0 0, .int .i64 (0), .pointer (some ⟨w1.heap.size, 0, none⟩), .int .i64 (0), .pointer (some ⟨w1.heap.size + 1, 0, none⟩), .pointer (some ⟨g, 0, none⟩), .tuple #[.pointer (some ⟨b, 0, none⟩), .int .i64 (0)], fileVal f a, .int .i64 (k), .pointer (some ⟨w.heap.size, 2, none⟩), .slice a.A3 f.lots.length a.c3, .int .i64 (f.lots.length), .tuple #[.pointer (some ⟨b, 0, none⟩), .int .i64 (0)], .pointer (some ⟨b, 0, none⟩), .int .i64 (0), .int .i64 (0), .bool false, undef, .pointer (some ⟨b, 0, none⟩), .func (.func 77) #[] #[.pointer (some ⟨p1, 0, none⟩)], plVal x, undef, undef, undef, undef, undef, undef, undef, undef, undef, undef, undef, undef], defers := [] }) rfl rfl HL3.out HV.out (by omega : 0 < 32) e1
      (fun k => k = w1.heap.size + 1) (fun k hk => by omega)
      (fun pre W => Blk W w.heap.size 28 (fileCells f a) ∧ Blk W (w.heap.size + 1) 3 #[.int .i64 k] ∧ Blk W w1.heap.size 79 #[.pointer (some ⟨b, 0, none⟩)] ∧ Blk W (w1.heap.size + 1) 3 #[.int .i64 (whoN f k pre : Nat)]) (fun _ _ _ => False) ?hI (fun _ _ _ _ h _ => h) ?h0 ?hass ?body ?done (fun _ _ _ _ _ _ _ h _ _ _ => h.elim)
    case hI =>
      rintro pre V V' ⟨i1, i2, i3, i4⟩ hk
      exact ⟨i1.keep hk (by omega), i2.keep hk (by omega), i3.keep hk (by omega), i4.keep hk (by omega)⟩
    case h0 => exact ⟨n1, n2, n3, by rw [whoN_nil]; exact n4⟩
    case hass =>
      intro l x W1
      simp only [plVal, iv]
      gi_wp2
    case body =>
      rintro l pre x W3 g hg hl hx0 hx ⟨i1, i2, i3, i4⟩ hLW hp hz4
      have hgz := hp.lt
      have r1 := i3.at_ 0
      have r2 := i4.at_ 0
      have r3 := i2.at_ 0
      have x0 := hp.at_ 0
      have x1 := hp.at_ 1
      have x2 := hp.at_ 2
      have x3 := hp.at_ 3
      simp only [List.getElem?_toArray, List.getElem?_cons_zero, List.getElem?_cons_succ] at r1 r2 r3 x0 x1 x2 x3
      obtain ⟨q, hq, hqp⟩ := with_range HV.out hx hkl
      have HW := hide hq
      have HST := hide (who_step hpl k pre x hq hqp)
      have HLW := hide hLW
      have HI1 := hide i1
      have HI2 := hide i2
      have HI3 := hide i3
      have HI4 := hide i4
      have hwz : w1.heap.size + 1 < W3.heap.size := i4.lt
      clear i1 i2 i3 i4 hLW hp hq
      refine wpIn_block ?_
      refine wpIn_round_rel (dst := fun i => [25, 26, 27, 28, 29, 30, 31, 0].getD i 0) (mono := fun i => decide (i < 7)) (pre := fun i => decide (i < 7)) (R := LKeep (fun k => k = bm) (fun W => Known W bm (paidV f)))
        (Pv := fun i v W => match i with
          | 0 => v = .int .i64 (whoN f k pre : Nat)
          | 1 => v = .pointer (some ⟨b, 0, none⟩)
          | 2 => v = .agg #[.int .i64 (nth x 0), .int .i64 (nth x 1), .int .i64 (nth x 2), .int .i64 (nth x 3)]
          | 3 => v = .int .i64 (k : Nat)
          | 4 => v = .int .i64 (q : Nat)
          | 5 => v = .int .i64 (wrap64 (2 ^ q))
          | 6 => v = .int .i64 (whoN f k (pre ++ [x]) : Nat)
          | _ => True) (by kernel_rfl) (by kernel_rfl) (by rintro ⟨a, w, h⟩; exact h) (by kernel_rfl) (LKeep.refl _ _) (fun _ _ _ h h' => h.trans h') ?hst ?hstep ?hend
      case hst =>
        intro i v W W' h hk
        match i, h with
        | 0, h => exact h
        | 1, h => exact h
        | 2, h => exact h
        | 3, h => exact h
        | 4, h => exact h
        | 5, h => exact h
        | 6, h => exact h
        | i + 7, h => exact trivial
      case hstep =>
        intro i hi hm listed vs a W hU hk0 hpv haft K hK
        have hkk := (LKeep.drew (fun k => k = bm) (M := fun W => Known W bm (paidV f)) W3 (fun h => h)).trans hk0
        have hk := hkk.1
        have hkm := hkk.2
        clear hkk
        match i, hi, hm with
        | 0, hi, hm =>
          have z8 : a.tmps[8]?.getD undef = .pointer (some ⟨w1.heap.size + 1, 0, none⟩) := hU.same 8 (by decide)
          have y0 := (hk.cell (b := w1.heap.size + 1) (o := 0) (by omega) (by omega)).trans (r2)
          refine wpOp_value (v := .int .i64 (whoN f k pre : Nat)) (W' := W) rfl rfl ?_ (hK _ _ (LKeep.refl _ _ _) rfl)
          go_simp
        | 1, hi, hm =>
          have z6 : a.tmps[6]?.getD undef = .pointer (some ⟨w1.heap.size, 0, none⟩) := hU.same 6 (by decide)
          have y0 := (hk.cell (b := w1.heap.size) (o := 0) (by omega) (by omega)).trans (r1)
          refine wpOp_value (v := .pointer (some ⟨b, 0, none⟩)) (W' := W) rfl rfl ?_ (hK _ _ (LKeep.refl _ _ _) rfl)
          go_simp
        | 2, hi, hm =>
          have z9 : a.tmps[9]?.getD undef = .pointer (some ⟨g, 0, none⟩) := hU.same 9 (by decide)
          have y0 := (hk.cell (b := g) (o := 0) (hgz) (by omega)).trans (x0)
          have y1 := (hk.cell (b := g) (o := 1) (hgz) (by omega)).trans (x1)
          have y2 := (hk.cell (b := g) (o := 2) (hgz) (by omega)).trans (x2)
          have y3 := (hk.cell (b := g) (o := 3) (hgz) (by omega)).trans (x3)
          refine wpOp_value (v := .agg #[.int .i64 (nth x 0), .int .i64 (nth x 1), .int .i64 (nth x 2), .int .i64 (nth x 3)]) (W' := W) rfl rfl ?_ (hK _ _ (LKeep.refl _ _ _) rfl)
          go_simp
        | 3, hi, hm =>
          have z3 : a.tmps[3]?.getD undef = .pointer (some ⟨w.heap.size + 1, 0, none⟩) := hU.same 3 (by decide)
          have y0 := (hk.cell (b := w.heap.size + 1) (o := 0) (by omega) (by omega)).trans (r3)
          refine wpOp_value (v := .int .i64 (k : Nat)) (W' := W) rfl rfl ?_ (hK _ _ (LKeep.refl _ _ _) rfl)
          go_simp
        | 4, hi, hm =>
          have l1 := haft _ rfl { on := 1, ground := .data } (by simp) rfl
          have hv1 : vs 1 = .pointer (some ⟨b, 0, none⟩) := hpv 1 l1
          have s1 : a.tmps[26]?.getD undef = vs 1 := hU.slot 1 (by decide) l1
          rw [hv1] at s1
          have l2 := haft _ rfl { on := 2, ground := .data } (by simp) rfl
          have hv2 : vs 2 = .agg #[.int .i64 (nth x 0), .int .i64 (nth x 1), .int .i64 (nth x 2), .int .i64 (nth x 3)] := hpv 2 l2
          have s2 : a.tmps[27]?.getD undef = vs 2 := hU.slot 2 (by decide) l2
          rw [hv2] at s2
          have l3 := haft _ rfl { on := 3, ground := .data } (by simp) rfl
          have hv3 : vs 3 = .int .i64 (k : Nat) := hpv 3 l3
          have s3 : a.tmps[28]?.getD undef = vs 3 := hU.slot 3 (by decide) l3
          rw [hv3] at s3
          refine wpOp_enter (f := 50) (args := #[.pointer (some ⟨b, 0, none⟩), .agg #[.int .i64 (nth x 0), .int .i64 (nth x 1), .int .i64 (nth x 2), .int .i64 (nth x 3)], .int .i64 (k : Nat)]) (W' := W) rfl rfl ?_ (((withG_any (HLW.out.keep hk (fun k h => .inl h) (hkm HLW.out.k)) HV.out hx hkl).mono (fun e w h => by rw [HW.out] at h; exact h)).mono (fun e w'' h => ?_))
          · go_simp
          · obtain ⟨he, hbw⟩ := h
            exact ⟨_, he, hK _ _ (LKeep.below hbw (fun h => h.keep (Keep.of_below' hbw (fun _ => False)) (fun h => h))) rfl⟩
        | 5, hi, hm =>
          have l4 := haft _ rfl { on := 4, ground := .data } (by simp) rfl
          have hv4 : vs 4 = .int .i64 (q : Nat) := hpv 4 l4
          have s4 : a.tmps[29]?.getD undef = vs 4 := hU.slot 4 (by decide) l4
          rw [hv4] at s4
          have hq0 : (0 : Int) ≤ (q : Int) := Int.natCast_nonneg _
          refine wpOp_value (v := .int .i64 (wrap64 (2 ^ q))) (W' := W) rfl rfl ?_ (hK _ _ (LKeep.refl _ _ _) rfl)
          go_simp
          exact IntWalk.i64_left _
        | 6, hi, hm =>
          have l0 := haft _ rfl { on := 0, ground := .data } (by simp) rfl
          have hv0 : vs 0 = .int .i64 (whoN f k pre : Nat) := hpv 0 l0
          have s0 : a.tmps[25]?.getD undef = vs 0 := hU.slot 0 (by decide) l0
          rw [hv0] at s0
          have l5 := haft _ rfl { on := 5, ground := .data } (by simp) rfl
          have hv5 : vs 5 = .int .i64 (wrap64 (2 ^ q)) := hpv 5 l5
          have s5 : a.tmps[30]?.getD undef = vs 5 := hU.slot 5 (by decide) l5
          rw [hv5] at s5
          have hbe := HST.out
          refine wpOp_value (v := .int .i64 (whoN f k (pre ++ [x]) : Nat)) (W' := W) rfl rfl ?_ (hK _ _ (LKeep.refl _ _ _) rfl)
          go_simp
        | i + 7, hi, hm => exact absurd (of_decide_eq_true hm) (by omega)
      case hend =>
        intro listed vs a W hG hk0 hpv hpre
        have hkk := (LKeep.drew (fun k => k = bm) (M := fun W => Known W bm (paidV f)) W3 (fun h => h)).trans hk0
        have hk := hkk.1
        have hkm := hkk.2
        clear hkk
        have hact := hG.act
        have hT := hG.lst hpre 0 #[true, true, true, true, true, true, true, false] rfl (by kernel_rfl) (hpre 0 (by decide) (by decide))
        rw [hG.ix hT (l := [0, 1, 2, 3, 4, 5, 6]) (by kernel_rfl)] at hact
        rw [hG.lo hT (k := 1) (by kernel_rfl)]
        have hv0 : vs 0 = .int .i64 (whoN f k pre : Nat) := hpv 0 (hpre 0 (by decide) (by decide))
        have hv1 : vs 1 = .pointer (some ⟨b, 0, none⟩) := hpv 1 (hpre 1 (by decide) (by decide))
        have hv2 : vs 2 = .agg #[.int .i64 (nth x 0), .int .i64 (nth x 1), .int .i64 (nth x 2), .int .i64 (nth x 3)] := hpv 2 (hpre 2 (by decide) (by decide))
        have hv3 : vs 3 = .int .i64 (k : Nat) := hpv 3 (hpre 3 (by decide) (by decide))
        have hv4 : vs 4 = .int .i64 (q : Nat) := hpv 4 (hpre 4 (by decide) (by decide))
        have hv5 : vs 5 = .int .i64 (wrap64 (2 ^ q)) := hpv 5 (hpre 5 (by decide) (by decide))
        have hv6 : vs 6 = .int .i64 (whoN f k (pre ++ [x]) : Nat) := hpv 6 (hpre 6 (by decide) (by decide))
        clear hpv hpre hG hk0
        obtain rfl : a = _ := hact
        subst hT
        simp only [setAll, List.setIfInBounds_toArray, List.set_cons_succ, List.set_cons_zero, List.getD_cons_succ, List.getD_cons_zero]
        simp only [hv0, hv1, hv2, hv3, hv4, hv5, hv6]
        clear hv0 hv1 hv2 hv3 hv4 hv5 hv6
        have n2 := HI4.out.keep hk (by omega)
        have r2' := n2.at_ 0
        have f2 := n2.free 0
        simp only [List.getElem?_toArray, List.getElem?_cons_zero] at r2'
        refine wpAny_all (rs := [7]) (by kernel_rfl) (by simp) ?_
        intro i2 hi2
        obtain rfl : i2 = 7 := by simpa using hi2
        refine wpOp_skip (W' := W.setCell ⟨w1.heap.size + 1, 0, none⟩ (.int .i64 (whoN f k (pre ++ [x]) : Nat))) rfl rfl ?_ ?_
        · go_simp
        refine wpAny_done (by kernel_rfl) ?_ _
        have hs : Keep (fun k => k = w1.heap.size + 1) W (W.setCell ⟨w1.heap.size + 1, 0, none⟩ (.int .i64 (whoN f k (pre ++ [x]) : Nat))) := Keep.setCell _ _ _ _ rfl
        have b2 : Blk (W.setCell ⟨w1.heap.size + 1, 0, none⟩ (.int .i64 (whoN f k (pre ++ [x]) : Nat))) (w1.heap.size + 1) 3 #[.int .i64 (whoN f k (pre ++ [x]) : Nat)] := n2.store 0 _
        generalize W.setCell ⟨w1.heap.size + 1, 0, none⟩ (.int .i64 (whoN f k (pre ++ [x]) : Nat)) = W4 at *
        have hn := HLW.out.keep hk (fun k h => .inl h) (hkm HLW.out.k)
        exact ⟨(hk.mono (fun k _ h => .inl h)).trans (hs.mono (fun k _ h => .inr h)), (hn.keep' hs (fun k h => by omega)).k, (HI1.out.keep hk (by omega)).keep hs (by omega), (HI2.out.keep hk (by omega)).keep hs (by omega), (HI3.out.keep hk (by omega)).keep hs (by omega), b2⟩
    case done =>
      rintro D W' hD ⟨i1, i2, i3, i4⟩ hLW hk hd
      have HMS : Hid (MarksOk 0 [{ target := .collected D, args := #[] }] W') := ⟨⟨D, Nat.zero_le _, rfl, hd, by simp⟩, trivial⟩
      have hbw : Below w.heap.size w W' := HB3.out.trans (hk.below (fun k h => by omega) (by have := HB3.out.size; omega))
      have hDlt : D < W'.heap.size := HMS.out.lt (by simp)
      have r1 := i1.at_ 0
      have r4 := i4.at_ 0
      simp only [fileCells, List.getElem?_toArray, List.getElem?_cons_zero] at r1 r4
      have hz4 := i4.lt
      have HBW := hide hbw
      clear hk hd hLW hbw
      go_wp2_with (go_at_call 51; refine (list_any (set := whoN f k (truthsB f 0)) (bitsN_32 _ (by omega)) (by omega) _).mono ?_; rintro e w5 ⟨gl, cl, rfl, hi, hgl, hb5⟩)
      refine leaves_marks2 (B := 0) (HMS.out.keep (Keep.of_below' hb5 (fun _ => False)) (fun _ h => h.elim)) (fun w' hkw' => ?_)
      have hbe : Below w.heap.size w w' := (HBW.out.trans (hb5.mono HBW.out.size)).trans (hkw'.below (fun k h => by simp at h; omega) (by have := HBW.out.size; have := hb5.size; omega))
      refine ⟨.tuple #[.slice (some ⟨gl, 0, none⟩) (listN (whoN f k (truthsB f 0)) f.parties.length).length cl, .int .i64 0], by simp [results, Try.results10, go_sem], some ⟨gl, 0, none⟩, cl, ?_, ?_, hbe⟩
      · rw [HX.out, who_list]
      · rw [HX.out, ← who_list]
        exact hi.stab hkw'.size (fun b o hb e _ => by simp only [Option.some.injEq, Addr.mk.injEq] at e; exact hkw'.block b hb (fun h => by simp at h; omega))
  · have HX := hide (show whoV f lot = ([], enterE f lot f.lots.length 0) by rw [whoV, if_neg hE])
    generalize hEE : enterE f lot f.lots.length 0 = E at *
    have HEE := hide hEE
    have HNE := hide hE
    have HNB : Hid ((E != 0) = true) := by show (E != 0) = true; simpa using hE
    have hnb : (E != 0) = true := HNB.out
    have HB1 := hide (HB0.out.trans (hB1.mono HB0.out.size))
    clear hEE hE hB1
    go_wp2_with fail
    refine leaves_marks2 (B := 0) (ds := []) trivial (fun w' hkw' => ?_)
    refine ⟨.tuple #[.slice none 0 0, .int .i64 E], by simp [results, Try.results10, go_sem], none, 0, ?_, ?_, ?_⟩
    · rw [HX.out]; rfl
    · rw [HX.out]; exact IntsS.nil_
    · exact HB1.out.trans (((Below.refl w1.heap.size w1).alloc (Nat.le_refl _) _).mono HB1.out.size |>.trans (hkw'.below (fun k h => by simp at h) (by have := HB1.out.size; simp; omega)))
end Go.Proofs.Ytllmahcanipcpaa
/- The contracts of claim's Pays and Held. -/
namespace Go.Proofs.Ytllmahcanipcpaa
open Go.RowKit
attribute [local go_sem ↓] Go.wp_at_zero Go.wp_at_succ
attribute [local go_sem] Oper.semAt_some

def told3 (T : List (List Int)) (q : List Int → Bool) : Int := if T.all q then 1 else if T.any q then 0 else 2
def payV (f : File) (n : Int) : Int × Int := if enterE f n f.claims.length 0 = 0 then (told3 (truthsB f 0) (fun p => paidB f p n.toNat), 0) else (0, enterE f n f.claims.length 0)
def heldL (f : File) : List Nat := (List.range f.claims.length).filter fun i => (truthsB f 0).any (fun p => paidB f p i) && !(truthsB f 0).all (fun p => paidB f p i)
def heldV (f : File) : List Nat × Int := if enterE f 0 1 0 = 0 then (heldL f, 0) else ([], enterE f 0 1 0)
theorem some_ne {f : File} {but : Nat} (h : someB f but = true) : truthsB f but ≠ [] := by
  intro e; rw [someB, e] at h; cases h
def sureN (f : File) (T : List (List Int)) : Nat := bitsN (fun i => T.all fun p => paidB f p i) f.claims.length
theorem sureI_eq {f : File} {T : List (List Int)} (h : T ≠ []) : sureI f T = (sureN f T : Nat) := if_neg h
theorem sureN_test (f : File) (T : List (List Int)) {i : Nat} (hi : i < f.claims.length) : (sureN f T).testBit i = T.all fun p => paidB f p i := by rw [sureN, bitsN_test, decide_eq_true hi, Bool.true_and]
theorem mayN_test (f : File) (T : List (List Int)) {i : Nat} (hi : i < f.claims.length) : (mayN f T).testBit i = T.any fun p => paidB f p i := by rw [mayN, bitsN_test, decide_eq_true hi, Bool.true_and]
set_option maxRecDepth 100000 in
theorem bits_andNot {m k : Nat} (hm : m < 32) (hk : k < 32) : bits BinOp.andNot .i64 (m : Int) (k : Int) = ((m ^^^ (m &&& k) : Nat) : Int) := by
  have h : ∀ m : Fin 32, ∀ j : Fin 32, bits BinOp.andNot .i64 ((m : Nat) : Int) ((j : Nat) : Int) = (((m : Nat) ^^^ ((m : Nat) &&& (j : Nat)) : Nat) : Int) := of_decide_eq_true (by kernel_rfl)
  exact h ⟨m, hm⟩ ⟨k, hk⟩
theorem bitsN_diff (q r : Nat → Bool) (n : Nat) : bitsN q n ^^^ (bitsN q n &&& bitsN r n) = bitsN (fun i => q i && !r i) n := bitsN_ext fun i => by
  rw [Nat.testBit_xor, Nat.testBit_and, bitsN_test, bitsN_test]; cases decide (i < n) <;> cases q i <;> cases r i <;> rfl
set_option maxHeartbeats 4000000 in
set_option maxRecDepth 100000 in
theorem pays_any {w : World} {f : File} {a : FA} (h : FileV w w.heap.size f a) (n : Int) :
    Calls Try.prog 16 #[fileVal f a, .int .i64 n] w fun e w' => e = .returned (.tuple #[.int .i64 (payV f n).1, .int .i64 (payV f n).2]) ∧ Below w.heap.size w w' := by
  have hB0 : Below w.heap.size w (w.alloc (.cells (fileCells f a) 28)) := (Below.refl _ _).alloc (Nat.le_refl _) _
  have HC0 := hide (h.next hB0)
  have HB0 := hide hB0
  clear h hB0
  go_enter Try.func16, Try.ntmps16
  go_wp2_with fail
  generalize (w.alloc (.cells (fileCells f a) 28)) = w0 at *
  refine (enter_any HC0.out n _ 0 (by have := HC0.out.m5; unfold maxLen at this; omega)).mono ?_
  rintro e w1 (⟨hE, hv, b, bm, rfl, hbb, hbm, hL, hB1⟩ | ⟨hE, rfl, hB1⟩)
  · obtain ⟨hl0, hl1, -, hso⟩ := enter_in hE
    have hne := some_ne hso
    have HX := hide (show payV f n = (told3 (truthsB f 0) (fun p => paidB f p n.toNat), 0) by rw [payV, if_pos hE])
    obtain ⟨k, rfl⟩ : ∃ k : Nat, n = (k : Int) := ⟨n.toNat, by omega⟩
    rw [Int.toNat_natCast] at HX
    have hkl : k < f.claims.length := by omega
    have hcl := hv.claims
    have h5 : k < 5 := by omega
    have hb1 := bits_and (m := sureN f (truthsB f 0)) (bitsN_32 _ hcl) h5
    have hb2 := bits_and (m := mayN f (truthsB f 0)) (bitsN_32 _ hcl) h5
    rw [sureN_test _ _ hkl] at hb1
    rw [mayN_test _ _ hkl] at hb2
    have hk0 : (0 : Int) ≤ (k : Int) := Int.natCast_nonneg _
    have HSE := hide (sureI_eq (f := f) hne)
    generalize sureN f (truthsB f 0) = sn at *
    have HST := hide (fsettled_any (but := 0) hL hv (by omega))
    generalize mayN f (truthsB f 0) = mn at *
    rw [HSE.out] at HST
    have HB1 := hide (HB0.out.trans (hB1.mono HB0.out.size))
    have hz : b < w1.heap.size := hL.hb
    clear hE hB1 hso hne hL HSE
    unfold told3 at HX
    cases ha : (truthsB f 0).all (fun p => paidB f p k) with
    | true =>
      rw [ha] at hb1 HX
      simp only [if_true] at hb1 HX
      go_wp2_with (go_at_call 58; refine HST.out.mono ?_; rintro e w2 ⟨rfl, hk2, -⟩)
      go_ret2
      exact ⟨by rw [HX.out]; rfl, HB1.out.trans (hk2.below (fun k h => by have := HB0.out.size; omega) HB1.out.size)⟩
    | false =>
      rw [ha] at hb1 HX
      cases hy : (truthsB f 0).any (fun p => paidB f p k) with
      | true =>
        rw [hy] at hb2 HX
        simp only [Bool.false_eq_true, if_false, if_true] at hb1 hb2 HX
        go_wp2_with (go_at_call 58; refine HST.out.mono ?_; rintro e w2 ⟨rfl, hk2, -⟩)
        go_ret2
        exact ⟨by rw [HX.out]; rfl, HB1.out.trans (hk2.below (fun k h => by have := HB0.out.size; omega) HB1.out.size)⟩
      | false =>
        rw [hy] at hb2 HX
        simp only [Bool.false_eq_true, if_false] at hb1 hb2 HX
        go_wp2_with (go_at_call 58; refine HST.out.mono ?_; rintro e w2 ⟨rfl, hk2, -⟩)
        go_ret2
        exact ⟨by rw [HX.out]; rfl, HB1.out.trans (hk2.below (fun k h => by have := HB0.out.size; omega) HB1.out.size)⟩
  · have HX := hide (show payV f n = (0, enterE f n f.claims.length 0) by rw [payV, if_neg hE])
    generalize hEE : enterE f n f.claims.length 0 = E at *
    have hnb : (E != 0) = true := by simpa using hE
    have HB1 := hide (HB0.out.trans (hB1.mono HB0.out.size))
    clear hEE hE hB1
    go_wp2_with fail
    go_ret2
    exact ⟨by rw [HX.out]; rfl, HB1.out⟩
set_option maxHeartbeats 4000000 in
set_option maxRecDepth 100000 in
theorem held_any {w : World} {f : File} {a : FA} (h : FileV w w.heap.size f a) :
    Calls Try.prog 17 #[fileVal f a] w fun e w' => ∃ A cp, e = .returned (.tuple #[.slice A (heldV f).1.length cp, .int .i64 (heldV f).2]) ∧ IntsS w' w'.heap.size A (heldV f).1.length cp (natInts (heldV f).1) ∧ Below w.heap.size w w' := by
  have hB0 : Below w.heap.size w (w.alloc (.cells (fileCells f a) 28)) := (Below.refl _ _).alloc (Nat.le_refl _) _
  have q1 : Blk (w.alloc (.cells (fileCells f a) 28)) w.heap.size 28 (fileCells f a) := Blk.made
  have HC0 := hide (h.next hB0)
  have HB0 := hide hB0
  have HQ1 := hide q1
  clear h hB0 q1
  go_enter Try.func17, Try.ntmps17
  go_wp2_with fail
  generalize (w.alloc (.cells (fileCells f a) 28)) = w0 at *
  have hz0 := HQ1.out.lt
  refine (enter_any HC0.out 0 1 0 (by omega)).mono ?_
  rintro e w1 (⟨hE, hv, b, bm, rfl, hbb, hbm, hL, hB1⟩ | ⟨hE, rfl, hB1⟩)
  · obtain ⟨hl0, hl1, -, hso⟩ := enter_in hE
    have hne := some_ne hso
    have HX := hide (show heldV f = (heldL f, 0) by rw [heldV, if_pos hE])
    have hcl := hv.claims
    have hb1 := bits_andNot (m := mayN f (truthsB f 0)) (k := sureN f (truthsB f 0)) (bitsN_32 _ hcl) (bitsN_32 _ hcl)
    have HLI := hide (show listN (mayN f (truthsB f 0) ^^^ (mayN f (truthsB f 0) &&& sureN f (truthsB f 0))) f.claims.length = heldL f by rw [mayN, sureN, bitsN_diff, listN_bits]; rfl)
    have HLT : Hid (mayN f (truthsB f 0) ^^^ (mayN f (truthsB f 0) &&& sureN f (truthsB f 0)) < 32) := by show _ < 32; rw [mayN, sureN, bitsN_diff]; exact bitsN_32 _ hcl
    have HSE := hide (sureI_eq (f := f) hne)
    generalize sureN f (truthsB f 0) = sn at *
    have HST := hide (fsettled_any (but := 0) hL hv (by omega))
    generalize mayN f (truthsB f 0) = mn at *
    rw [HSE.out] at HST
    generalize mn ^^^ (mn &&& sn) = dn at *
    have hB01 := HB0.out.trans (hB1.mono HB0.out.size)
    have HR1 := hide (HQ1.out.next hB1)
    have hz1 := hB1.size
    have hz : b < w1.heap.size := hL.hb
    have hbmz := hL.hm
    have HB1 := hide hB01
    clear hE hB1 hso hne hL HSE hB01
    go_upto_region 5 with (go_at_call 58; refine HST.out.mono ?_; rintro e w2 ⟨rfl, hk2, -⟩)
    have n1 := HR1.out.keep hk2 (by omega)
    have p4 := n1.at_ 4
    simp only [fileCells, List.getElem?_toArray, List.getElem?_cons_zero, List.getElem?_cons_succ] at p4
    have HB2 := hide (HB1.out.trans (hk2.below (fun k h => by omega) HB1.out.size))
    have hz2 := n1.lt
    clear hk2 n1
    go_wp2_with (go_at_call 51; refine (list_any HLT.out hcl _).mono ?_; rintro e w5 ⟨gl, cl, rfl, hi, hgl, hb5⟩)
    go_ret2
    exact ⟨_, cl, by rw [HX.out, ← HLI.out]; rfl, by rw [HX.out, ← HLI.out]; exact hi, HB2.out.trans (hb5.mono HB2.out.size)⟩
  · have HX := hide (show heldV f = ([], enterE f 0 1 0) by rw [heldV, if_neg hE])
    generalize hEE : enterE f 0 1 0 = E at *
    have hnb : (E != 0) = true := by simpa using hE
    have HB1 := hide (HB0.out.trans (hB1.mono HB0.out.size))
    clear hEE hE hB1
    go_wp2_with fail
    go_ret2
    exact ⟨none, 0, by rw [HX.out]; rfl, by rw [HX.out]; exact IntsS.nil_, HB1.out⟩
end Go.Proofs.Ytllmahcanipcpaa
