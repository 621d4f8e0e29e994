/- The contract of claim's paid: the claims that are paid, as bits, kept in a map. -/
import Derived.Test.YtllmahcanipcpaaNG
import Derived.Laws.StructEq
import Derived.Laws.Shifts
import Derived.Deep.DeepCutAuto
set_option linter.unusedVariables false
set_option linter.unusedSimpArgs false
namespace Go.Proofs.Ytllmahcanipcpaa
open Go.RowKit
attribute [local go_sem ↓] Go.wp_at_zero Go.wp_at_succ

def paidN (f : File) (s : List Int) : Nat → Nat
  | 0 => 0
  | n + 1 => if paidB f s n then paidN f s n ||| 2 ^ n else paidN f s n
def paidV (f : File) (s : List Int) : Int := (paidN f s f.claims.length : Nat)
theorem paidN_lt (f : File) (s : List Int) : ∀ k, paidN f s k < 2 ^ k
  | 0 => by simp [paidN]
  | k + 1 => by
    have ih := paidN_lt f s k
    rw [paidN]
    split
    · exact Nat.or_lt_two_pow (by rw [Nat.pow_succ]; omega) (Nat.pow_lt_pow_right (by omega) (by omega))
    · rw [Nat.pow_succ]; omega
theorem paidN_32 {f : File} (s : List Int) {k : Nat} (hk : k ≤ 5) : paidN f s k < 32 := Nat.lt_of_lt_of_le (paidN_lt f s k) (Nat.le_trans (Nat.pow_le_pow_right (by omega) hk) (by decide))
set_option maxRecDepth 100000 in
theorem bits_or {m j : Nat} (hm : m < 32) (hj : j < 5) : bits BinOp.or .i64 (m : Int) (wrap64 (2 ^ j)) = ((m ||| 2 ^ j : Nat) : Int) := by
  have h : ∀ m : Fin 32, ∀ j : Fin 5, bits BinOp.or .i64 ((m : Nat) : Int) (wrap64 (2 ^ (j : Nat))) = (((m : Nat) ||| 2 ^ (j : Nat) : Nat) : Int) := of_decide_eq_true (by kernel_rfl)
  exact h ⟨m, hm⟩ ⟨j, hj⟩
/-- Claim i does not come ahead of claim n. -/
def firstAt (f : File) (n i : Nat) : Bool := !((nth f.claims i).lot == (nth f.claims n).lot && (nth f.claims i).against == (nth f.claims n).against && (decide ((nth f.claims i).day < (nth f.claims n).day) || ((nth f.claims i).day == (nth f.claims n).day && decide (i < n))))
def firstTo (f : File) (n k : Nat) : Bool := (List.range k).all (firstAt f n)
theorem firstTo_all (f : File) (n : Nat) : firstTo f n f.claims.length = firstB f n := rfl
theorem firstTo_succ (f : File) (n k : Nat) : firstTo f n (k + 1) = (firstTo f n k && firstAt f n k) := by simp [firstTo, List.range_succ]
theorem firstTo_false {f : File} {n k : Nat} (h : firstAt f n k = false) (hk : k < f.claims.length) : firstB f n = false := by
  rw [← firstTo_all, firstTo, List.all_eq_false]
  exact ⟨k, List.mem_range.2 hk, by simp [h]⟩
theorem paidB_def (f : File) (s : List Int) (n : Nat) : paidB f s n = (withM f s (nth f.claims n).lot.toNat == (nth f.claims n).against && decide ((nth f.claims n).day ≤ nth f.untils (nth f.claims n).against.toNat) && firstB f n) := rfl

set_option maxRecDepth 100000 in
theorem run_eq_claim (a b c d e : Int) (w : World) : (Op.equalIn 10000 52 (.agg #[.int .i64 a, .int .i64 b, .int .i64 c]) (.agg #[.int .i64 d, .int .i64 e, .int .i64 c])).run Try.prog w = .ok (a == d && b == e) w := by
  have hu : Try.prog.underlying 52 = some (.struct (Try.prog.fieldsOf 52)) := by kernel_rfl
  have hs : Try.prog.stoodInHeld 52 = false := by kernel_rfl
  rw [run_equalIn_agg w 9999 52 _ _ hu hs]
  by_cases h1 : a = d
  · subst h1
    by_cases h2 : b = e
    · subst h2; simp [go_sem, Try.underlying52, Try.underlying3]
    · have h2' : (b == e) = false := by simpa using h2
      simp [go_sem, Try.underlying52, Try.underlying3, h2']
  · have h1' : (a == d) = false := by simpa using h1
    simp [go_sem, Try.underlying52, Try.underlying3, h1']
set_option maxHeartbeats 4000000 in
set_option maxRecDepth 100000 in
theorem paid_any {w : World} {L b bm : Nat} {f : File} {a : FA} {but : Int} (h : LookG w L b bm f a but (paidV f)) (hv : Valid f) {s : List Int} (hs : PlB f s) :
    Calls Try.prog 59 #[.pointer (some ⟨b, 0, none⟩), plVal s] w fun e w' => e = .returned (.int .i64 (paidV f s)) ∧ Keep (fun k => k = bm) w w' ∧ Known w' bm (paidV f) := by
  obtain ⟨A1, A2, A3, A4, A5, c1, c2, c3, c4, c5, R, K⟩ := a
  obtain ⟨l0, ok, hlook, hl0⟩ := h.k.look s hs.pl
  have q1 := h.q1
  have q2 := h.q2
  have q4 := h.q4
  have q6 := h.q6
  have hm2 := h.v.m2
  have hm3 := h.v.m3
  have hm5 := h.v.m5
  dsimp only at q1 q2 q4 hm2 hm3 hm5
  unfold maxLen at hm2 hm3 hm5
  have hll := hv.lots
  have hcl := hv.claims
  have hul := hv.untils
  have hpl := hv.parties
  have hlt := h.hb
  have hltm := h.hm
  have hB0 : Below w.heap.size w (w.alloc (.cells #[iv (nth s 0), iv (nth s 1), iv (nth s 2), iv (nth s 3)] 86)) := (Below.refl _ _).alloc (Nat.le_refl _) _
  have bk : Blk (w.alloc (.cells #[iv (nth s 0), iv (nth s 1), iv (nth s 2), iv (nth s 3)] 86)) w.heap.size 86 #[iv (nth s 0), iv (nth s 1), iv (nth s 2), iv (nth s 3)] := Blk.made
  have HG := hide h
  have HV := hide hv
  have HP := hide hs
  clear h hv hs
  simp only [plVal, iv] at *
  go_enter Try.func59, Try.ntmps59
  go_upto_region 1 with (fail)
  generalize (w.alloc (.cells #[.int .i64 (nth s 0), .int .i64 (nth s 1), .int .i64 (nth s 2), .int .i64 (nth s 3)] 86)) = w0 at *
  have hzs := bk.lt
  have HB0 := hide hB0
  have HBK := hide bk
  have p6 := (hB0.cell (p := ⟨b, 6, none⟩) hlt).trans q6
  have s0 := bk.at_ 0
  have s1 := bk.at_ 1
  have s2 := bk.at_ 2
  have s3 := bk.at_ 3
  simp only [List.getElem?_toArray, List.getElem?_cons_zero, List.getElem?_cons_succ] at s0 s1 s2 s3
  have hla : ∀ n, (Instr.lookup 109 (.map (some bm)) (.agg #[.int .i64 (nth s 0), .int .i64 (nth s 1), .int .i64 (nth s 2), .int .i64 (nth s 3)]) true).run Try.prog (w0.drewN n) = .ok (.tuple #[.int .i64 l0, .bool ok]) (w0.drewN n) := fun n => hlook _ (hB0.block bm hltm)
  clear hlook
  go_step3
  go_wp2_with fail
  cases ok with
  | true =>
    have hl := hl0 rfl
    go_quiet (fail)
    go_wp2_with fail
    go_ret
    have hbd : Below w.heap.size w (w0.drewN nq) := below_drewN HB0.out nq
    exact ⟨rfl, Keep.of_below' hbd _, (HG.out.still hbd).k⟩
  | false =>
    clear hl0
    go_quiet (fail)
    clear hla p6 s0 s1 s2 s3
    have hbd : Below w.heap.size w (w0.drewN nq) := below_drewN HB0.out nq
    have hbk : Blk (w0.drewN nq) w.heap.size 86 #[.int .i64 (nth s 0), .int .i64 (nth s 1), .int .i64 (nth s 2), .int .i64 (nth s 3)] := HBK.out
    have hzl : w.heap.size < (w0.drewN nq).heap.size := hbk.lt
    clear HB0 HBK hB0 bk
    generalize w0.drewN nq = wl at *
    have HBD := hide hbd
    have HBK := hide hbk
    have HF := hide ((HG.out.v.more HG.out.hL).next hbd)
    have p1 := (hbd.cell (p := ⟨b, 1, none⟩) hlt).trans q1
    have p2 := (hbd.cell (p := ⟨b, 2, none⟩) hlt).trans q2
    have p4 := (hbd.cell (p := ⟨b, 4, none⟩) hlt).trans q4
    have hbl : b < wl.heap.size := by omega
    clear hbd hbk q1 q2 q4
    go_wp2_with fail
    go_step3
    go_wp2_with fail
    go_loopw [4, 7, 8, 9, 10, 11, 29] (fun v4 _ _ _ _ _ v29 wr => ∃ i : Nat, i ≤ f.claims.length ∧ v29 = .int .i64 i ∧ v4 = .int .i64 (paidN f s i : Nat) ∧ Below wl.heap.size wl wr) (fun _ _ _ _ _ _ v29 _ => f.claims.length - (intOf v29).toNat)
    case atStart => exact ⟨0, Nat.zero_le _, rfl, rfl, Below.refl _ _⟩
    case round =>
      obtain ⟨i, hi, rfl, rfl, hB⟩ := hrel
      obtain ⟨k1, f1⟩ := bcell hB
      have hzr := hB.size
      have HB := hide hB
      have hbr : b < wr.heap.size := by omega
      clear hB
      by_cases hlti : i < f.claims.length
      · have hi0 : (0 : Int) ≤ (i : Int) := Int.natCast_nonneg _
        have hi1 : (i : Int) < (f.claims.length : Int) := by omega
        obtain ⟨bc, oc, hA5, hbc, g0, g1, g2⟩ := HF.out.claims.claims hlti
        dsimp only at hA5
        subst hA5
        have hcv := HV.out.claim i hlti
        have HPD := hide (paidB_def f s i)
        have HPN := hide (show paidN f s (i + 1) = if paidB f s i then paidN f s i ||| 2 ^ i else paidN f s i from rfl)
        have hbcr : bc < wr.heap.size := by omega
        go_upto_region 7 with (fail)
        have hbx : Below wl.heap.size wl (wr.alloc (.cells #[.int .i64 (nth f.claims i).lot, .int .i64 (nth f.claims i).against, .int .i64 (nth f.claims i).day] 52)) := HB.out.alloc hzr _
        have bx : Blk (wr.alloc (.cells #[.int .i64 (nth f.claims i).lot, .int .i64 (nth f.claims i).against, .int .i64 (nth f.claims i).day] 52)) wr.heap.size 52 #[.int .i64 (nth f.claims i).lot, .int .i64 (nth f.claims i).against, .int .i64 (nth f.claims i).day] := Blk.made
        generalize (wr.alloc (.cells #[.int .i64 (nth f.claims i).lot, .int .i64 (nth f.claims i).against, .int .i64 (nth f.claims i).day] 52)) = wx at *
        clear k1 f1 g0 g1 g2
        have HFA := hide (fun k => show firstAt f i k = !((nth f.claims k).lot == (nth f.claims i).lot && (nth f.claims k).against == (nth f.claims i).against && (decide ((nth f.claims k).day < (nth f.claims i).day) || ((nth f.claims k).day == (nth f.claims i).day && decide (k < i)))) from rfl)
        have hzx := hbx.size
        have hxl := bx.lt
        have HBX := hide hbx
        have HXK := hide bx
        generalize nth f.claims i = c at *
        obtain ⟨cl, ca, cd⟩ := c
        dsimp only at hcv HPD bx HXK HFA
        obtain ⟨k, rfl⟩ : ∃ k : Nat, cl = (k : Int) := ⟨cl.toNat, by omega⟩
        obtain ⟨q, rfl⟩ : ∃ q : Nat, ca = (q : Int) := ⟨ca.toNat, by omega⟩
        rw [Int.toNat_natCast, Int.toNat_natCast] at HPD
        have hk : k < f.lots.length := by omega
        have hq : q < f.untils.length := by omega
        obtain ⟨m, hm, hmr, hm4⟩ := HP.out.at_ HV.out hk
        have hW : withM f s k = nth (nth f.lots k).route m := by rw [withM, hm, Int.toNat_natCast]
        have hm' : nth [nth s 0, nth s 1, nth s 2, nth s 3] k = (m : Int) := by
          rw [← hm]
          match k, (show k < 4 by omega) with
          | 0, _ => rfl
          | 1, _ => rfl
          | 2, _ => rfl
          | 3, _ => rfl
        have x0 := bx.at_ 0
        have x1 := bx.at_ 1
        have x2 := bx.at_ 2
        have s0 := (hbx.cell (p := ⟨w.heap.size, 0, none⟩) hzl).trans (HBK.out.at_ 0)
        have s1 := (hbx.cell (p := ⟨w.heap.size, 1, none⟩) hzl).trans (HBK.out.at_ 1)
        have s2 := (hbx.cell (p := ⟨w.heap.size, 2, none⟩) hzl).trans (HBK.out.at_ 2)
        have s3 := (hbx.cell (p := ⟨w.heap.size, 3, none⟩) hzl).trans (HBK.out.at_ 3)
        simp only [List.getElem?_toArray, List.getElem?_cons_succ, List.getElem?_cons_zero] at x0 x1 x2 s0 s1 s2 s3
        obtain ⟨bu, ou, hA2, hbu, y0⟩ := HF.out.untils.ints hq
        dsimp only at hA2
        subst hA2
        have y0' := (hbx.cell (p := ⟨bu, ou + q, none⟩) hbu).trans y0
        have r1 := (hbx.cell (p := ⟨b, 1, none⟩) hbl).trans p1
        have r2 := (hbx.cell (p := ⟨b, 2, none⟩) hbl).trans p2
        have hbx' : b < wx.heap.size := by omega
        have hbu' : bu < wx.heap.size := by omega
        have hzw' : w.heap.size < wx.heap.size := by omega
        have hq0 : (0 : Int) ≤ (q : Int) := Int.natCast_nonneg _
        have hq1 : (q : Int) < (f.untils.length : Int) := by omega
        have HFX := hide ((HF.out.below hbx).more hzx)
        have HW := hide hW
        have HM1 := hide hm'
        have HWC : Hid (∀ t : Later wx, Calls Try.prog 50 #[.pointer (some ⟨b, 0, none⟩), .agg #[.int .i64 (nth s 0), .int .i64 (nth s 1), .int .i64 (nth s 2), .int .i64 (nth s 3)], .int .i64 (k : Int)] (grow wx t) fun e w' => e = .returned (.int .i64 (withM f s k)) ∧ Below (grow wx t).heap.size (grow wx t) w') := fun t => by
          rw [HW.out]; exact with_any (HFX.out.next (grow_below (t := t))) ((grow_cell (t := t) b 2 hbx').trans r2) (nth s 0) (nth s 1) (nth s 2) (nth s 3) hk (by omega) HM1.out hmr
        clear hbx bx hm hW hm' y0 r2
        have hgc := @grow_cell
        cases hne : (withM f s k != (q : Int)) with
        | true =>
          have HNE := hide (show (withM f s k == (q : Int)) = false by simpa [bne] using hne)
          refine wp_region_grow (by kernel_rfl) (by kernel_rfl) ?_
          repeat (first | go_big_quiet_step ((first | (go_at_call 50; exact Calls.grow_of (HWC.out _)))) | quiet_step ((first | (go_at_call 50; exact Calls.grow_of (HWC.out _)))))
          refine wpQuiet_nil ?_
          rintro _ ⟨t, rfl⟩
          have hbt := grow_below (w := wx) (t := t)
          have HBT := hide (HBX.out.trans (hbt.mono HBX.out.size))
          have bz := HXK.out.next hbt
          clear hgc hbt s0 s1 s2 s3 x0 x1 x2 y0' r1
          generalize grow wx t = wy at *
          have HX := hide (show paidN f s (i + 1) = paidN f s i by rw [HPN.out, HPD.out, HNE.out]; rfl)
          go_wp2_with fail
          exact ⟨⟨i + 1, by omega, by go_num, by rw [HX.out], HBT.out⟩, by simp [intOf]; omega⟩
        | false =>
          have HNE := hide (show (withM f s k == (q : Int)) = true by simpa [bne] using hne)
          cases hgt : decide (cd > nth f.untils q) with
          | true =>
            have hgt' : nth f.untils q < cd := by simpa using hgt
            have HGT := hide (show decide (cd ≤ nth f.untils q) = false by simpa using hgt')
            refine wp_region_grow (by kernel_rfl) (by kernel_rfl) ?_
            repeat (first | go_big_quiet_step ((first | (go_at_call 50; exact Calls.grow_of (HWC.out _)))) | quiet_step ((first | (go_at_call 50; exact Calls.grow_of (HWC.out _)))))
            refine wpQuiet_nil ?_
            rintro _ ⟨t, rfl⟩
            have hbt := grow_below (w := wx) (t := t)
            have HBT := hide (HBX.out.trans (hbt.mono HBX.out.size))
            have bz := HXK.out.next hbt
            clear hgc hbt s0 s1 s2 s3 x0 x1 x2 y0' r1
            generalize grow wx t = wy at *
            have HX := hide (show paidN f s (i + 1) = paidN f s i by rw [HPN.out, HPD.out, HGT.out]; simp)
            go_wp2_with fail
            exact ⟨⟨i + 1, by omega, by go_num, by rw [HX.out], HBT.out⟩, by simp [intOf]; omega⟩
          | false =>
            have hgt' : ¬ (nth f.untils q < cd) := by simpa using hgt
            have HGT := hide (show decide (cd ≤ nth f.untils q) = true by simp; omega)
            refine wp_region_grow (by kernel_rfl) (by kernel_rfl) ?_
            repeat (first | go_big_quiet_step ((first | (go_at_call 50; exact Calls.grow_of (HWC.out _)))) | quiet_step ((first | (go_at_call 50; exact Calls.grow_of (HWC.out _)))))
            refine wpQuiet_nil ?_
            rintro _ ⟨t, rfl⟩
            have hbt := grow_below (w := wx) (t := t)
            have HBT := hide (HBX.out.trans (hbt.mono HBX.out.size))
            have bz := HXK.out.next hbt
            have r4 := (HBT.out.cell (p := ⟨b, 4, none⟩) hbl).trans p4
            clear hgc s0 s1 s2 s3 x0 x1 x2 y0' r1
            have hzy := HBT.out.size
            have hzt := hbt.size
            generalize grow wx t = wy at *
            go_wp2_with fail
            obtain ⟨wa, rfl⟩ : ∃ wa : World, wa = wr := ⟨_, rfl⟩
            go_loopw [9, 10, 11, 62] (fun _ _ _ v62 wr => ∃ j : Nat, j ≤ f.claims.length ∧ v62 = .int .i64 j ∧ Hid (firstTo f i j = true) ∧ Below wy.heap.size wy wr) (fun _ _ _ v62 _ => f.claims.length - (intOf v62).toNat)
            case atStart => exact ⟨0, Nat.zero_le _, rfl, hide rfl, Below.refl _ _⟩
            case round =>
              obtain ⟨j, hj, rfl, HFO, hB2⟩ := hrel
              obtain ⟨k2, f2⟩ := bcell hB2
              have hz2 := hB2.size
              have HB2 := hide hB2
              have hzb := bz.lt
              have z0 : wy.cell? ⟨wa.heap.size, 0, none⟩ = some (.int .i64 (k : Int)) := bz.at_ 0
              have z1 : wy.cell? ⟨wa.heap.size, 1, none⟩ = some (.int .i64 (q : Int)) := bz.at_ 1
              have z2 : wy.cell? ⟨wa.heap.size, 2, none⟩ = some (.int .i64 cd) := bz.at_ 2
              clear hB2
              have hj0 : (0 : Int) ≤ (j : Int) := Int.natCast_nonneg _
              by_cases hltj : j < f.claims.length
              · have hj1 : (j : Int) < (f.claims.length : Int) := by omega
                obtain ⟨bd, od, e5, hbd, g0, g1, g2⟩ := HF.out.claims.claims hltj
                dsimp only at e5
                obtain ⟨rfl, rfl⟩ : bc = bd ∧ oc = od := by simpa using e5
                have g0' := (HBT.out.cell (p := ⟨bc, oc + j * 3, none⟩) hbd).trans g0
                have g1' := (HBT.out.cell (p := ⟨bc, oc + j * 3 + 1, none⟩) hbd).trans g1
                have g2' := (HBT.out.cell (p := ⟨bc, oc + j * 3 + 2, none⟩) hbd).trans g2
                have HFS := hide (firstTo_succ f i j)
                have HFJ := hide (HFA.out j)
                have HFF := hide (fun h => firstTo_false (f := f) (n := i) (k := j) h hltj)
                have hbcy : bc < wy.heap.size := by omega
                have hbcz : bc < wr.heap.size := by omega
                have hrs : wa.heap.size < wr.heap.size := by omega
                have hgt2 : Try.prog.eqGuardType Try.prog.depth 52 = false := by kernel_rfl
                generalize nth f.claims j = x at *
                obtain ⟨xl, xa, xd⟩ := x
                dsimp only at g0' g1' g2' HFJ
                have hEq := run_eq_claim xl xa xd k q
                have hb2 : Below wl.heap.size wl ((wr.alloc (.cells #[.int .i64 xl, .int .i64 xa, .int .i64 xd] 52)).alloc (.cells #[.int .i64 (k : Int), .int .i64 (q : Int), .int .i64 xd] 52)) := ((HBT.out.trans (HB2.out.mono hzy)).alloc (by omega) _).alloc (by simp; omega) _
                have hb3 : Below wy.heap.size wy ((wr.alloc (.cells #[.int .i64 xl, .int .i64 xa, .int .i64 xd] 52)).alloc (.cells #[.int .i64 (k : Int), .int .i64 (q : Int), .int .i64 xd] 52)) := (HB2.out.alloc hz2 _).alloc (by simp; omega) _
                have HB4 := hide hb2
                have HB5 := hide hb3
                clear g0 g1 g2 e5 hb2 hb3
                cases he : (xl == (k : Int) && xa == (q : Int)) with
                | false =>
                  rw [he] at hEq
                  have HX := hide (show firstTo f i (j + 1) = true by rw [HFS.out, HFO.out, HFJ.out, he]; rfl)
                  clear he
                  go_wp2_with fail
                  exact ⟨⟨j + 1, by omega, by go_num, HX, HB5.out⟩, by simp [intOf]; omega⟩
                | true =>
                  rw [he] at hEq
                  have HE := hide he
                  clear he
                  by_cases hd : xd < cd
                  · have HX := hide (show paidN f s (i + 1) = paidN f s i by rw [HPN.out, HPD.out, HFF.out (by rw [HFJ.out, HE.out]; simp [hd])]; simp)
                    go_wp2_with fail
                    exact ⟨⟨i + 1, by omega, by go_num, by rw [HX.out], HB4.out⟩, by simp [intOf]; omega⟩
                  · by_cases hd2 : xd = cd
                    · subst hd2
                      have hdd : (xd == xd) = true := by simp
                      by_cases hji : j < i
                      · have hji' : (j : Int) < (i : Int) := by omega
                        have HX := hide (show paidN f s (i + 1) = paidN f s i by rw [HPN.out, HPD.out, HFF.out (by rw [HFJ.out, HE.out]; simp [hji])]; simp)
                        go_wp2_with fail
                        exact ⟨⟨i + 1, by omega, by go_num, by rw [HX.out], HB4.out⟩, by simp [intOf]; omega⟩
                      · have hji' : ¬ ((j : Int) < (i : Int)) := by omega
                        have HX := hide (show firstTo f i (j + 1) = true by rw [HFS.out, HFO.out, HFJ.out, HE.out]; simp [hji])
                        go_wp2_with fail
                        exact ⟨⟨j + 1, by omega, by go_num, HX, HB5.out⟩, by simp [intOf]; omega⟩
                    · have hdd : (xd == cd) = false := by simpa using hd2
                      have HX := hide (show firstTo f i (j + 1) = true by rw [HFS.out, HFO.out, HFJ.out, HE.out]; simp [hd, hd2])
                      go_wp2_with fail
                      exact ⟨⟨j + 1, by omega, by go_num, HX, HB5.out⟩, by simp [intOf]; omega⟩
              · obtain rfl : j = f.claims.length := by omega
                have hfb : firstB f i = true := by rw [← firstTo_all]; exact HFO.out
                have hor := bits_or (paidN_32 (f := f) s (k := i) (by omega)) (show i < 5 by omega)
                have HX := hide (show paidN f s (i + 1) = paidN f s i ||| 2 ^ i by rw [HPN.out, HPD.out, HNE.out, HGT.out, hfb]; rfl)
                clear hfb
                go_wp2_with fail
                exact ⟨⟨i + 1, by omega, by go_num, by rw [HX.out], HBT.out.trans (HB2.out.mono hzy)⟩, by simp [intOf]; omega⟩
      · obtain rfl : i = f.claims.length := by omega
        have hBr := HBD.out.trans (HB.out.mono (by have := HBD.out.size; omega))
        have hkr : Known wr.drew bm (paidV f) := (HG.out.k.keep (Keep.of_below' hBr (fun _ => False)) (fun h => h)).block rfl
        obtain ⟨wm, hrun, hkn, hgm⟩ := hkr.store s HP.out.pl
        rw [plVal, show iv (paidV f s) = .int .i64 (paidN f s f.claims.length : Nat) from rfl] at hrun
        simp only [iv] at hrun
        have r6 := (hBr.cell (p := ⟨b, 6, none⟩) hlt).trans q6
        have hbk := HBK.out.next (HB.out.mono (Nat.le_refl _))
        have s0 := hbk.at_ 0
        have s1 := hbk.at_ 1
        have s2 := hbk.at_ 2
        have s3 := hbk.at_ 3
        simp only [List.getElem?_toArray, List.getElem?_cons_succ, List.getElem?_cons_zero] at s0 s1 s2 s3
        have hzr' := hbk.lt
        have HKN := hide hkn
        have HKK : Hid (Keep (fun k => k = bm) w wm) := (Keep.of_below' (hBr.drew) _).trans ((Keep.of_grown hgm).mono (fun k _ e => by simpa using e))
        clear hkr hkn hgm hBr hbk k1 f1 p1 p2 p4
        go_upto_region 16 with (fail)
        apply wp_one
        case h =>
          go_region
          all_goals exact ⟨rfl, rfl, rfl⟩
        case hq =>
        go_wp2_with fail
        rw [Exit.noGoto_ret]
        go_ret
        exact ⟨rfl, HKK.out, HKN.out⟩
end Go.Proofs.Ytllmahcanipcpaa
