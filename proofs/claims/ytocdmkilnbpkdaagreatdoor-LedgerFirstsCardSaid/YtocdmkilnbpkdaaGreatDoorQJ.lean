/- Down of the reference. -/
import Derived.Test.YtocdmkilnbpkdaaGreatDoorIA
import Derived.OwnWalkIn
import Derived.Laws.MakeOwn
import Derived.OwnWalk
import Derived.Deep.MidRow
import Derived.TacticsInMore
import Derived.Deep.DeepCutAuto
set_option linter.unusedVariables false
set_option linter.unusedSimpArgs false
namespace Go.Proofs.YtocdmkilnbpkdaaGreatDoor
open Go.RowKit
attribute [local go_sem] Oper.semAt_some

/-- What is told of differences when the first number is i, and the second one j. -/
def difTo (a r o : Nat → Bool) (i j t : Nat) : Bool := a t && ((decide (t < i) && (List.range (100 - t)).any fun m => r m && o (t + m)) || (decide (t = i) && (List.range j).any fun m => r m && o (t + m)))
theorem difTo_zero (a r o : Nat → Bool) : difTo a r o 0 0 = fun _ => false := by
 funext t; simp [difTo]
theorem difTo_hit {a r o : Nat → Bool} {i j : Nat} (ha : a i = true) (h : (r j && o (i + j)) = true) : upS (difTo a r o i j) i true = difTo a r o i (j + 1) := by
 funext t
 unfold upS
 split
 · rename_i e
   subst e
   simp [difTo, ha, List.range_succ, h]
 · rename_i e
   simp [difTo, e]
theorem difTo_miss {a r o : Nat → Bool} {i j : Nat} (h : (r j && o (i + j)) = false) : difTo a r o i (j + 1) = difTo a r o i j := by
 funext t
 by_cases e : t = i
 · subst e
   simp [difTo, List.range_succ, h]
 · simp [difTo, e]
theorem difTo_next {a r o : Nat → Bool} {i j : Nat} (h : a i = false ∨ i + j = 100) : difTo a r o i j = difTo a r o (i + 1) 0 := by
 funext t
 by_cases e : t = i
 · subst e
   rcases h with h | h
   · simp [difTo, h]
   · have h2 : 100 - t = j := by omega
     simp [difTo, h2]
 · have h2 : (t < i + 1) = (t < i) := by rw [eq_iff_iff]; omega
   simp [difTo, e, h2]
theorem difTo_all {a r o : Nat → Bool} {i t : Nat} (h : t < i) : difTo a r o i 0 t = (a t && (List.range (100 - t)).any fun m => r m && o (t + m)) := by
 simp [difTo, h]
theorem sumL_ne {f : Nat → Int} {k : Nat} : ∀ {l : List Nat}, l.Nodup → k ∈ l → sumL f (l.filter fun q => decide (q ≠ k)) = sumL f l - f k
 | [], _, h => by cases h
 | x :: l, hn, hk => by
  have hn2 := List.nodup_cons.1 hn
  rw [List.filter_cons]
  rcases List.mem_cons.1 hk with e | hk
  · subst e
    have : l.filter (fun q => decide (q ≠ k)) = l := List.filter_eq_self.2 fun q hq => by
     have : q ≠ k := fun e => hn2.1 (e ▸ hq)
     simpa using this
    rw [if_neg (by simp), this]; simp only [sumL]; omega
  · have hx : x ≠ k := fun e => hn2.1 (e ▸ hk)
    rw [if_pos (by simpa using hx)]
    simp only [sumL]
    rw [sumL_ne hn2.2 hk]; omega
/-- The hands of the first i steps in truths. -/
def dnTo (b : Book) (but : Nat → Bool) (i k t : Nat) : Bool := decide (k < i) && setOf ((wayOf b).d (cB b but) k) t
theorem rest_eq {b : Book} (hg : Good b) {but : Nat → Bool} (hs : someB b but = true) {i p : Nat} (hk : i ∈ behindB b p) (m : Nat) :
 sumsS (setOf ⟨0, (nth b.steps p).loss⟩) (fun k => setOf ((wayOf b).u (cB b but) k)) ((behindB b p).filter fun q => decide (q ≠ i)) m =
 setOf ⟨sLo ((wayOf b).u (cB b but)) ((wayOf b).kids p) - ((wayOf b).u (cB b but) i).lo, (wayOf b).loss p + sHi ((wayOf b).u (cB b but)) ((wayOf b).kids p) - ((wayOf b).u (cB b but) i).hi⟩ m := by
 have hw := hg.way
 have hn := u_ne hw hs
 rw [behind_kids hg] at hk ⊢
 have hp := kid_gt hw hk
 have hl := hw.loss p (by omega)
 rw [sums_setOf m (show (0 : Int) ≤ (⟨0, (nth b.steps p).loss⟩ : Span).lo ∧ (⟨0, (nth b.steps p).loss⟩ : Span).lo ≤ (⟨0, (nth b.steps p).loss⟩ : Span).hi from ⟨Int.le_refl _, hl.1⟩) fun k hkk => by
  have hkk := (List.mem_filter.1 hkk).1
  exact ⟨(u_pos hw (cB_99 b but) k (kid_gt hw hkk).2).1, hn k (kid_gt hw hkk).2⟩]
 have e1 : sLo ((wayOf b).u (cB b but)) (((wayOf b).kids p).filter fun q => decide (q ≠ i)) = sLo ((wayOf b).u (cB b but)) ((wayOf b).kids p) - ((wayOf b).u (cB b but) i).lo := sumL_ne (kids_nodup _ _) hk
 have e2 : sHi ((wayOf b).u (cB b but)) (((wayOf b).kids p).filter fun q => decide (q ≠ i)) = sHi ((wayOf b).u (cB b but)) ((wayOf b).kids p) - ((wayOf b).u (cB b but) i).hi := sumL_ne (kids_nodup _ _) hk
 rw [e1, e2]
 have e3 : (nth b.steps p).loss = (wayOf b).loss p := rfl
 rw [e3]
 dsimp only
 rw [Int.zero_add, ← Int.add_sub_assoc]
theorem down_eq {b : Book} (hg : Good b) {but : Nat → Bool} (hs : someB b but = true) {i p : Nat} (hi : i ∈ behindB b p) (t : Nat) (ht : t < 100) :
 difTo (setOf ((wayOf b).u (cB b but) i)) (sumsS (setOf ⟨0, (nth b.steps p).loss⟩) (fun k => setOf ((wayOf b).u (cB b but) k)) ((behindB b p).filter fun q => decide (q ≠ i))) (setOf ((wayOf b).d (cB b but) p)) 100 0 t = setOf ((wayOf b).d (cB b but) i) t := by
 have hk := hi
 rw [behind_kids hg] at hk
 rw [difTo_all ht, setOf_d hg.way (cB_99 b but) (u_ne hg.way hs) hk (fun m => rest_eq hg hs hi m)]
theorem take_filter {l : List Nat} {k i : Nat} (h : k < l.length) : (l.take (k + 1)).filter (fun q => decide (q ≠ i)) = (l.take k).filter (fun q => decide (q ≠ i)) ++ (if nth l k = i then [] else [nth l k]) := by
 rw [take_snoc h, List.filter_append]
 congr 1
 by_cases e : nth l k = i
 · rw [if_pos e]; simp [e]
 · rw [if_neg e]; simp [e]

set_option maxHeartbeats 2000000 in
set_option maxRecDepth 100000 in
theorem down12_any {b : Book} {a : BA} {w : World} {A : Option Addr} {n c : Nat} {xs : List Int} (h : BookV w w.heap.size b a) (hg : Good b) (h12 : b.tallies.length ≤ 12) (hx : IntsS w w.heap.size A n c xs) (hs : someB b (hasInt xs ·) = true) :
 Calls Tryz.prog 70 #[bookVal b a, .slice A n c] w fun e w' => ∃ g, e = .returned (.slice (some ⟨g, 0, none⟩) b.steps.length b.steps.length) ∧ w.heap.size ≤ g ∧ SetsB w' g b.steps.length (fun k => setOf ((wayOf b).d (cB b (hasInt xs ·)) k)) ∧ Below w.heap.size w w' := by
 have hz := zero95
 have h6 := hg.six
 have hpos := hg.pos
 have HX := hide (BoxB.made h)
 have HB0 := hide (show Below w.heap.size w (w.alloc (.cells (bookCells b a) 25)) from (Below.refl _ _).alloc (Nat.le_refl _) _)
 have HI0 := hide (hx.next HB0.out)
 obtain ⟨i2, hinf2, hy0, hy1, hy2⟩ := info_parts infoSet
 have hmk : ∀ W : World, (Instr.makeSlice 96 (.int .i64 (b.steps.length : Int)) (.int .i64 (b.steps.length : Int))).run Tryz.prog W = .ok (.slice (some ⟨W.heap.size, 0, none⟩) b.steps.length b.steps.length) (W.alloc (.cells (madeCells (setL fun _ => false).toArray (b.steps.length * 100)) 95)) := fun W => by
  have := run_make (P := Tryz.prog) (w := W) 96 95 i2 _ underSets hinf2 hy0 .i64 .i64 (b.steps.length : Int) (b.steps.length : Int) (by omega) (by omega) (by rw [hy2]; omega) (by omega)
  rw [this, hy1, show (b.steps.length : Int).toNat = b.steps.length by omega]
  rfl
 have HG := hide hg
 have HSM := hide hs
 have HV0 := hide h
 clear h hg hx hs hinf2 hy0 hy1 hy2
 go_enter Tryz.func70, Tryz.ntmps70
 go_upto_region 1 with (fail)
 generalize w.alloc (.cells (bookCells b a) 25) = v at *
 obtain ⟨gz, x0, x1⟩ := HX.out.cells
 have hzv := HB0.out.size
 have hzw := HX.out.k.lt
 go_upto_region 2 with (go_at_call 91; refine (up12_any HX.out.v HG.out h12 HI0.out).mono ?_; rintro e v1 ⟨g, rfl, hgg, hsu, hb1⟩)
 have HX1 := hide (HX.out.next hb1)
 have HB1 := hide (HB0.out.trans (hb1.mono hzv))
 clear gz x0 x1 HX HI0 HB0
 obtain ⟨gz, x0, x1⟩ := HX1.out.cells
 have hzg := hsu.lt
 have hzz1 := hb1.size
 go_upto_region 3 with (fail)
 have hb : Below v1.heap.size v1 (v1.alloc (.cells (madeCells (setL fun _ => false).toArray (b.steps.length * 100)) 95)) := (Below.refl _ _).alloc (Nat.le_refl _) _
 have no : SetsB (v1.alloc (.cells (madeCells (setL fun _ => false).toArray (b.steps.length * 100)) 95)) v1.heap.size b.steps.length (fun _ _ => false) := SetsB.made
 have HX2 := hide (HX1.out.next hb)
 have HB2 := hide (HB1.out.trans (hb.mono HB1.out.size))
 have HU := hide (hsu.next hb)
 have HV2 := hide (HV0.out.below HB2.out)
 generalize (v1.alloc (.cells (madeCells (setL fun _ => false).toArray (b.steps.length * 100)) 95)) = v2 at *
 have hz2 := no.lt
 clear gz x0 x1 hmk hb HX1 HB1 hsu hb1
 generalize v1.heap.size = g2 at *
 have HO := hide no
 clear no
 have hp1 : (0 : Int) < (b.steps.length : Int) := by omega
 have hu0 := HU.out.range hpos
 have ho0 := HO.out.there hpos (setOf ((wayOf b).u (cB b (hasInt xs ·)) 0))
 rw [Nat.zero_mul] at hu0 ho0
 have HU0 := hide hu0
 have HO0 := hide ho0
 clear hu0 ho0
 go_upto_region 4 with (first | (refine wpList_load_mid rfl 95 (.tmp 24) rfl g 0 rfl (setL (setOf ((wayOf b).u (cB b (hasInt xs ·)) 0))) _ (HU0.out) Tryz.underlying95 rfl (size95 _) ?_) | (refine wpList_store_mid rfl 95 (.tmp 26) (.tmp 25) rfl _ _ _ rfl rfl ?h1 ?h2 ?h3 ?_; (case h1 => exact HO0.out); (case h2 => exact size95' _); (case h3 => exact setL_all _)))
 have hpu := HO.out.put hpos (setOf ((wayOf b).u (cB b (hasInt xs ·)) 0))
 have hkp := keepS_set g2 (setL (setOf ((wayOf b).u (cB b (hasInt xs ·)) 0))) 0 v2
 rw [Nat.zero_mul] at hpu
 have HS0 := hide (hpu.ext (t := dnTo b (hasInt xs ·) 1) fun k t hk ht => by
  unfold updS dnTo
  by_cases e : k = 0
  · subst e; rw [if_pos rfl, d_zero HG.out.way]; simp
  · rw [if_neg e]; simp; omega)
 have HK0 := hide hkp
 clear hpu hkp HO HO0 HU0
 generalize v2.setCells g2 0 (setL (setOf ((wayOf b).u (cB b (hasInt xs ·)) 0))) = v3 at *
 go_wp2_with fail
 clear hp1
 go_loopw [7, 8, 9, 10, 11, 12, 13, 14, 27, 28, 29, 30, 31, 32, 33, 34, 35, 36, 37, 38, 39, 40, 41, 42, 43, 44, 45, 46, 47, 48, 49, 50, 51, 52, 53, 54, 55, 56, 57, 58, 59, 60, 61, 62, 63, 64, 65, 66, 67, 68, 69, 70, 71, 72, 73, 74, 75, 76, 77, 78, 79, 80, 81, 82, 83, 84, 85, 86, 87, 88, 89, 90, 91, 92, 93, 94, 95, 96, 97, 98, 99, 100, 101, 102, 103, 104, 105, 106, 107, 108, 109, 110, 111] (fun v7 _ _ _ _ _ _ _ _ _ _ _ _ _ _ _ _ _ _ _ _ _ _ _ _ _ _ _ _ _ _ _ _ _ _ _ _ _ _ _ _ _ _ _ _ _ _ _ _ _ _ _ _ _ _ _ _ _ _ _ _ _ _ _ _ _ _ _ _ _ _ _ _ _ _ _ _ _ _ _ _ _ _ _ _ _ _ _ _ _ _ _ _ wr => ∃ i : Nat, 1 ≤ i ∧ i ≤ b.steps.length ∧ v7 = .int .i64 i ∧ Hid (SetsB wr g2 b.steps.length (dnTo b (hasInt xs ·) i)) ∧ Hid (Keep (fun k => k = g2) v2 wr)) (fun v7 _ _ _ _ _ _ _ _ _ _ _ _ _ _ _ _ _ _ _ _ _ _ _ _ _ _ _ _ _ _ _ _ _ _ _ _ _ _ _ _ _ _ _ _ _ _ _ _ _ _ _ _ _ _ _ _ _ _ _ _ _ _ _ _ _ _ _ _ _ _ _ _ _ _ _ _ _ _ _ _ _ _ _ _ _ _ _ _ _ _ _ _ _ => b.steps.length - (intOf v7).toNat)
 case atStart => exact ⟨1, Nat.le_refl _, by omega, rfl, HS0, HK0⟩
 case round =>
  obtain ⟨i, hi1, hin, rfl, HS, HK⟩ := hrel
  obtain ⟨v4, rfl⟩ : ∃ v4 : World, v4 = wr := ⟨_, rfl⟩
  have hi0 : (0 : Int) ≤ (i : Int) := Int.natCast_nonneg _
  have hz4 := HK.out.size
  have hbl : Below w.heap.size v2 v4 := HK.out.below (fun k hk => by omega) (by omega)
  have HX4 : Hid (BoxB v4 w.heap.size b a) := hide ⟨(HV2.out.below hbl).more (by omega), HX2.out.k.keep HK.out (by omega)⟩
  have HU4 := hide (HU.out.keep HK.out (by omega))
  clear hbl
  by_cases hlt : i < b.steps.length
  · have hil : (i : Int) < (b.steps.length : Int) := by omega
    obtain ⟨hf0, hf1⟩ := HG.out.from_ i (by omega) hlt
    obtain ⟨p, hp⟩ : ∃ p : Nat, (nth b.steps i).from_ = (p : Int) := ⟨(nth b.steps i).from_.toNat, by omega⟩
    have hpi : p < i := by omega
    have hpn : p < b.steps.length := by omega
    have hp0 : (0 : Int) ≤ (p : Int) := Int.natCast_nonneg _
    have hp1 : (p : Int) < (b.steps.length : Int) := by omega
    have hmk : i ∈ behindB b p := List.mem_filter.2 ⟨List.mem_range.2 hlt, by rw [hp]; simp⟩
    have HDE := hide (fun t ht => down_eq HG.out HSM.out hmk t ht)
    have hlo := HG.out.loss p hpn
    have HMK := hide hmk
    obtain ⟨gz, x0, x1⟩ := HX4.out.cells
    obtain ⟨g1, o1, hA1, hg1, s0, s1, s2⟩ := HX4.out.v.steps.steps hlt
    obtain ⟨g1', o1', hA1', hg1', t0, t1, t2⟩ := HX4.out.v.steps.steps hpn
    rw [hA1] at hA1'
    simp only [Option.some.injEq, Addr.mk.injEq, and_true] at hA1'
    obtain ⟨rfl, rfl⟩ := hA1'
    rw [hA1] at x0
    rw [hp] at s1
    generalize (nth b.steps p).loss = lo at *
    clear hA1 s0 s2 t0 t1 hf0 hf1 hp hmk hg1'
    go_upto_region 9 with (first | (go_at_call 98; refine (upTo12_any hlo.1 (by omega) v4).mono ?_; rintro e y1 ⟨rfl, hb1⟩) | (refine wpList_store_mid rfl 95 (.tmp 9) (.tmp 46) rfl _ _ _ rfl rfl ?h1 ?h2 ?h3 ?_; (case h1 => exact SetB.there SetB.made _); (case h2 => exact size95' _); (case h3 => exact setL_all _)))
    have hbx : Below v4.heap.size v4 ((y1.alloc (.cells (setL fun _ => false).toArray 95)).setCells y1.heap.size 0 (setL (setOf ⟨0, lo⟩))) := set_below (hb1.trans ((Below.refl _ _).alloc hb1.size _)) hb1.size (by simp; have := hb1.size; omega)
    have nx : SetB ((y1.alloc (.cells (setL fun _ => false).toArray 95)).setCells y1.heap.size 0 (setL (setOf ⟨0, lo⟩))) y1.heap.size (setOf ⟨0, lo⟩) := SetB.made.whole _
    have HX5 := hide (HX4.out.next hbx)
    have HU5 := hide (HU4.out.next hbx)
    have HS5 := hide (HS.out.next hbx)
    have HK5 := hide (HK.out.trans (Keep.of_below' hbx (fun k => k = g2)))
    have hgx := hb1.size
    generalize ((y1.alloc (.cells (setL fun _ => false).toArray 95)).setCells y1.heap.size 0 (setL (setOf ⟨0, lo⟩))) = v5 at *
    have HN5 := hide nx
    have hz5 := nx.lt
    clear gz x0 x1 s1 t2 hb1 hbx nx HX4 HU4 HS HK
    generalize y1.heap.size = gx at *
    obtain ⟨gz, x0, x1⟩ := HX5.out.cells
    go_upto_region 10 with (go_at_call 44; refine (behind12_any HX5.out.v h6 p).mono ?_; rintro e v6 ⟨lA, lc, rfl, hl, hlf, hb4⟩)
    have HX6 := hide (HX5.out.next hb4)
    have HU6 := hide (HU5.out.next hb4)
    have HS6 := hide (HS5.out.next hb4)
    have HN6 := hide (HN5.out.next hb4)
    have HK6 := hide (HK5.out.trans (Keep.of_below' hb4 (fun k => k = g2)))
    have hz6 := hb4.size
    have HL := hide hl
    have HLF := hide hlf
    clear gz x0 x1 hl hlf hb4 HX5 HU5 HS5 HN5 HK5
    have HME := hide (show ∀ k, k ∈ behindB b p → p < k ∧ k < b.steps.length from fun k hk => by
     rw [behind_kids HG.out p] at hk
     exact kid_gt HG.out.way hk)
    have hbd := behTo_le b p b.steps.length
    change (behindB b p).length ≤ b.steps.length at hbd
    generalize behindB b p = l at *
    go_wp2_with fail
    go_loopw [11, 50, 51, 52, 53, 54, 55, 56, 57, 58, 59, 60, 61, 62, 63, 64, 65, 66, 67, 68, 69, 70] (fun v11 _ _ _ _ _ _ _ _ _ _ _ _ _ _ _ _ _ _ _ _ _ wr => ∃ k : Nat, k ≤ l.length ∧ v11 = .int .i64 (k : Nat) ∧ Hid (SetB wr gx (sumsS (setOf ⟨0, lo⟩) (fun k => setOf ((wayOf b).u (cB b (hasInt xs ·)) k)) ((l.take k).filter fun q => decide (q ≠ i)))) ∧ Hid (Keep (fun k => k = gx) v6 wr)) (fun v11 _ _ _ _ _ _ _ _ _ _ _ _ _ _ _ _ _ _ _ _ _ _ => l.length - (intOf v11).toNat)
    case atStart => exact ⟨0, by omega, rfl, HN6, hide (Keep.refl _ _)⟩
    case round =>
     obtain ⟨k, hk, rfl, HN7, HK7⟩ := hrel
     obtain ⟨v7, rfl⟩ : ∃ v7 : World, v7 = wr := ⟨_, rfl⟩
     have hk0 : (0 : Int) ≤ (k : Int) := Int.natCast_nonneg _
     have HU7 := hide (HU6.out.keep HK7.out (by omega))
     have hz7 := HK7.out.size
     by_cases hltk : k < l.length
     · have hk1 : (k : Int) < ((l.length : Nat) : Int) := by omega
       have HTK := hide (take_filter (i := i) hltk)
       obtain ⟨lb, lof, rfl, hlb, lx⟩ := HL.out.at_ hltk
       rw [natInts_nth hltk] at lx
       have hq := HME.out (nth l k) (nth_mem hltk)
       have lx := (HK7.out.cell (b := lb) (o := lof + k) hlb (fun e => by have := HLF.out _ rfl; simp only at this; omega)).trans lx
       generalize nth l k = q at *
       have hq0 : (0 : Int) ≤ (q : Int) := Int.natCast_nonneg _
       have hq1 : (q : Int) < (b.steps.length : Int) := by omega
       have hzl : lb < v7.heap.size := by omega
       have hzx := HN7.out.lt
       have HQ := hide hq
       by_cases hqi : q = i
       · rw [if_pos hqi, List.append_nil] at HTK
         have hne : ((q : Int) != (i : Int)) = false := by rw [hqi]; simp
         have hne2 : ((q : Int) == (i : Int)) = true := by rw [hqi]; simp
         clear hqi
         go_wp2_with fail
         go_roundw
         case rel => exact ⟨k + 1, by omega, by go_num, hide (by rw [HTK.out]; exact HN7.out), HK7⟩
         case measure => simp [intOf]; omega
       · rw [if_neg hqi] at HTK
         have hne : ((q : Int) != (i : Int)) = true := by simp; omega
         have hne2 : ((q : Int) == (i : Int)) = false := by simp; omega
         have HXE := hide (show sumS (sumsS (setOf ⟨0, lo⟩) (fun k => setOf ((wayOf b).u (cB b (hasInt xs ·)) k)) ((l.take k).filter fun q => decide (q ≠ i))) (setOf ((wayOf b).u (cB b (hasInt xs ·)) q)) = sumsS (setOf ⟨0, lo⟩) (fun k => setOf ((wayOf b).u (cB b (hasInt xs ·)) k)) ((l.take (k + 1)).filter fun q => decide (q ≠ i)) by rw [HTK.out, sums_snoc])
         generalize hX : (sumsS (setOf ⟨0, lo⟩) (fun k => setOf ((wayOf b).u (cB b (hasInt xs ·)) k)) ((l.take k).filter fun q => decide (q ≠ i))) = X at *
         clear hX hqi HTK
         go_upto_region 14 with fail
         refine wp_region_rel4 (dst := fun oi => [62, 63, 64, 65, 66, 67, 68, 69, 70, 3].getD oi 0) (mono := fun oi => decide (oi < 9)) (pre := fun oi => decide (oi < 9)) (R := LKeep (fun _ => False) (fun _ => True))
          (Pv := fun oi v W => match oi with
           | 0 => v = setV (X)
           | 1 => v = .slice (some ⟨g, 0, none⟩) b.steps.length b.steps.length
           | 2 => v = .slice (some ⟨lb, lof, none⟩) l.length lc
           | 3 => v = .int .i64 (k : Nat)
           | 4 => v = .pointer (some ⟨lb, lof + k, none⟩)
           | 5 => v = .int .i64 (q : Nat)
           | 6 => v = .pointer (some ⟨g, q * 100, none⟩)
           | 7 => v = setV (setOf ((wayOf b).u (cB b (hasInt xs ·)) q))
           | 8 => v = setV (sumS (X) (setOf ((wayOf b).u (cB b (hasInt xs ·)) q)))
           | _ => True) (by kernel_rfl) (by kernel_rfl) (LKeep.refl _ _) (fun _ _ _ h h' => h.trans h') ?hsts ?hsteps ?hends
         case hsts =>
          intro oi v W W' h hk
          match oi, h with
          | 0, h => exact h
          | 1, h => exact h
          | 2, h => exact h
          | 3, h => exact h
          | 4, h => exact h
          | 5, h => exact h
          | 6, h => exact h
          | 7, h => exact h
          | 8, h => exact h
          | oi + 9, h => exact trivial
         case hsteps =>
          intro oi hoi hom listed vs ao W hU hk0 hpv haft Ko hK
          have hkk := (LKeep.drew (fun _ => False) (M := fun _ => True) v7 (fun h => h)).trans hk0
          have hk := hkk.1
          have hkm := hkk.2
          clear hkk
          match oi, hoi, hom with
          | 0, hoi, hom =>
           have z9 : ao.tmps[9]?.getD undef = .pointer (some ⟨gx, 0, none⟩) := hU.same 9 (by decide)
           refine wpOp_value (v := setV (X)) (W' := W) rfl rfl (exec_load_set rfl (by simpa [go_sem] using z9) (SetB.range (HN7.out.keep hk (fun h => h)))) (hK _ _ (LKeep.refl _ _ _) rfl)
          | 1, hoi, hom =>
           have z5 : ao.tmps[5]?.getD undef = .slice (some ⟨g, 0, none⟩) b.steps.length b.steps.length := hU.same 5 (by decide)
           refine wpOp_value (v := .slice (some ⟨g, 0, none⟩) b.steps.length b.steps.length) (W' := W) rfl rfl ?_ (hK _ _ (LKeep.refl _ _ _) rfl)
           go_simp
          | 2, hoi, hom =>
           have z10 : ao.tmps[10]?.getD undef = .slice (some ⟨lb, lof, none⟩) l.length lc := hU.same 10 (by decide)
           refine wpOp_value (v := .slice (some ⟨lb, lof, none⟩) l.length lc) (W' := W) rfl rfl ?_ (hK _ _ (LKeep.refl _ _ _) rfl)
           go_simp
          | 3, hoi, hom =>
           have z11 : ao.tmps[11]?.getD undef = .int .i64 (k : Nat) := hU.same 11 (by decide)
           refine wpOp_value (v := .int .i64 (k : Nat)) (W' := W) rfl rfl ?_ (hK _ _ (LKeep.refl _ _ _) rfl)
           go_simp
          | 4, hoi, hom =>
           have l2 := haft _ rfl ⟨2, .data⟩ (by simp) rfl
           have s2 : ao.tmps[64]?.getD undef = .slice (some ⟨lb, lof, none⟩) l.length lc := (hU.slot 2 (by decide) l2).trans (hpv 2 l2)
           have l3 := haft _ rfl ⟨3, .data⟩ (by simp) rfl
           have s3 : ao.tmps[65]?.getD undef = .int .i64 (k : Nat) := (hU.slot 3 (by decide) l3).trans (hpv 3 l3)
           refine wpOp_value (v := .pointer (some ⟨lb, lof + k, none⟩)) (W' := W) rfl rfl ?_ (hK _ _ (LKeep.refl _ _ _) rfl)
           go_simp
          | 5, hoi, hom =>
           have l4 := haft _ rfl ⟨4, .data⟩ (by simp) rfl
           have s4 : ao.tmps[66]?.getD undef = .pointer (some ⟨lb, lof + k, none⟩) := (hU.slot 4 (by decide) l4).trans (hpv 4 l4)
           have y0 := (hk.cell (b := lb) (o := lof + k) (hzl) (fun h => h)).trans (lx)
           refine wpOp_value (v := .int .i64 (q : Nat)) (W' := W) rfl rfl ?_ (hK _ _ (LKeep.refl _ _ _) rfl)
           go_simp
          | 6, hoi, hom =>
           have l1 := haft _ rfl ⟨1, .data⟩ (by simp) rfl
           have s1 : ao.tmps[63]?.getD undef = .slice (some ⟨g, 0, none⟩) b.steps.length b.steps.length := (hU.slot 1 (by decide) l1).trans (hpv 1 l1)
           have l5 := haft _ rfl ⟨5, .data⟩ (by simp) rfl
           have s5 : ao.tmps[67]?.getD undef = .int .i64 (q : Nat) := (hU.slot 5 (by decide) l5).trans (hpv 5 l5)
           refine wpOp_value (v := .pointer (some ⟨g, q * 100, none⟩)) (W' := W) rfl rfl ?_ (hK _ _ (LKeep.refl _ _ _) rfl)
           go_simp
          | 7, hoi, hom =>
           have l6 := haft _ rfl ⟨6, .data⟩ (by simp) rfl
           have s6 : ao.tmps[68]?.getD undef = .pointer (some ⟨g, q * 100, none⟩) := (hU.slot 6 (by decide) l6).trans (hpv 6 l6)
           have y9 := (HU7.out.keep hk (fun h => h)).range HQ.out.2
           skip
           refine wpOp_value (v := setV (setOf ((wayOf b).u (cB b (hasInt xs ·)) q))) (W' := W) rfl rfl (exec_load_set rfl (by simpa [go_sem] using s6) y9) (hK _ _ (LKeep.refl _ _ _) rfl)
          | 8, hoi, hom =>
           have l0 := haft _ rfl ⟨0, .data⟩ (by simp) rfl
           have s0 : ao.tmps[62]?.getD undef = setV (X) := (hU.slot 0 (by decide) l0).trans (hpv 0 l0)
           have l7 := haft _ rfl ⟨7, .data⟩ (by simp) rfl
           have s7 : ao.tmps[69]?.getD undef = setV (setOf ((wayOf b).u (cB b (hasInt xs ·)) q)) := (hU.slot 7 (by decide) l7).trans (hpv 7 l7)
           refine wpOp_enter (f := 99) (args := #[setV (X), setV (setOf ((wayOf b).u (cB b (hasInt xs ·)) q))]) (W' := W) rfl rfl ?_ ((sum12_any (X) (setOf ((wayOf b).u (cB b (hasInt xs ·)) q)) W).mono (fun e w'' h => ?_))
           · go_simp
           · obtain ⟨he, hbw⟩ := h
             exact ⟨_, he, hK _ _ (LKeep.below hbw (fun h => h)) rfl⟩
          | oi + 9, hoi, hom => exact absurd (of_decide_eq_true hom) (by omega)
         case hends =>
          intro listed vs ao W hG hk0 hpv hpre
          have hkk := (LKeep.drew (fun _ => False) (M := fun _ => True) v7 (fun h => h)).trans hk0
          have hk := hkk.1
          have hkm := hkk.2
          clear hkk
          have hact := hG.act
          have hT := hG.lst hpre 0 #[true, true, true, true, true, true, true, true, true, false] rfl (by kernel_rfl) (hpre 0 (by decide) (by decide))
          rw [hG.ix hT (l := [0, 1, 2, 3, 4, 5, 6, 7, 8]) (by kernel_rfl)] at hact
          rw [hG.lo hT (k := 1) (by kernel_rfl)]
          have hv0 : vs 0 = setV (X) := hpv 0 (hpre 0 (by decide) (by decide))
          have hv1 : vs 1 = .slice (some ⟨g, 0, none⟩) b.steps.length b.steps.length := hpv 1 (hpre 1 (by decide) (by decide))
          have hv2 : vs 2 = .slice (some ⟨lb, lof, none⟩) l.length lc := hpv 2 (hpre 2 (by decide) (by decide))
          have hv3 : vs 3 = .int .i64 (k : Nat) := hpv 3 (hpre 3 (by decide) (by decide))
          have hv4 : vs 4 = .pointer (some ⟨lb, lof + k, none⟩) := hpv 4 (hpre 4 (by decide) (by decide))
          have hv5 : vs 5 = .int .i64 (q : Nat) := hpv 5 (hpre 5 (by decide) (by decide))
          have hv6 : vs 6 = .pointer (some ⟨g, q * 100, none⟩) := hpv 6 (hpre 6 (by decide) (by decide))
          have hv7 : vs 7 = setV (setOf ((wayOf b).u (cB b (hasInt xs ·)) q)) := hpv 7 (hpre 7 (by decide) (by decide))
          have hv8 : vs 8 = setV (sumS (X) (setOf ((wayOf b).u (cB b (hasInt xs ·)) q))) := hpv 8 (hpre 8 (by decide) (by decide))
          clear hpv hpre hG hk0
          obtain rfl : ao = _ := hact
          subst hT
          simp only [setAll, List.setIfInBounds_toArray, List.set_cons_succ, List.set_cons_zero, List.getD_cons_succ, List.getD_cons_zero]
          simp only [hv0, hv1, hv2, hv3, hv4, hv5, hv6, hv7, hv8]
          clear hv0 hv1 hv2 hv3 hv4 hv5 hv6 hv7 hv8
          have n9 := HN7.out.keep hk (fun h => h)
          refine wpAny_all (rs := [9]) (by kernel_rfl) (by simp) ?_
          intro i2 hi2
          obtain rfl : i2 = 9 := by simpa using hi2
          refine wpOp_skip (W' := W.setCells gx 0 (setL (sumS (X) (setOf ((wayOf b).u (cB b (hasInt xs ·)) q))))) rfl rfl (exec_store_set rfl (by simp [go_sem]) (by simp [go_sem]) (n9.there _)) ?_
          refine wpAny_done (by kernel_rfl) ?_ _
          have HN9 := hide (n9.whole (sumS (X) (setOf ((wayOf b).u (cB b (hasInt xs ·)) q))))
          have HKA := hide ((HK7.out.trans (hk.mono (S' := fun k => k = gx) (fun k _ h => h.elim))).trans (keepS_set gx (setL (sumS (X) (setOf ((wayOf b).u (cB b (hasInt xs ·)) q)))) 0 W))
          generalize W.setCells gx 0 (setL (sumS (X) (setOf ((wayOf b).u (cB b (hasInt xs ·)) q)))) = v9 at *
          rw [HXE.out] at HN9
          clear hk hkm n9
          go_wp2_with fail
          go_roundw
          case rel => exact ⟨k + 1, by omega, by go_num, HN9, HKA⟩
          case measure => simp [intOf]; omega
     · obtain rfl : k = l.length := by omega
       rw [List.take_length] at HN7
       have hgx2 := HS6.out.lt
       have hbl : Below w.heap.size v2 v7 := (HK6.out.below (fun k hk => by omega) (by omega)).trans (HK7.out.below (fun k hk => by omega) (by have := HK6.out.size; omega))
       have HX7 : Hid (BoxB v7 w.heap.size b a) := hide ⟨(HV2.out.below hbl).more (by have := hbl.size; omega), HX6.out.k.keep HK7.out (by omega)⟩
       have HS7 := hide (HS6.out.keep HK7.out (by omega))
       have HK8 := hide (HK6.out.trans' (HK7.out.mono (fun k _ h => by omega)) (by omega))
       clear hbl HME HL HLF
       have HPD := hide (show dnTo b (hasInt xs ·) i p = setOf ((wayOf b).d (cB b (hasInt xs ·)) p) by
        funext t; rw [dnTo, decide_eq_true hpi, Bool.true_and])
       have HUP := hide (fun t (ht : t < 100) => HDE.out t ht)
       have HSN := hide (fun k t => show updS (dnTo b (hasInt xs ·) i) i (setOf ((wayOf b).d (cB b (hasInt xs ·)) i)) k t = dnTo b (hasInt xs ·) (i + 1) k t by
        unfold updS dnTo
        by_cases e : k = i
        · subst e; rw [if_pos rfl, decide_eq_true (by omega), Bool.true_and]
        · rw [if_neg e]
          congr 1
          rw [Bool.eq_iff_iff, decide_eq_true_eq, decide_eq_true_eq]; omega)
       go_upto_region 16 with (fail)
       have hb8 : Below v7.heap.size v7 (v7.alloc (.cells (setL fun _ => false).toArray 95)) := (Below.refl _ _).alloc (Nat.le_refl _) _
       have HO8 := hide (show SetB (v7.alloc (.cells (setL fun _ => false).toArray 95)) v7.heap.size (fun _ => false) from SetB.made)
       have HX8 := hide (HX7.out.next hb8)
       have HU8 := hide (HU7.out.next hb8)
       have HS8 := hide (HS7.out.next hb8)
       have HN8 := hide (HN7.out.next hb8)
       have HK9 := hide (HK8.out.trans (Keep.of_below' hb8 (fun k => k = g2)))
       have hq1 := HX7.out.k.lt
       have hq2 := HU7.out.lt
       have hq3 := HS7.out.lt
       have hq4 := HN7.out.lt
       clear hb8 HX7 HU7 HS7 HN7 HK7 HK8
       generalize (v7.alloc (.cells (setL fun _ => false).toArray 95)) = v8 at *
       have hq5 := HO8.out.lt
       generalize v7.heap.size = go at *
       generalize hA : setOf ((wayOf b).u (cB b (hasInt xs ·)) i) = SA at HUP
       generalize hR : (sumsS (setOf ⟨0, lo⟩) (fun k => setOf ((wayOf b).u (cB b (hasInt xs ·)) k)) (l.filter fun q => decide (q ≠ i))) = SR at HUP HN8
       generalize hD : setOf ((wayOf b).d (cB b (hasInt xs ·)) p) = SD at HUP HPD
       have HA := hide hA
       clear hA hR hD HDE
       go_wp2_with fail
       go_loopw [13, 14, 71, 72, 73, 74, 75, 76, 77, 78, 79, 80, 81, 82, 83, 84, 85, 86, 87, 88, 89, 90, 91, 92, 93, 94, 95, 96, 97, 98, 99, 100, 101, 102, 103, 104, 105, 106, 107] (fun v13 _ _ _ _ _ _ _ _ _ _ _ _ _ _ _ _ _ _ _ _ _ _ _ _ _ _ _ _ _ _ _ _ _ _ _ _ _ _ wr => ∃ m : Nat, m ≤ 100 ∧ v13 = .int .i64 (m : Nat) ∧ Hid (SetB wr go (difTo SA SR SD m 0)) ∧ Hid (Keep (fun k => k = go) v8 wr)) (fun v13 _ _ _ _ _ _ _ _ _ _ _ _ _ _ _ _ _ _ _ _ _ _ _ _ _ _ _ _ _ _ _ _ _ _ _ _ _ _ _ => 100 - (intOf v13).toNat)
       case atStart => exact ⟨0, by omega, rfl, hide (HO8.out.ext fun k _ => (congrFun (difTo_zero SA SR SD) k).symm), hide (Keep.refl _ _)⟩
       case round =>
        obtain ⟨m, hm, rfl, HT, HK⟩ := hrel
        obtain ⟨v10, rfl⟩ : ∃ v10 : World, v10 = wr := ⟨_, rfl⟩
        have hm0 : (0 : Int) ≤ (m : Int) := Int.natCast_nonneg _
        by_cases hm9 : m < 100
        · have hm1 : (m : Int) ≤ 99 := by omega
          have hm2 : (m : Int) < 100 := by omega
          go_wp2_with fail
          go_loopw [14, 75, 76, 77, 78, 79, 80, 81, 82, 83, 84, 85, 86, 87, 88, 89, 90, 91, 92, 93, 94, 95, 96, 97, 98, 99, 100, 101, 102, 103, 104, 105, 106, 107] (fun v14 _ _ _ _ _ _ _ _ _ _ _ _ _ _ _ _ _ _ _ _ _ _ _ _ _ _ _ _ _ _ _ _ _ wr => ∃ j : Nat, m + j ≤ 100 ∧ v14 = .int .i64 (j : Nat) ∧ Hid (SetB wr go (difTo SA SR SD m j)) ∧ Hid (Keep (fun k => k = go) v10 wr)) (fun v14 _ _ _ _ _ _ _ _ _ _ _ _ _ _ _ _ _ _ _ _ _ _ _ _ _ _ _ _ _ _ _ _ _ _ => 100 - (intOf v14).toNat)
          case atStart => exact ⟨0, by omega, rfl, HT, hide (Keep.refl _ _)⟩
          case round =>
           obtain ⟨j, hj, rfl, HT2, HK2⟩ := hrel
           have hj0 : (0 : Int) ≤ (j : Int) := Int.natCast_nonneg _
           have HKK := hide (HK.out.trans HK2.out)
           have hzt := HT2.out.lt
           have hzk := HKK.out.size
           have xu := (HU8.out.keep HKK.out (by omega)).cell hlt hm9
           rw [HA.out] at xu
           have hw1 : IntKind.i64.wrap ((m : Int) + (j : Int)) = (m : Int) + (j : Int) := IntWalk.i64_in _ (by omega)
           have hzg3 : g < wr.heap.size := by omega
           by_cases hij : m + j < 100
           · have hij1 : (m : Int) + (j : Int) ≤ 99 := by omega
             have hij2 : (m : Int) + (j : Int) < 100 := by omega
             have hij0 : (0 : Int) ≤ (m : Int) + (j : Int) := by omega
             have hijn : ((m : Int) + (j : Int)).toNat = m + j := by omega
             have hj9 : (j : Int) < 100 := by omega
             cases hai : SA m with
             | true =>
              rw [hai] at xu
              have xr := (HN8.out.keep HKK.out (by omega)).cell (j := j) (by omega)
              have xo := (HS8.out.keep HKK.out (by omega)).cell (k := p) (j := m + j) hpn hij
              rw [HPD.out] at xo
              have xt := HT2.out.cell hm9
              have xf := HT2.out.open_ m
              have hzx3 : gx < wr.heap.size := by omega
              have hzo3 : g2 < wr.heap.size := by omega
              cases hr : SR j with
              | true =>
               rw [hr] at xr
               cases hd : SD (m + j) with
               | true =>
                rw [hd] at xo
                have e1 := hide (difTo_hit (a := SA) (r := SR) (o := SD) hai (show (SR j && SD (m + j)) = true by rw [hr, hd]; rfl))
                clear hai hr hd
                go_wp2_with fail
                go_roundw
                case rel => exact ⟨j + 1, by omega, by go_num, hide (by rw [← e1.out]; exact HT2.out.store _ true), hide (HK2.out.trans (Keep.setCell _ _ _ _ rfl))⟩
                case measure => simp [intOf]; omega
               | false =>
                rw [hd] at xo
                have e1 := hide (difTo_miss (a := SA) (r := SR) (o := SD) (i := m) (show (SR j && SD (m + j)) = false by rw [hr, hd]; rfl))
                clear hai hr hd
                go_wp2_with fail
                go_roundw
                case rel => exact ⟨j + 1, by omega, by go_num, hide (by rw [e1.out]; exact HT2.out), HK2⟩
                case measure => simp [intOf]; omega
              | false =>
               rw [hr] at xr
               have e1 := hide (difTo_miss (a := SA) (r := SR) (o := SD) (i := m) (show (SR j && SD (m + j)) = false by rw [hr]; rfl))
               clear hai hr
               go_wp2_with fail
               go_roundw
               case rel => exact ⟨j + 1, by omega, by go_num, hide (by rw [e1.out]; exact HT2.out), HK2⟩
               case measure => simp [intOf]; omega
             | false =>
              rw [hai] at xu
              have e1 := hide (difTo_next (a := SA) (r := SR) (o := SD) (i := m) (j := j) (.inl hai))
              clear hai
              go_wp2_with fail
              go_roundw
              case rel => exact ⟨m + 1, by omega, by go_num, hide (by rw [← e1.out]; exact HT2.out), HKK⟩
              case measure => simp [intOf]; omega
           · have hij1 : ¬ (m : Int) + (j : Int) ≤ 99 := by omega
             have e1 := hide (difTo_next (a := SA) (r := SR) (o := SD) (i := m) (j := j) (.inr (by omega)))
             go_wp2_with fail
             go_roundw
             case rel => exact ⟨m + 1, by omega, by go_num, hide (by rw [← e1.out]; exact HT2.out), HKK⟩
             case measure => simp [intOf]; omega
        · obtain rfl : m = 100 := by omega
          have hmx : SetB v10 go (setOf ((wayOf b).d (cB b (hasInt xs ·)) i)) := HT.out.ext HUP.out
          have HMX := hide hmx
          have HSX := hide (HS8.out.keep HK.out (by omega))
          have hzm := hmx.lt
          have HTH := hide (HSX.out.there hlt (setOf ((wayOf b).d (cB b (hasInt xs ·)) i)))
          have HPU := hide ((HSX.out.put hlt (setOf ((wayOf b).d (cB b (hasInt xs ·)) i))).ext fun k t _ _ => HSN.out k t)
          have HKF := hide ((HK9.out.trans' (HK.out.mono (fun k _ h => by omega)) (by omega)).trans (keepS_set g2 (setL (setOf ((wayOf b).d (cB b (hasInt xs ·)) i))) (i * 100) v10))
          clear hmx
          have hil0 : (i : Int) < (b.steps.length : Int) := hil
          generalize setOf ((wayOf b).d (cB b (hasInt xs ·)) i) = SE at *
          go_upto_region 24 with fail
          go_wp2_with (first | (refine wpList_load_mid rfl 95 (.tmp 12) rfl _ _ rfl (setL SE) _ ?h0 Tryz.underlying95 rfl (size95 _) ?_; (case h0 => exact SetB.range HMX.out)) | (refine wpList_store_mid rfl 95 (.tmp 111) (.tmp 110) rfl _ _ _ rfl rfl ?h1 ?h2 ?h3 ?_; (case h1 => exact HTH.out); (case h2 => exact size95' _); (case h3 => exact setL_all _)))
          generalize v10.setCells g2 (i * 100) (setL SE) = v11 at *
          go_roundw
          case rel => exact ⟨i + 1, by omega, by omega, by go_num, HPU, HKF⟩
          case measure => simp [intOf]; omega
  · obtain rfl : i = b.steps.length := by omega
    have HF := hide (HS.out.ext (t := fun k => setOf ((wayOf b).d (cB b (hasInt xs ·)) k)) fun k t hk _ => by rw [dnTo, decide_eq_true hk, Bool.true_and])
    have hbz := HB2.out.trans (HK.out.below (B := w.heap.size) (fun k hk => by omega) (by omega))
    obtain ⟨gz, x0, x1⟩ := HX4.out.cells
    go_wp2_with fail
    go_ret
    exact ⟨g2, rfl, by omega, HF.out, hbz⟩
end Go.Proofs.YtocdmkilnbpkdaaGreatDoor
