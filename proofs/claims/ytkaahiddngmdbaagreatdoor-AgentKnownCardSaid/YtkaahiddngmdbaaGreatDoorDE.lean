/- The board that is looked at; the contract of chain's ways. -/
import Derived.Test.YtkaahiddngmdbaaGreatDoorDC
import Derived.Test.YtkaahiddngmdbaaGreatDoorDR
import Derived.BigRegion
import Derived.Deep.DeepMust
set_option linter.unusedVariables false
set_option linter.unusedSimpArgs false
namespace Go.Proofs.YtkaahiddngmdbaaGreatDoor
open Go.RowKit

abbrev lookCells (b : Board) (a : BrdA) (bm : Nat) : Array Value := #[.int .i64 b.holds, .slice a.A1 b.hours.length a.c1, .slice a.A2 b.ctrs.length a.c2, .map (some bm)]
/-- The board that is looked at: what came in lies below block L. -/
structure LookH (w : World) (L g bm : Nat) (b : Board) (a : BrdA) : Prop where
 v : BrdV w L b a
 q : Blk w g 365 (lookCells b a bm)
 k : Cache w bm (waysV b)
 hL : L ≤ w.heap.size
 hg : L ≤ g
 hm : L ≤ bm
section
variable {S : Nat → Prop} {w w' : World} {L g bm : Nat} {b : Board} {a : BrdA}
theorem BrdV.keep {B : Nat} (h : BrdV w B b a) (hc : ∀ q o, q < B → w'.cell? ⟨q, o, none⟩ = w.cell? ⟨q, o, none⟩) : BrdV w' B b a :=
 ⟨h.hours.keep hc, h.ctrs.keep hc, fun i hi => ⟨(h.zero i hi).len, (h.zero i hi).cap, (h.zero i hi).max, (h.zero i hi).row.keep hc⟩, fun i hi => ⟨(h.shown i hi).len, (h.shown i hi).cap, (h.shown i hi).max, (h.shown i hi).row.keep hc⟩, h.m1, h.m2⟩
theorem LookH.cells (h : LookH w L g bm b a) : g < w.heap.size ∧ w.cell? ⟨g, 0, none⟩ = some (.int .i64 b.holds) ∧ w.cell? ⟨g, 1, none⟩ = some (.slice a.A1 b.hours.length a.c1) ∧ w.cell? ⟨g, 2, none⟩ = some (.slice a.A2 b.ctrs.length a.c2) ∧ w.cell? ⟨g, 3, none⟩ = some (.map (some bm)) :=
 ⟨h.q.lt, h.q.at_ 0, h.q.at_ 1, h.q.at_ 2, h.q.at_ 3⟩
theorem LookH.ne (h : LookH w L g bm b a) : g ≠ bm := h.k.ne (h.q.at_ 0)
theorem LookH.keep (h : LookH w L g bm b a) (hk : Keep S w w') (hS : ∀ k, S k → L ≤ k ∧ k ≠ g) (hn : Cache w' bm (waysV b)) : LookH w' L g bm b a :=
 ⟨h.v.keep fun q o hq => hk.cell (by have := h.hL; omega) fun hs => by have := (hS q hs).1; omega, h.q.keep hk fun hs => (hS g hs).2 rfl, hn, Nat.le_trans h.hL hk.size, h.hg, h.hm⟩
theorem LookH.still (h : LookH w L g bm b a) (hb : Below w.heap.size w w') : LookH w' L g bm b a :=
 h.keep (Keep.of_below' hb (fun _ => False)) (fun _ h => h.elim) (h.k.below hb)
theorem LookH.drew (h : LookH w L g bm b a) : LookH w.drew L g bm b a := h.still ((Below.refl _ _).drew)
end
/-- A slice's cells by its own words. -/
theorem LookH.hour {w : World} {L g bm : Nat} {b : Board} {a : BrdA} (h : LookH w L g bm b a) {i : Nat} (hi : i < b.hours.length) :
 ∃ k o, a.A1 = some ⟨k, o, none⟩ ∧ k < L ∧ w.cell? ⟨k, o + i * 3, none⟩ = some (.int .i64 (nth b.hours i).hold) ∧ w.cell? ⟨k, o + i * 3 + 1, none⟩ = some (.int .i64 (nth b.hours i).load.lo) ∧ w.cell? ⟨k, o + i * 3 + 2, none⟩ = some (.int .i64 (nth b.hours i).load.hi) := h.v.hours.hours hi

theorem Tryz.infoWay : (Tryz.prog.info? 494).map (fun i => (i.zero, i.size, i.bytes)) = some (some (.agg #[.int .i64 0, .int .i64 0, .bool false]), 3, 24) := by kernel_rfl
theorem waysAt_own {w : World} {base : Nat} {v : Value} {ws : List Way} (h : w.ownsRow base 494 3 v ws.length (wvals ws)) : WaysAt w ws v := by
 have hr := row_own h
 rcases h.2 with ⟨rfl, h0⟩ | ⟨g, cap, cur, rfl, hg, hh, h1, h2, h3, h4⟩
 · exact ⟨none, 0, by rw [h0], by omega, by simp [maxLen], fun hm => by omega⟩
 · refine ⟨_, cap, rfl, h1, h2, fun hm => ⟨g, rfl, ⟨_, _, hh⟩, fun j hj => ?_⟩⟩
   obtain ⟨A, c, e, _, _, hrow⟩ := hr
   simp only [Value.slice.injEq, true_and] at e
   obtain ⟨rfl, rfl⟩ := e
   obtain ⟨k, off, e2, _, hc⟩ := hrow hm
   simp only [Option.some.injEq, Addr.mk.injEq, and_true] at e2
   obtain ⟨rfl, rfl⟩ := e2
   have := hc j hj
   rw [Nat.zero_add] at this
   rw [this, wvals]
   simp [hj]
theorem way_row {w : World} (x s : Int) (z : Bool) : Row (w.alloc (.cells #[.int .i64 x, .int .i64 s, .bool z] 494)) (w.heap.size + 1) (some ⟨w.heap.size, 0, none⟩) (1 * 3) (fun j => ([.int .i64 x, .int .i64 s, .bool z] : List Value).getD j undef) := fun _ =>
 ⟨_, _, rfl, by omega, fun j hj => by
  rw [World.cell?_alloc_at _ _ _ _ rfl]
  match j, hj with
  | 0, _ => rfl
  | 1, _ => rfl
  | 2, _ => rfl⟩
theorem way_one (x s : Int) (z : Bool) (j : Nat) (hj : j < 1 * 3) : (([.int .i64 x, .int .i64 s, .bool z] : List Value).getD j undef).oneCell' = true := by
 match j, hj with
 | 0, _ => rfl
 | 1, _ => rfl
 | 2, _ => rfl
set_option maxHeartbeats 3000000 in
set_option maxRecDepth 100000 in
theorem ways_any {w : World} {L g bm : Nat} {b : Board} {a : BrdA} (h : LookH w L g bm b a) (hv : ValidB b) {c hr : Nat} (hc : c < b.ctrs.length) (hh : hr < b.hours.length) {n : Int} (hn : 0 ≤ n ∧ n ≤ 99) :
 Calls Tryz.prog 355 #[.pointer (some ⟨g, 0, none⟩), .agg #[.int .i64 c, .int .i64 hr, .int .i64 n]] w fun e w' => ∃ v, e = .returned v ∧ WaysAt w' (waysV b ⟨c, hr, n⟩) v ∧ Keep (fun k => k = bm) w w' ∧ Cache w' bm (waysV b) := by
 have hvh := hv.hours
 have hvc := hv.ctrs
 have hsok : (⟨c, hr, n⟩ : Stand).Ok := ⟨(wfI_iff _).2 (by simp only; omega), (wfI_iff _).2 (by simp only; omega), (wfI_iff _).2 (by simp only; omega)⟩
 have hA : Below w.heap.size w (w.alloc (.cells #[.int .i64 c, .int .i64 hr, .int .i64 n] 492)) := (Below.refl _ _).alloc (Nat.le_refl _) _
 have kb : Blk (w.alloc (.cells #[.int .i64 c, .int .i64 hr, .int .i64 n] 492)) w.heap.size 492 #[.int .i64 c, .int .i64 hr, .int .i64 n] := Blk.made
 have HL0 := hide (h.still hA)
 have HV := hide hv
 have HA := hide hA
 have HKB := hide kb
 have HSO := hide hsok
 clear h hv hA kb hsok
 go_enter Tryz.func355, Tryz.ntmps355
 go_upto_region 1 with (fail)
 generalize (w.alloc (.cells #[.int .i64 c, .int .i64 hr, .int .i64 n] 492)) = w0 at *
 obtain ⟨hgl, p0, p1, p2, p3⟩ := HL0.out.cells
 have s0 := HKB.out.at_ 0
 have s1 := HKB.out.at_ 1
 have s2 := HKB.out.at_ 2
 have hsl := HKB.out.lt
 simp only [List.getElem?_toArray, List.getElem?_cons_succ, List.getElem?_cons_zero] at s0 s1 s2
 obtain ⟨LA, ln, lc, ok, hlk, hok⟩ := HL0.out.drew.k.look ⟨c, hr, n⟩ HSO.out
 simp only [standVal, iv] at hlk
 have HOK := hide hok
 clear hok
 apply wp_one
 case h =>
  go_region
  all_goals exact ⟨rfl, rfl, rfl⟩
 case hq =>
 have HL1 := hide HL0.out.drew
 have HK1 := hide (HKB.out.next ((Below.refl _ _).drew))
 have HB1 := hide (HA.out.trans ((Below.refl _ _).drew))
 clear s0 s1 s2 hsl p0 p1 p2 p3 hgl hlk
 generalize w0.drew = w1 at *
 cases ok with
 | true =>
  go_wp2_with fail
  refine bodyPost_ret (v := .slice LA ln lc) (by simp [results, Tryz.results355, go_sem]) rfl ⟨_, rfl, HOK.out trivial, Keep.of_below' HB1.out _, HL1.out.k⟩
 | false =>
  clear HOK HL0 HKB
  go_upto_region 5 with (fail)
  obtain ⟨hgl, p0, p1, p2, p3⟩ := HL1.out.cells
  have s0 := HK1.out.at_ 0
  have s1 := HK1.out.at_ 1
  have hsl := HK1.out.lt
  simp only [List.getElem?_toArray, List.getElem?_cons_succ, List.getElem?_cons_zero] at s0 s1
  obtain ⟨kh, oh, eh, hkh, h0, h1, h2⟩ := HL1.out.v.hours.hours hh
  obtain ⟨kc, oc, ec, hkc, c0, c1, c2, c3, c4, c5⟩ := HL1.out.v.ctrs.ctrs hc
  rw [eh] at p1
  rw [ec] at p2
  have hL1 := HL1.out.hL
  have hg1 := HL1.out.hg
  have hm1 := HL1.out.v.m1
  have hm2 := HL1.out.v.m2
  unfold maxLen at hm1 hm2
  have i0 : (0 : Int) ≤ (hr : Int) := Int.natCast_nonneg _
  have i1 : (hr : Int) < (b.hours.length : Int) := by omega
  have j0 : (0 : Int) ≤ (c : Int) := Int.natCast_nonneg _
  have j1 : (c : Int) < (b.ctrs.length : Int) := by omega
  have HEH := hide eh
  have HEC := hide ec
  clear eh ec
  have z1 : kh < w1.heap.size := by omega
  have z2 : kc < w1.heap.size := by omega
  have z3 : kh < w1.heap.size + 1 := by omega
  have z4 : kc < w1.heap.size + 1 := by omega
  rename_i K hK
  have key : ∀ (u1 u2 u5 u6 u10 u11 u12 u13 u14 u15 u16 u17 u18 u19 u20 u21 u22 u23 u24 u25 u26 u27 u28 u29 u30 u31 u32 u33 u34 u35 u36 u37 u38 u39 u40 u41 u42 u43 u44 u45 u46 u47 u48 u49 u50 u51 u52 u53 u54 u55 u56 u57 u58 u59 u60 u61 u62 u63 u64 u65 u66 u67 u68 u69 u70 u71 u72 u73 u74 u75 u76 u77 u78 u79 u80 u81 u82 u83 u84 u85 u86 u87 u88 u89 u90 u91 u92 u93 u94 u95 u96 u97 u98 u99 u100 u101 u102 u103 u104 u105 u106 u107 u108 u109 u110 u111 u112 u113 u114 u115 u116 u117 u118 u119 u120 u121 u122 u123 u124 u125 u126 u127 : Value) (gc gh : Nat) (wz : World), Blk wz gc 126 #[.string (nth b.ctrs c).name, .int .i64 (nth b.ctrs c).skip, .int .i64 (nth b.ctrs c).twice, .int .i64 (nth b.ctrs c).start, .slice (nth a.ca c).az (nth b.ctrs c).zero.length (nth a.ca c).cz, .slice (nth a.ca c).aw (nth b.ctrs c).shown.length (nth a.ca c).cw] → Blk wz gh 28 #[.int .i64 (nth b.hours hr).load.lo, .int .i64 (nth b.hours hr).load.hi] → Below w1.heap.size w1 wz → K { tmps := #[.pointer (some ⟨g, 0, none⟩), u1, u2, .pointer (some ⟨w.heap.size, 0, none⟩), .slice none 0 0, u5, u6, .slice none 0 0, .pointer (some ⟨gc, 0, none⟩), .pointer (some ⟨gh, 0, none⟩), u10, u11, u12, u13, u14, u15, u16, u17, u18, u19, u20, u21, u22, u23, u24, u25, u26, u27, u28, u29, u30, u31, u32, u33, u34, u35, u36, u37, u38, u39, u40, u41, u42, u43, u44, u45, u46, u47, u48, u49, u50, u51, u52, u53, u54, u55, u56, u57, u58, u59, u60, u61, u62, u63, u64, u65, u66, u67, u68, u69, u70, u71, u72, u73, u74, u75, u76, u77, u78, u79, u80, u81, u82, u83, u84, u85, u86, u87, u88, u89, u90, u91, u92, u93, u94, u95, u96, u97, u98, u99, u100, u101, u102, u103, u104, u105, u106, u107, u108, u109, u110, u111, u112, u113, u114, u115, u116, u117, u118, u119, u120, u121, u122, u123, u124, u125, u126, u127], defers := [] } wz := by
   intro u1 u2 u5 u6 u10 u11 u12 u13 u14 u15 u16 u17 u18 u19 u20 u21 u22 u23 u24 u25 u26 u27 u28 u29 u30 u31 u32 u33 u34 u35 u36 u37 u38 u39 u40 u41 u42 u43 u44 u45 u46 u47 u48 u49 u50 u51 u52 u53 u54 u55 u56 u57 u58 u59 u60 u61 u62 u63 u64 u65 u66 u67 u68 u69 u70 u71 u72 u73 u74 u75 u76 u77 u78 u79 u80 u81 u82 u83 u84 u85 u86 u87 u88 u89 u90 u91 u92 u93 u94 u95 u96 u97 u98 u99 u100 u101 u102 u103 u104 u105 u106 u107 u108 u109 u110 u111 u112 u113 u114 u115 u116 u117 u118 u119 u120 u121 u122 u123 u124 u125 u126 u127 gc gh wz kc0 kh0 hBz
   apply hK
   clear hK
   have HLZ := hide (HL1.out.still hBz)
   have HKZ := hide (HK1.out.next hBz)
   have HBZ := hide (HB1.out.trans (hBz.mono HB1.out.size))
   clear h0 h1 h2 c0 c1 c2 c3 c4 c5 s0 s1 p0 p1 p2 p3 hgl hsl HL1 HK1 HB1 z1 z2 z3 z4 hkh hkc hL1 hg1 HEH HEC hm1 hm2 hBz
   have hl4 := HV.out.zero c hc
   have hl5 := HV.out.shown c hc
   obtain ⟨zb, zo, ez, hzb, zc⟩ := (HLZ.out.v.zero c hc).at_ (i := hr) (by omega)
   obtain ⟨sb, so, es, hsb, sc⟩ := (HLZ.out.v.shown c hc).at_ (i := hr) (by omega)
   have hq1 := kc0.at_ 1
   have hq2 := kc0.at_ 2
   have hq4 := kc0.at_ 4
   have hq5 := kc0.at_ 5
   have e0 := kh0.at_ 0
   have e1 := kh0.at_ 1
   have s0 := HKZ.out.at_ 0
   have s1 := HKZ.out.at_ 1
   have s2 := HKZ.out.at_ 2
   simp only [List.getElem?_toArray, List.getElem?_cons_succ, List.getElem?_cons_zero] at hq1 hq2 hq4 hq5 e0 e1 s0 s1 s2
   rw [ez, hl4] at hq4
   rw [es, hl5] at hq5
   have zg := kc0.lt
   have zh := kh0.lt
   have zs := HKZ.out.lt
   have hLz := HLZ.out.hL
   have zzb : zb < wz.heap.size := by omega
   have zsb : sb < wz.heap.size := by omega
   have hcz := (HLZ.out.v.zero c hc).cap
   have hcm := (HLZ.out.v.zero c hc).max
   have hsz := (HLZ.out.v.shown c hc).cap
   have hsm := (HLZ.out.v.shown c hc).max
   rw [hl4] at hcz
   rw [hl5] at hsz
   unfold maxLen at hcm hsm
   generalize (nth a.ca c).cz = cz at *
   generalize (nth a.ca c).cw = cw at *
   have hwv : waysV b ⟨c, hr, n⟩ = waysU (nth b.ctrs c) (nth b.hours hr).load (nth (nth b.ctrs c).shown hr) (nth (nth b.ctrs c).zero hr) n 2 := by simp only [waysV, Int.toNat_natCast]
   have HWV := hide hwv
   have hbd := lo_bd HV.out hc hh
   have hb1 := HV.out.lo hr hh
   have hb2 := HV.out.hi hr hh
   have hb3 := HV.out.skip c hc
   have hb4 := HV.out.twice c hc
   have HLO := hide (show loM (nth b.ctrs c) (nth b.hours hr).load = max 0 ((nth b.hours hr).load.lo - (nth b.ctrs c).skip) from rfl)
   generalize (nth (nth b.ctrs c).zero hr) = at_ at *
   generalize (nth (nth b.ctrs c).shown hr) = own at *
   generalize hm0 : loM (nth b.ctrs c) (nth b.hours hr).load = m0 at *
   generalize hh2 : (nth b.hours hr).load.hi + (nth b.ctrs c).twice = hi2 at *
   have hwx : IntKind.i64.wrap ((nth b.hours hr).load.lo - (nth b.ctrs c).skip) = (nth b.hours hr).load.lo - (nth b.ctrs c).skip := IntWalk.i64_in _ (by omega)
   have hwy : IntKind.i64.wrap ((nth b.hours hr).load.hi + (nth b.ctrs c).twice) = hi2 := (IntWalk.i64_in _ (by omega)).trans hh2
   have hmx3 : (if (nth b.ctrs c).skip < (nth b.hours hr).load.lo then (nth b.hours hr).load.lo - (nth b.ctrs c).skip else 0) = m0 := by have := HLO.out; split <;> omega
   have hmh : m0 ≤ hi2 := by have := HLO.out; omega
   have HM0 := hide hm0
   have HH2 := hide hh2
   clear hwv ez es hl4 hl5 kc0 kh0 hm0 hh2
   have hwn : IntKind.i64.wrap n = n := IntWalk.i64_in _ (by omega)
   obtain ⟨iw, hiw, hw0, hw1, hw2⟩ := info_parts Tryz.infoWay
   go_wp2_with fail
   go_loopw [45, 7] (fun V45 V7 wr => ∃ z : Nat, z ≤ 2 ∧ V45 = .int .i64 z ∧ wr.ownsRow wz.heap.size 494 3 V7 (waysU (nth b.ctrs c) (nth b.hours hr).load own at_ n z).length (wvals (waysU (nth b.ctrs c) (nth b.hours hr).load own at_ n z)) ∧ Below wz.heap.size wz wr) (fun V45 _ _ => 2 - (intOf V45).toNat)
   case atStart => exact ⟨0, by omega, rfl, World.ownsRow_nil _ _ _ _, Below.refl _ _⟩
   case round =>
    obtain ⟨z, hz, hV, hown, hB⟩ := hrel
    obtain ⟨k1, f1⟩ := bcell hB
    have hwr := hB.size
    have zgr : gc < wr.heap.size := by omega
    have zhr : gh < wr.heap.size := by omega
    have zsr : w.heap.size < wr.heap.size := by omega
    have zbr : zb < wr.heap.size := by omega
    have zcr : sb < wr.heap.size := by omega
    by_cases hlt : z < 2
    · obtain rfl | rfl : z = 0 ∨ z = 1 := by omega
      ·
       replace hV : _ = Value.int .i64 0 := hV
       subst hV
       by_cases hzz : at_ = 1
       · have hw : zeroP at_ 0 = false := by simp [zeroP, hzz]
         have hqa : (at_ == 1) = true := by simp [hzz]
         have HU := hide (waysU_skip0 (c := nth b.ctrs c) (h := (nth b.hours hr).load) (own := own) (n := n) hw)
         clear hw hzz
         go_wp2_with fail
         go_roundw
         case rel => exact ⟨1, by omega, by go_num, by rw [HU.out]; exact hown, hB⟩
         case measure => simp [intOf]
       · have hw : zeroP at_ 0 = true := by simp [zeroP, hzz]
         have hqa : (at_ == 1) = false := by simp [hzz]
         have HU := hide (waysU_go0 (c := nth b.ctrs c) (h := (nth b.hours hr).load) (own := own) (n := n) hw)
         clear hw hzz
         go_upto_region 13 with (fail)
         have hbq : Blk (wr.alloc (.cells #[.int .i64 c, .int .i64 hr, .int .i64 n] 492)) wr.heap.size 492 #[.int .i64 c, .int .i64 hr, .int .i64 n] := Blk.made
         have hBq : Below wz.heap.size wz (wr.alloc (.cells #[.int .i64 c, .int .i64 hr, .int .i64 n] 492)) := hB.trans ((Below.refl _ _).alloc hB.size _)
         have hoq : World.ownsRow (wr.alloc (.cells #[.int .i64 c, .int .i64 hr, .int .i64 n] 492)) wz.heap.size 494 3 u7 _ _ := own_stab hown (fun q hq _ => Below.heap_alloc _ _ q hq)
         have hneq : ∀ k, u7.ownBlock = some k → k ≠ wr.heap.size := fun k hk => by have := (World.ownsRow.lt hown k hk).2; omega
         have hqz : wz.heap.size ≤ wr.heap.size := hB.size
         generalize (wr.alloc (.cells #[.int .i64 c, .int .i64 hr, .int .i64 n] 492)) = wq at *
         generalize hqq : wr.heap.size = q at *
         clear hB hown k1 f1 hqq hwr zgr zhr zsr zbr zcr
         have hpl0 : (waysU (nth b.ctrs c) (nth b.hours hr).load own at_ n 0).length ≤ 44 := waysU_len1 (by rw [HM0.out]; omega) (by omega)
         generalize hpre : waysU (nth b.ctrs c) (nth b.hours hr).load own at_ n 0 = pre at *
         have HPRE := hide hpre
         have hpl : pre.length ≤ 44 := hpl0
         clear hpre
         go_loopw [12, 7] (fun V12 V7 w3 => ∃ j : Nat, (j : Int) ≤ hi2 + 1 - m0 ∧ V12 = .int .i64 (m0 + j) ∧ w3.ownsRow wz.heap.size 494 3 V7 (pre ++ waysTo own n false m0 j).length (wvals (pre ++ waysTo own n false m0 j)) ∧ (∀ k, V7.ownBlock = some k → k ≠ q) ∧ Blk w3 q 492 #[.int .i64 c, .int .i64 hr, .int .i64 n] ∧ Below wz.heap.size wz w3) (fun V12 _ _ => (hi2 + 1 - intOf V12).toNat)
         case atStart => exact ⟨0, by omega, by simp, by simpa [waysTo] using hoq, hneq, hbq, hBq⟩
         case round =>
          clear hoq hneq hbq hBq
          obtain ⟨j, hj, rfl, hown2, hne2, hbq, hB⟩ := hrel
          obtain ⟨k1, f1⟩ := bcell hB
          have hwr := hB.size
          have y2 := hbq.at_ 2
          have y1 := hbq.at_ 1
          simp only [List.getElem?_toArray, List.getElem?_cons_succ, List.getElem?_cons_zero] at y1 y2
          have hwl := waysTo_len own n false m0 j
          have hla : (pre ++ waysTo own n false m0 j).length = pre.length + (waysTo own n false m0 j).length := List.length_append
          by_cases hlt2 : m0 + (j : Int) ≤ hi2
          · generalize hx : m0 + (j : Int) = x at *
            have HX := hide hx
            have hx0 : 0 ≤ x ∧ x ≤ 43 := by omega
            have hj43 : j ≤ 43 := by omega
            clear hx hj
            have hwa : IntKind.i64.wrap (n + x) = (n + x) := IntWalk.i64_in _ (by omega)
            by_cases ho1 : own = -1
            · have hq1 : (own == -1) = true := by simp [ho1]
              have HOW : Hid (own = -1 ∨ own = (n + x) % 100) := .inl ho1
              clear ho1
              have HLN := hide (wayAt_wvals (pre ++ waysTo own n false m0 j) (z := false) (n := x) (before := n) (s := (n + x)) rfl HOW.out)
              have HLT := hide (waysTo_next own n false m0 j)
              have hln1 := wayAt_one (own := own) (z := false) (n := x) (before := n) (s := (n + x)) rfl HOW.out
              go_wp2_with (first
               | (at_builtin
                  go_must (refine wpList_app_row _ rfl (.tmp 112) (.tmp 118) 490 rfl wz.heap.size 494 iw (.agg #[.int .i64 0, .int .i64 0, .bool false]) 3 24 Tryz.underlying490 hiw hw0 hw1 hw2 rfl (by decide) _ _ _ rfl (hown2.alloc _) (some ⟨wr.heap.size, 0, none⟩) 1 1 (wr.heap.size + 1) _ rfl (way_row x ((n + x) % 100) false) (way_one _ _ _) ?c3 ?c4 ?c5 ?_)
                  case c3 => simp only [maxLen]; omega
                  case c4 => omega
                  case c5 => simp; omega
                  intro v' w4 hown4 hg4 hor4
                  have hB4 : Below wz.heap.size wr w4 := ((Below.refl _ wr).alloc hwr _).grown hg4 (by simp; omega) (fun k hk => (World.ownsRow.lt hown2 k hk).1)
                  have hq4' : ∀ k, v'.ownBlock = some k → k ≠ q := fun k hk => by
                   rcases hor4 with e | e
                   · exact hne2 k (e ▸ hk)
                   · rw [e] at hk; have := hbq.lt; simp at hk; omega
                  have hb4 : Blk w4 q 492 #[.int .i64 c, .int .i64 hr, .int .i64 n] := (hbq.alloc _).block (hg4.block q (by simp; have := hbq.lt; omega) (fun e => hne2 q e.symm rfl))
                  have hlen4 : (pre ++ waysTo own n false m0 (j + 1)).length = (pre ++ waysTo own n false m0 j).length + 1 := by rw [HLT.out, ← List.append_assoc, List.length_append, HX.out, hln1]
                  have hval4 : wvals (pre ++ waysTo own n false m0 (j + 1)) = wvals (pre ++ waysTo own n false m0 j) ++ (List.range (1 * 3)).map (fun j => ([.int .i64 x, .int .i64 ((n + x) % 100), .bool false] : List Value).getD j undef) := by rw [HLT.out, ← List.append_assoc, HX.out, HLN.out]; rfl
                  rw [← hlen4, ← hval4] at hown4
                  clear hg4 hor4 hlen4 hval4))
              go_roundw
              case rel => exact ⟨j + 1, by have := HX.out; omega, by have := HX.out; go_num, hown4, hq4', hb4, hB.trans hB4⟩
              case measure => simp [intOf]; omega
            · have hq1 : (own == -1) = false := by simp [ho1]
              by_cases ho2 : own = (n + x) % 100
              · have hq2 : (own == (n + x) % 100) = true := by simp [ho2]
                have HOW : Hid (own = -1 ∨ own = (n + x) % 100) := .inr ho2
                clear ho1 ho2
                have HLN := hide (wayAt_wvals (pre ++ waysTo own n false m0 j) (z := false) (n := x) (before := n) (s := (n + x)) rfl HOW.out)
                have HLT := hide (waysTo_next own n false m0 j)
                have hln1 := wayAt_one (own := own) (z := false) (n := x) (before := n) (s := (n + x)) rfl HOW.out
                go_wp2_with (first
                 | (at_builtin
                    go_must (refine wpList_app_row _ rfl (.tmp 112) (.tmp 118) 490 rfl wz.heap.size 494 iw (.agg #[.int .i64 0, .int .i64 0, .bool false]) 3 24 Tryz.underlying490 hiw hw0 hw1 hw2 rfl (by decide) _ _ _ rfl (hown2.alloc _) (some ⟨wr.heap.size, 0, none⟩) 1 1 (wr.heap.size + 1) _ rfl (way_row x ((n + x) % 100) false) (way_one _ _ _) ?c3 ?c4 ?c5 ?_)
                    case c3 => simp only [maxLen]; omega
                    case c4 => omega
                    case c5 => simp; omega
                    intro v' w4 hown4 hg4 hor4
                    have hB4 : Below wz.heap.size wr w4 := ((Below.refl _ wr).alloc hwr _).grown hg4 (by simp; omega) (fun k hk => (World.ownsRow.lt hown2 k hk).1)
                    have hq4' : ∀ k, v'.ownBlock = some k → k ≠ q := fun k hk => by
                     rcases hor4 with e | e
                     · exact hne2 k (e ▸ hk)
                     · rw [e] at hk; have := hbq.lt; simp at hk; omega
                    have hb4 : Blk w4 q 492 #[.int .i64 c, .int .i64 hr, .int .i64 n] := (hbq.alloc _).block (hg4.block q (by simp; have := hbq.lt; omega) (fun e => hne2 q e.symm rfl))
                    have hlen4 : (pre ++ waysTo own n false m0 (j + 1)).length = (pre ++ waysTo own n false m0 j).length + 1 := by rw [HLT.out, ← List.append_assoc, List.length_append, HX.out, hln1]
                    have hval4 : wvals (pre ++ waysTo own n false m0 (j + 1)) = wvals (pre ++ waysTo own n false m0 j) ++ (List.range (1 * 3)).map (fun j => ([.int .i64 x, .int .i64 ((n + x) % 100), .bool false] : List Value).getD j undef) := by rw [HLT.out, ← List.append_assoc, HX.out, HLN.out]; rfl
                    rw [← hlen4, ← hval4] at hown4
                    clear hg4 hor4 hlen4 hval4))
                go_roundw
                case rel => exact ⟨j + 1, by have := HX.out; omega, by have := HX.out; go_num, hown4, hq4', hb4, hB.trans hB4⟩
                case measure => simp [intOf]; omega
              · have hq2 : (own == (n + x) % 100) = false := by simp [ho2]
                have HLT := hide (waysTo_next own n false m0 j)
                have HNO := hide (wayAt_no (z := false) (n := x) (before := n) (s := (n + x)) rfl ho1 ho2)
                clear ho1 ho2
                go_wp2_with fail
                go_roundw
                case rel => exact ⟨j + 1, by have := HX.out; omega, by have := HX.out; go_num, by rw [HLT.out, HX.out, HNO.out, List.append_nil]; exact hown2, hne2, hbq, hB⟩
                case measure => simp [intOf]; omega
          · have hjj : j = (hi2 + 1 - m0).toNat := by omega
            have HE := hide (show waysU (nth b.ctrs c) (nth b.hours hr).load own at_ n 1 = pre ++ waysTo own n false m0 j by rw [HU.out, ← HPRE.out, hjj, waysZ, HM0.out, HH2.out]; rfl)
            clear hjj
            go_wp2_with fail
            go_roundw
            case rel => exact ⟨1, by omega, by go_num, by rw [HE.out]; exact hown2, hB⟩
            case measure => simp [intOf]
      ·
       replace hV : _ = Value.int .i64 1 := hV
       subst hV
       by_cases hzz : at_ = 0
       · have hw : zeroP at_ 1 = false := by simp [zeroP, hzz]
         have hqa : (at_ == 0) = true := by simp [hzz]
         have HU := hide (waysU_skip1 (c := nth b.ctrs c) (h := (nth b.hours hr).load) (own := own) (n := n) hw)
         clear hw hzz
         go_wp2_with fail
         go_roundw
         case rel => exact ⟨2, by omega, by go_num, by rw [HU.out]; exact hown, hB⟩
         case measure => simp [intOf]
       · have hw : zeroP at_ 1 = true := by simp [zeroP, hzz]
         have hqa : (at_ == 0) = false := by simp [hzz]
         have HU := hide (waysU_go1 (c := nth b.ctrs c) (h := (nth b.hours hr).load) (own := own) (n := n) hw)
         clear hw hzz
         go_upto_region 13 with (fail)
         have hbq : Blk (wr.alloc (.cells #[.int .i64 c, .int .i64 hr, .int .i64 0] 492)) wr.heap.size 492 #[.int .i64 c, .int .i64 hr, .int .i64 0] := Blk.made
         have hBq : Below wz.heap.size wz (wr.alloc (.cells #[.int .i64 c, .int .i64 hr, .int .i64 0] 492)) := hB.trans ((Below.refl _ _).alloc hB.size _)
         have hoq : World.ownsRow (wr.alloc (.cells #[.int .i64 c, .int .i64 hr, .int .i64 0] 492)) wz.heap.size 494 3 u7 _ _ := own_stab hown (fun q hq _ => Below.heap_alloc _ _ q hq)
         have hneq : ∀ k, u7.ownBlock = some k → k ≠ wr.heap.size := fun k hk => by have := (World.ownsRow.lt hown k hk).2; omega
         have hqz : wz.heap.size ≤ wr.heap.size := hB.size
         generalize (wr.alloc (.cells #[.int .i64 c, .int .i64 hr, .int .i64 0] 492)) = wq at *
         generalize hqq : wr.heap.size = q at *
         clear hB hown k1 f1 hqq hwr zgr zhr zsr zbr zcr
         have hpl0 : (waysU (nth b.ctrs c) (nth b.hours hr).load own at_ n 1).length ≤ 44 := waysU_len1 (by rw [HM0.out]; omega) (by omega)
         generalize hpre : waysU (nth b.ctrs c) (nth b.hours hr).load own at_ n 1 = pre at *
         have HPRE := hide hpre
         have hpl : pre.length ≤ 44 := hpl0
         clear hpre
         go_loopw [12, 7] (fun V12 V7 w3 => ∃ j : Nat, (j : Int) ≤ hi2 + 1 - m0 ∧ V12 = .int .i64 (m0 + j) ∧ w3.ownsRow wz.heap.size 494 3 V7 (pre ++ waysTo own 0 true m0 j).length (wvals (pre ++ waysTo own 0 true m0 j)) ∧ (∀ k, V7.ownBlock = some k → k ≠ q) ∧ Blk w3 q 492 #[.int .i64 c, .int .i64 hr, .int .i64 0] ∧ Below wz.heap.size wz w3) (fun V12 _ _ => (hi2 + 1 - intOf V12).toNat)
         case atStart => exact ⟨0, by omega, by simp, by simpa [waysTo] using hoq, hneq, hbq, hBq⟩
         case round =>
          clear hoq hneq hbq hBq
          obtain ⟨j, hj, rfl, hown2, hne2, hbq, hB⟩ := hrel
          obtain ⟨k1, f1⟩ := bcell hB
          have hwr := hB.size
          have y2 := hbq.at_ 2
          have y1 := hbq.at_ 1
          simp only [List.getElem?_toArray, List.getElem?_cons_succ, List.getElem?_cons_zero] at y1 y2
          have hwl := waysTo_len own 0 true m0 j
          have hla : (pre ++ waysTo own 0 true m0 j).length = pre.length + (waysTo own 0 true m0 j).length := List.length_append
          by_cases hlt2 : m0 + (j : Int) ≤ hi2
          · generalize hx : m0 + (j : Int) = x at *
            have HX := hide hx
            have hx0 : 0 ≤ x ∧ x ≤ 43 := by omega
            have hj43 : j ≤ 43 := by omega
            clear hx hj
            have hwa : IntKind.i64.wrap x = x := IntWalk.i64_in _ (by omega)
            by_cases ho1 : own = -1
            · have hq1 : (own == -1) = true := by simp [ho1]
              have HOW : Hid (own = -1 ∨ own = x % 100) := .inl ho1
              clear ho1
              have HLN := hide (wayAt_wvals (pre ++ waysTo own 0 true m0 j) (z := true) (n := x) (before := 0) (s := x) (Int.zero_add x) HOW.out)
              have HLT := hide (waysTo_next own 0 true m0 j)
              have hln1 := wayAt_one (own := own) (z := true) (n := x) (before := 0) (s := x) (Int.zero_add x) HOW.out
              go_wp2_with (first
               | (at_builtin
                  go_must (refine wpList_app_row _ rfl (.tmp 112) (.tmp 118) 490 rfl wz.heap.size 494 iw (.agg #[.int .i64 0, .int .i64 0, .bool false]) 3 24 Tryz.underlying490 hiw hw0 hw1 hw2 rfl (by decide) _ _ _ rfl (hown2.alloc _) (some ⟨wr.heap.size, 0, none⟩) 1 1 (wr.heap.size + 1) _ rfl (way_row x (x % 100) true) (way_one _ _ _) ?c3 ?c4 ?c5 ?_)
                  case c3 => simp only [maxLen]; omega
                  case c4 => omega
                  case c5 => simp; omega
                  intro v' w4 hown4 hg4 hor4
                  have hB4 : Below wz.heap.size wr w4 := ((Below.refl _ wr).alloc hwr _).grown hg4 (by simp; omega) (fun k hk => (World.ownsRow.lt hown2 k hk).1)
                  have hq4' : ∀ k, v'.ownBlock = some k → k ≠ q := fun k hk => by
                   rcases hor4 with e | e
                   · exact hne2 k (e ▸ hk)
                   · rw [e] at hk; have := hbq.lt; simp at hk; omega
                  have hb4 : Blk w4 q 492 #[.int .i64 c, .int .i64 hr, .int .i64 0] := (hbq.alloc _).block (hg4.block q (by simp; have := hbq.lt; omega) (fun e => hne2 q e.symm rfl))
                  have hlen4 : (pre ++ waysTo own 0 true m0 (j + 1)).length = (pre ++ waysTo own 0 true m0 j).length + 1 := by rw [HLT.out, ← List.append_assoc, List.length_append, HX.out, hln1]
                  have hval4 : wvals (pre ++ waysTo own 0 true m0 (j + 1)) = wvals (pre ++ waysTo own 0 true m0 j) ++ (List.range (1 * 3)).map (fun j => ([.int .i64 x, .int .i64 (x % 100), .bool true] : List Value).getD j undef) := by rw [HLT.out, ← List.append_assoc, HX.out, HLN.out]; rfl
                  rw [← hlen4, ← hval4] at hown4
                  clear hg4 hor4 hlen4 hval4))
              go_roundw
              case rel => exact ⟨j + 1, by have := HX.out; omega, by have := HX.out; go_num, hown4, hq4', hb4, hB.trans hB4⟩
              case measure => simp [intOf]; omega
            · have hq1 : (own == -1) = false := by simp [ho1]
              by_cases ho2 : own = x % 100
              · have hq2 : (own == x % 100) = true := by simp [ho2]
                have HOW : Hid (own = -1 ∨ own = x % 100) := .inr ho2
                clear ho1 ho2
                have HLN := hide (wayAt_wvals (pre ++ waysTo own 0 true m0 j) (z := true) (n := x) (before := 0) (s := x) (Int.zero_add x) HOW.out)
                have HLT := hide (waysTo_next own 0 true m0 j)
                have hln1 := wayAt_one (own := own) (z := true) (n := x) (before := 0) (s := x) (Int.zero_add x) HOW.out
                go_wp2_with (first
                 | (at_builtin
                    go_must (refine wpList_app_row _ rfl (.tmp 112) (.tmp 118) 490 rfl wz.heap.size 494 iw (.agg #[.int .i64 0, .int .i64 0, .bool false]) 3 24 Tryz.underlying490 hiw hw0 hw1 hw2 rfl (by decide) _ _ _ rfl (hown2.alloc _) (some ⟨wr.heap.size, 0, none⟩) 1 1 (wr.heap.size + 1) _ rfl (way_row x (x % 100) true) (way_one _ _ _) ?c3 ?c4 ?c5 ?_)
                    case c3 => simp only [maxLen]; omega
                    case c4 => omega
                    case c5 => simp; omega
                    intro v' w4 hown4 hg4 hor4
                    have hB4 : Below wz.heap.size wr w4 := ((Below.refl _ wr).alloc hwr _).grown hg4 (by simp; omega) (fun k hk => (World.ownsRow.lt hown2 k hk).1)
                    have hq4' : ∀ k, v'.ownBlock = some k → k ≠ q := fun k hk => by
                     rcases hor4 with e | e
                     · exact hne2 k (e ▸ hk)
                     · rw [e] at hk; have := hbq.lt; simp at hk; omega
                    have hb4 : Blk w4 q 492 #[.int .i64 c, .int .i64 hr, .int .i64 0] := (hbq.alloc _).block (hg4.block q (by simp; have := hbq.lt; omega) (fun e => hne2 q e.symm rfl))
                    have hlen4 : (pre ++ waysTo own 0 true m0 (j + 1)).length = (pre ++ waysTo own 0 true m0 j).length + 1 := by rw [HLT.out, ← List.append_assoc, List.length_append, HX.out, hln1]
                    have hval4 : wvals (pre ++ waysTo own 0 true m0 (j + 1)) = wvals (pre ++ waysTo own 0 true m0 j) ++ (List.range (1 * 3)).map (fun j => ([.int .i64 x, .int .i64 (x % 100), .bool true] : List Value).getD j undef) := by rw [HLT.out, ← List.append_assoc, HX.out, HLN.out]; rfl
                    rw [← hlen4, ← hval4] at hown4
                    clear hg4 hor4 hlen4 hval4))
                go_roundw
                case rel => exact ⟨j + 1, by have := HX.out; omega, by have := HX.out; go_num, hown4, hq4', hb4, hB.trans hB4⟩
                case measure => simp [intOf]; omega
              · have hq2 : (own == x % 100) = false := by simp [ho2]
                have HLT := hide (waysTo_next own 0 true m0 j)
                have HNO := hide (wayAt_no (z := true) (n := x) (before := 0) (s := x) (Int.zero_add x) ho1 ho2)
                clear ho1 ho2
                go_wp2_with fail
                go_roundw
                case rel => exact ⟨j + 1, by have := HX.out; omega, by have := HX.out; go_num, by rw [HLT.out, HX.out, HNO.out, List.append_nil]; exact hown2, hne2, hbq, hB⟩
                case measure => simp [intOf]; omega
          · have hjj : j = (hi2 + 1 - m0).toNat := by omega
            have HE := hide (show waysU (nth b.ctrs c) (nth b.hours hr).load own at_ n 2 = pre ++ waysTo own 0 true m0 j by rw [HU.out, hjj, waysZ, HM0.out, HH2.out])
            clear hjj
            go_wp2_with fail
            go_roundw
            case rel => exact ⟨2, by omega, by go_num, by rw [HE.out]; exact hown2, hB⟩
            case measure => simp [intOf]
    · obtain rfl : z = 2 := by omega
      replace hV : _ = Value.int .i64 2 := hV
      subst hV
      rw [← HWV.out] at hown
      have hwa := waysAt_own hown
      have hcr := (HLZ.out.k.below hB).below ((Below.refl _ _).drew)
      have hwa2 := hwa.heap (w' := wr.drew) (fun k _ => rfl)
      obtain ⟨w5, hrun, hc5, hg5, hw5⟩ := hcr.store ⟨c, hr, n⟩ HSO.out hwa2
      simp only [standVal, iv] at hrun
      have HC5 := hide hc5
      have HW5 := hide hw5
      have HK5 : Hid (Keep (fun k => k = bm) w w5) := ((Keep.of_below' HBZ.out _).trans (Keep.of_below' hB _)).trans ((Keep.of_below' ((Below.refl _ _).drew) _).trans ((Keep.of_grown hg5).mono (fun k _ h => Option.some.inj h)))
      obtain ⟨hgl, p0, p1, p2, p3⟩ := HLZ.out.cells
      clear hwa hcr hwa2 hc5 hg5 hw5 hown p0 p1 p2
      go_upto_region 20 with (fail)
      apply wp_one
      case h =>
       go_region
       all_goals exact ⟨rfl, rfl, rfl⟩
      case hq =>
      clear hrun hB k1 f1
      go_wp2_with fail
      refine bodyPost_ret (v := u7) (by simp [results, Tryz.results355, go_sem]) rfl ⟨_, rfl, HW5.out, HK5.out, HC5.out⟩
  clear hK
  go_region
  · show K _ _
    apply key
    · exact Blk.next (Blk.alloc Blk.made _) ((Below.refl _ _).drew)
    · exact Blk.next (Blk.made' (World.size_alloc _ _)) ((Below.refl _ _).drew)
    · exact (((Below.refl _ _).alloc (Nat.le_refl _) _).alloc (by simp) _).drew
  · show K _ _
    apply key
    · exact Blk.next (Blk.made' (World.size_alloc _ _)) ((Below.refl _ _).drew)
    · exact Blk.next (Blk.alloc Blk.made _) ((Below.refl _ _).drew)
    · exact (((Below.refl _ _).alloc (Nat.le_refl _) _).alloc (by simp) _).drew
end Go.Proofs.YtkaahiddngmdbaaGreatDoor
