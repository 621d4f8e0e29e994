/- The contract of the law's Told: a file whose papers say what is so of some places. -/
import Derived.Test.YtllmahcanipcpaaGreatSZ
import Derived.Test.YtllmahcanipcpaaGreatHJ
import Derived.Test.YtllmahcanipcpaaGreatST
import Derived.OwnWalkIn
import Derived.TacticsInMore
import Derived.Deep.DeepCutAuto
set_option linter.unusedVariables false
set_option linter.unusedSimpArgs false
namespace Go.Proofs.YtllmahcanipcpaaGreat
open Go.RowKit
attribute [local go_sem ↓] Go.wp_at_zero Go.wp_at_succ
attribute [local go_sem] Oper.semAt_some

theorem Tryz.infoPaper2 : (Tryz.prog.info? 98).map (fun i => (i.zero, i.size, i.bytes)) = some (some (.agg #[.int .i64 0, .int .i64 0, .int .i64 0]), 3, 24) := by kernel_rfl
theorem papers_one2 (xs : List Paper) (j : Nat) : (papersF xs j).oneCell' = true := by
  unfold papersF; rfl
def ToldM (f : File) (g : List Int) (i : Nat) (xs : List Paper) : Prop := xs.length = f.papers.length ∧ ∀ q, q < f.papers.length → nth xs q = if q < i then toldP f g (nth f.papers q) else nth f.papers q
theorem ToldM.put {f : File} {g : List Int} {xs : List Paper} {i : Nat} (h : ToldM f g i xs) (hi : i < f.papers.length) : ToldM f g (i + 1) (xs.set i (toldP f g (nth f.papers i))) := by
  obtain ⟨h1, h2⟩ := h
  refine ⟨by rw [List.length_set]; exact h1, fun q hq => ?_⟩
  by_cases e : q = i
  · subst e; rw [if_pos (Nat.lt_succ_self _)]; simp [nth, h1, hq]
  · have : nth (xs.set i (toldP f g (nth f.papers i))) q = nth xs q := by simp [nth, List.getElem?_set, Ne.symm e]
    rw [this, h2 q hq]
    by_cases h3 : q < i
    · rw [if_pos h3, if_pos (by omega)]
    · rw [if_neg h3, if_neg (by omega)]
theorem ToldM.done {f : File} {g : List Int} {xs : List Paper} (h : ToldM f g f.papers.length xs) : xs = f.papers.map (toldP f g) := by
  refine List.ext_getElem (by rw [h.1, List.length_map]) fun q h1 h2 => ?_
  have hq : q < f.papers.length := by rw [← h.1]; exact h1
  have := h.2 q hq
  rw [if_pos hq, nth_eq h1, nth_eq hq] at this
  rw [this, List.getElem_map]
theorem range_setP {n i : Nat} (hi : i < n) (xs : List Paper) (hx : xs.length = n) (s : Paper) :
    (((((List.range (n * 3)).map (papersF xs)).set (i * 3) (.int .i64 s.says)).set (i * 3 + 1) (.int .i64 s.lot)).set (i * 3 + 2) (.int .i64 s.of_)) = (List.range (n * 3)).map (papersF (xs.set i s)) := by
  apply List.ext_getElem (by simp)
  intro j h1 h2
  have hj : j < n * 3 := by simpa using h2
  have e0 : nth (xs.set i s) i = s := by simp [nth, hx, hi]
  have e1 : ∀ k, k ≠ i → nth (xs.set i s) k = nth xs k := fun k hk => by simp [nth, List.getElem?_set, Ne.symm hk]
  simp only [List.getElem_set, List.getElem_map, List.getElem_range]
  by_cases a : i * 3 + 2 = j
  · subst a; rw [if_pos rfl, papersF, show (i * 3 + 2) % 3 = 2 by omega, show (i * 3 + 2) / 3 = i by omega, e0]; rfl
  · rw [if_neg a]
    by_cases b : i * 3 + 1 = j
    · subst b; rw [if_pos rfl, papersF, show (i * 3 + 1) % 3 = 1 by omega, show (i * 3 + 1) / 3 = i by omega, e0]; rfl
    · rw [if_neg b]
      by_cases d : i * 3 = j
      · subst d; rw [if_pos rfl, papersF, show (i * 3) % 3 = 0 by omega, show (i * 3) / 3 = i by omega, e0]; rfl
      · rw [if_neg d, papersF, papersF, e1 (j / 3) (by omega)]
/-- A row of numbers does not lie in a block of slices. -/
theorem ints_off {w : World} {B n c g : Nat} {A : Option Addr} {xs : List Int} {T : TypeId} {vs : Array Value} (h : IntsS w B A n c xs) (hb : Blk w g T vs) (hv : ∀ (j : Nat) (v : Value), vs[j]? = some v → ∃ a m k, v = Value.slice a m k) {b o : Nat} (e : A = some ⟨b, o, none⟩) (hn : 0 < n) : b ≠ g := by
  obtain ⟨b', o', e', _, hc⟩ := h.row hn
  rw [e] at e'
  injection e' with e'
  injection e' with e1 e2
  intro hbg
  have h0 := hc 0 hn
  rw [← e1, hbg, hb.at_] at h0
  obtain ⟨a, m, k, hv2⟩ := hv _ _ h0
  rw [intsF] at hv2
  cases hv2
set_option maxHeartbeats 4000000 in
set_option maxRecDepth 100000 in
theorem told11_any {f : File} {fa : FA} {w : World} (h : FileV w w.heap.size f fa) (hval : Valid f) {x : Int} (hx : 0 ≤ x ∧ x ≤ 255) {g : List Int} (hg0 : nth (allP f) (x.toNat % (allP f).length) = g) :
    Calls Tryz.prog 26 #[fileVal f fa, .int .u8 x] w fun e w' => ∃ fb A cp, e = .returned (.tuple #[fileVal (toldF f g) fb, .slice A f.lots.length cp]) ∧ FileV w' w'.heap.size (toldF f g) fb ∧ IntsS w' w'.heap.size A f.lots.length cp g ∧ Below w.heap.size w w' := by
  have hpl := hval.papers
  have hll := hval.lots
  have hne : 0 < (allP f).length := by
    cases hh : allP f with
    | nil => exact absurd hh (allP_ne hval)
    | cons _ _ => simp
  have h256 := allTo_256 hval (Nat.le_refl _)
  have hPL := hide (fun y (hy : y ∈ allP f) => allP_pl hval hy)
  have HG0 := hide hg0
  clear hg0
  generalize hall : allP f = all at *
  have HALL := hide hall
  rw [show allTo f f.lots.length = all from hall] at h256
  clear hall
  have hkm : x.toNat % all.length < all.length := Nat.mod_lt _ hne
  obtain ⟨k, HK0⟩ : ∃ k : Nat, Hid (x.toNat % all.length = k) := ⟨_, hide rfl⟩
  rw [HK0.out] at hkm HG0
  have hmo : x.tmod (all.length : Int) = (k : Int) := by rw [Int.tmod_eq_emod_of_nonneg hx.1, ← HK0.out, Int.natCast_emod, Int.toNat_of_nonneg hx.1]
  have hxw : IntKind.i64.wrap x = x := IntWalk.i64_in _ (by omega)
  have hkw : IntKind.i64.wrap (k : Int) = (k : Int) := IntWalk.i64_in _ (by omega)
  have hnz : (all.length : Int) ≠ 0 := by omega
  have hk0 : (0 : Int) ≤ (k : Int) := Int.natCast_nonneg _
  have hk1 : (k : Int) < (all.length : Int) := by omega
  have HPG := hide (hPL.out g (by rw [← HG0.out, nth_eq hkm]; exact List.getElem_mem hkm))
  clear hPL
  obtain ⟨i0, hI0, hz00, hz01, hz02⟩ := info_parts Tryz.infoPaper2
  have hB1 : Below w.heap.size w ((w.alloc (.cells (fileCells f fa) 28)).alloc (.cells #[.slice none 0 0, .slice none 0 0, .slice none 0 0, .slice none 0 0, .slice none 0 0] 28)) := ((Below.refl _ _).alloc (Nat.le_refl _) _).alloc (by simp) _
  have bb : Blk ((w.alloc (.cells (fileCells f fa) 28)).alloc (.cells #[.slice none 0 0, .slice none 0 0, .slice none 0 0, .slice none 0 0, .slice none 0 0] 28)) w.heap.size 28 (fileCells f fa) := Blk.made.alloc _
  have br : Blk ((w.alloc (.cells (fileCells f fa) 28)).alloc (.cells #[.slice none 0 0, .slice none 0 0, .slice none 0 0, .slice none 0 0, .slice none 0 0] 28)) (w.heap.size + 1) 28 #[.slice none 0 0, .slice none 0 0, .slice none 0 0, .slice none 0 0, .slice none 0 0] := Blk.made' (by simp)
  have HV := hide (h.next hB1)
  have HB := hide hB1
  have BB := hide bb
  have BR := hide br
  have HC := hide h
  have HVD := hide hval
  have hs0 : ((w.alloc (.cells (fileCells f fa) 28)).alloc (.cells #[.slice none 0 0, .slice none 0 0, .slice none 0 0, .slice none 0 0, .slice none 0 0] 28)).heap.size = w.heap.size + 2 := by simp
  have HS0 := hide hs0
  clear hB1 bb br h hval hs0
  go_enter Tryz.func26, Tryz.ntmps26
  go_upto_region 1 with (fail)
  generalize ((w.alloc (.cells (fileCells f fa) 28)).alloc (.cells #[.slice none 0 0, .slice none 0 0, .slice none 0 0, .slice none 0 0, .slice none 0 0] 28)) = v0 at *
  have p0 := BB.out.at_ 0
  have p1 := BB.out.at_ 1
  have p2 := BB.out.at_ 2
  have p3 := BB.out.at_ 3
  have p4 := BB.out.at_ 4
  simp only [fileCells, List.getElem?_toArray, List.getElem?_cons_zero, List.getElem?_cons_succ] at p0 p1 p2 p3 p4
  have hc := places_any HV.out HVD.out
  rw [HALL.out] at hc
  go_upto_region 2 with (go_at_call 67; refine hc.mono ?_; rintro e v1 ⟨AT, cT, rfl, hT, hb⟩)
  clear hc
  obtain ⟨ba, oa, Ag, cg, rfl, hba, hac, hgi⟩ := hT.at_ hkm
  rw [HG0.out] at hac hgi
  have hgl : g.length = f.lots.length := HPG.out.1
  rw [hgl] at hac hgi
  clear hgl
  have HGI := hide hgi
  have HG1 := hide hgi
  have HB1 := hide (HB.out.trans (hb.mono HB.out.size))
  have BB := hide (BB.out.next hb)
  have BR := hide (BR.out.next hb)
  have HSE := hide ((HV.out.next hb).papers)
  have hsv : w.heap.size + 2 ≤ v1.heap.size := by have := hb.size; have := HS0.out; omega
  clear hb hT hgi p0 p1 p2 p3 p4 HV HB HS0
  have b3 : v1.cell? ⟨w.heap.size, 3, none⟩ = some (.slice fa.A4 f.papers.length fa.c4) := BB.out.at_ 3
  have g3 := BB.out.free 3
  have zb0 := BB.out.lt
  have HGO := hide (fun (b o : Nat) (e : Ag = some ⟨b, o, none⟩) (hn : 0 < f.lots.length) => ints_off HGI.out BB.out (fun j v hj => by
    unfold fileCells at hj
    match j with
    | 0 => exact ⟨_, _, _, (Option.some.inj hj).symm⟩
    | 1 => exact ⟨_, _, _, (Option.some.inj hj).symm⟩
    | 2 => exact ⟨_, _, _, (Option.some.inj hj).symm⟩
    | 3 => exact ⟨_, _, _, (Option.some.inj hj).symm⟩
    | 4 => exact ⟨_, _, _, (Option.some.inj hj).symm⟩
    | j + 5 => simp at hj) e hn)
  go_upto_region 3 with (fail)
  clear hmo hxw hkw hnz hac hba
  go_wp2_with (first
    | (at_builtin
       refine wpList_app_row _ rfl _ _ 25 rfl v1.heap.size 98 i0 (.agg #[.int .i64 0, .int .i64 0, .int .i64 0]) 3 24 Tryz.underlying25 hI0 hz00 hz01 hz02 rfl (by decide) (.slice (some ⟨v1.heap.size, 0, none⟩) 0 0) 0 [] rfl (World.ownsRow_lit _ #[] 0 (Nat.le_refl _) (by simp [maxLen]) rfl) fa.A4 f.papers.length fa.c4 v1.heap.size (papersF f.papers) rfl (HSE.out.below ((Below.refl _ _).alloc (Nat.le_refl _) _)) (fun j hj => papers_one2 _ j) (by simp only [maxLen]; omega) (by omega) (by simp) ?_
       intro v' w1 hown hg hblk
       have hbA : Below v1.heap.size v1 w1 := ((Below.refl _ v1).alloc (Nat.le_refl _) (.cells #[] 98)).grown hg (by simp) (fun k hk => by simp [Value.ownBlock] at hk; omega)
       rw [Nat.zero_add, List.nil_append] at hown
       obtain ⟨AS, cS, rfl, hown⟩ := own_ex hown
       have b3' := (hbA.cell (p := ⟨w.heap.size, 3, none⟩) zb0).trans b3
       have g3' := (hbA.frozen (p := ⟨w.heap.size, 3, none⟩) zb0).trans g3
       have HBA := hide hbA
       have HOW := hide hown
       clear hg hblk hbA hown))
  have hk1 : Keep (fun q => q = w.heap.size) w1 (w1.setCell ⟨w.heap.size, 3, none⟩ (.slice AS f.papers.length cS)) := Keep.setCell _ _ _ (fun q => q = w.heap.size) rfl
  have bb2 : Blk (w1.setCell ⟨w.heap.size, 3, none⟩ (.slice AS f.papers.length cS)) w.heap.size 28 #[.slice fa.A1 f.parties.length fa.c1, .slice fa.A2 f.untils.length fa.c2, .slice fa.A3 f.lots.length fa.c3, .slice AS f.papers.length cS, .slice fa.A5 f.claims.length fa.c5] := (BB.out.next HBA.out).store 3 _
  have br2 : Blk (w1.setCell ⟨w.heap.size, 3, none⟩ (.slice AS f.papers.length cS)) (w.heap.size + 1) 28 #[.slice none 0 0, .slice none 0 0, .slice none 0 0, .slice none 0 0, .slice none 0 0] := (BR.out.next HBA.out).else_ (p := ⟨w.heap.size, 3, none⟩) (Nat.succ_ne_self _) _
  have HGI := hide ((HGI.out.next HBA.out).stab (w' := w1.setCell ⟨w.heap.size, 3, none⟩ (.slice AS f.papers.length cS)) hk1.size (fun b o hb e hn => hk1.block b hb (HGO.out b o e hn)))
  have HOW := hide (own_kept HOW.out hk1 (fun b hb2 hS => by omega))
  have HB2 := hide ((HB1.out.trans (HBA.out.mono HB1.out.size)).setCell (p := ⟨w.heap.size, 3, none⟩) (Nat.le_refl _) (.slice AS f.papers.length cS))
  have HSZ2 := hide (show v1.heap.size ≤ (w1.setCell ⟨w.heap.size, 3, none⟩ (.slice AS f.papers.length cS)).heap.size by have := HBA.out.size; have := hk1.size; omega)
  have BB := hide bb2
  have BR := hide br2
  clear hk1 bb2 br2 b3 g3 b3' g3' zb0 HBA hI0 hz00 hz01 hz02 HSE
  generalize w1.setCell ⟨w.heap.size, 3, none⟩ (.slice AS f.papers.length cS) = v2 at *
  go_wp2_with fail
  go_loopw [8, 9] (fun v8 _ wr => ∃ (i : Nat) (xs : List Paper), i ≤ f.papers.length ∧ v8 = .int .i64 i ∧ Keep (fun q => (.slice AS f.papers.length cS : Value).ownBlock = some q) v2 wr ∧ Below w.heap.size w wr ∧ wr.ownsRow v1.heap.size 98 3 (.slice AS f.papers.length cS) f.papers.length ((List.range (f.papers.length * 3)).map (papersF xs)) ∧ Hid (ToldM f g i xs)) (fun v8 _ _ => f.papers.length - (intOf v8).toNat)
  case atStart => exact ⟨0, f.papers, Nat.zero_le _, rfl, Keep.refl _ _, HB2.out, HOW.out, hide ⟨rfl, fun q _ => by rw [if_neg (Nat.not_lt_zero _)]⟩⟩
  case round =>
    obtain ⟨i, xs, hi', rfl, hKp, hBw, hO, HTM⟩ := hrel
    have hi0' : (0 : Int) ≤ (i : Int) := Int.natCast_nonneg _
    have bbr := BB.out.keep hKp (fun e => by have := (HOW.out.lt _ e).1; omega)
    have HKP := hide hKp
    have HBW := hide hBw
    have BBR := hide bbr
    have HO := hide hO
    have d3 : wr.cell? ⟨w.heap.size, 3, none⟩ = some (.slice AS f.papers.length cS) := bbr.at_ 3
    have hzr := bbr.lt
    have HXL := hide (HTM.out.1)
    clear hKp hBw bbr
    by_cases hli : i < f.papers.length
    · have hi1' : (i : Int) < (f.papers.length : Int) := by omega
      obtain ⟨gs, hAS, hgs, hgz⟩ := own_addr hO (by omega)
      subst hAS
      have HKS := hide (show ∀ (W : World) (o : Nat) (u : Value), Keep (fun q => (Value.slice (some ⟨gs, 0, none⟩) f.papers.length cS).ownBlock = some q) W (W.setCell ⟨gs, o, none⟩ u) from fun W o u => Keep.setCell _ _ _ _ rfl)
      have hxe : nth xs i = nth f.papers i := by have := HTM.out.2 i hli; rwa [if_neg (Nat.lt_irrefl _)] at this
      have hpp := HVD.out.paper i hli
      have HPT := hide (HTM.out.put hli)
      have hrow := (row_fun hO)
      have s0 : wr.cell? ⟨gs, i * 3, none⟩ = some (.int .i64 (nth f.papers i).says) := by rw [World.ownsRow.cellAt hO (i * 3) (by omega)]; simp [show i * 3 < f.papers.length * 3 by omega, papersF, show i * 3 % 3 = 0 by omega, show i * 3 / 3 = i by omega, hxe]
      have s1 : wr.cell? ⟨gs, i * 3 + 1, none⟩ = some (.int .i64 (nth f.papers i).lot) := by rw [World.ownsRow.cellAt hO (i * 3 + 1) (by omega)]; simp [show i * 3 + 1 < f.papers.length * 3 by omega, papersF, show (i * 3 + 1) % 3 = 1 by omega, show (i * 3 + 1) / 3 = i by omega, hxe]
      have s2 : wr.cell? ⟨gs, i * 3 + 2, none⟩ = some (.int .i64 (nth f.papers i).of_) := by rw [World.ownsRow.cellAt hO (i * 3 + 2) (by omega)]; simp [show i * 3 + 2 < f.papers.length * 3 by omega, papersF, show (i * 3 + 2) % 3 = 2 by omega, show (i * 3 + 2) / 3 = i by omega, hxe]
      have HRW := hide hrow
      clear hxe hO hrow
      generalize nth f.papers i = p at *
      obtain ⟨ps, pl, po⟩ := p
      dsimp only at hpp s0 s1 s2
      have hps0 := hpp.1
      have hps3 := hpp.2.1
      have HPP := hide hpp
      clear hpp
      go_upto_region 8 with (fail)
      have hbn : Below wr.heap.size wr (wr.alloc (.cells #[.int .i64 ps, .int .i64 pl, .int .i64 po] 98)) := (Below.refl _ _).alloc (Nat.le_refl _) _
      have BN : Hid (Blk (wr.alloc (.cells #[.int .i64 ps, .int .i64 pl, .int .i64 po] 98)) wr.heap.size 98 #[.int .i64 ps, .int .i64 pl, .int .i64 po]) := hide Blk.made
      have D3 := hide d3
      have S0 := hide s0
      have S1 := hide s1
      have S2 := hide s2
      clear d3 s0 s1 s2
      generalize wr.alloc (.cells #[.int .i64 ps, .int .i64 pl, .int .i64 po] 98) = wc at *
      have hBc := HBW.out.trans (hbn.mono HBW.out.size)
      have hvv := HC.out.next hBc
      have hrr := HRW.out
      have hFV : FileV wc wc.heap.size { f with papers := xs } ⟨fa.A1, fa.A2, fa.A3, (some ⟨gs, 0, none⟩), fa.A5, fa.c1, fa.c2, fa.c3, cS, fa.c5, fa.R, fa.K⟩ :=
        ⟨hvv.parties, hvv.untils, hvv.lots, by rw [show ({ f with papers := xs } : File).papers.length = f.papers.length from HXL.out]; exact (hrr.2.2.below hbn).more hbn.size, hvv.claims, hvv.routes, hvv.small, hvv.fit, hvv.m1, hvv.m2, hvv.m3, by rw [show ({ f with papers := xs } : File).papers.length = f.papers.length from HXL.out]; exact ⟨hrr.1, hrr.2.1⟩, hvv.m5⟩
      have hkc : Keep (fun q => (Value.slice (some ⟨gs, 0, none⟩) f.papers.length cS).ownBlock = some q) v2 wc := HKP.out.trans (Keep.of_below' hbn _)
      have hgw := HGI.out.stab hkc.size (fun b o hb e hn => hkc.block b hb (fun hS => by
        have h1 := (HOW.out.lt _ hS).1
        obtain ⟨b', o', e', hb', _⟩ := (HG1.out).row hn
        rw [e] at e'
        injection e' with e'
        injection e' with e1 e2
        omega))
      have hc := so7_any hFV hgw ⟨HPG.out.1, HPG.out.2⟩ ⟨ps, pl, po⟩ ⟨HPP.out.1, HPP.out.2.1, HPP.out.2.2.1, HPP.out.2.2.2.1, fun h2 => ⟨(HPP.out.2.2.2.2.2 h2).1, (HPP.out.2.2.2.2.2 h2).2.1⟩⟩
      rw [show fileVal ({ f with papers := xs } : File) ⟨fa.A1, fa.A2, fa.A3, (some ⟨gs, 0, none⟩), fa.A5, fa.c1, fa.c2, fa.c3, cS, fa.c5, fa.R, fa.K⟩ = .agg #[.slice fa.A1 f.parties.length fa.c1, .slice fa.A2 f.untils.length fa.c2, .slice fa.A3 f.lots.length fa.c3, .slice (some ⟨gs, 0, none⟩) f.papers.length cS, .slice fa.A5 f.claims.length fa.c5] by simp [fileVal, fileCells, HXL.out], show soP ({ f with papers := xs } : File) ⟨ps, pl, po⟩ g = soP f ⟨ps, pl, po⟩ g from rfl] at hc
      have e0 := ((BBR.out.next hbn)).at_ 0
      have e1 := ((BBR.out.next hbn)).at_ 1
      have e2 := ((BBR.out.next hbn)).at_ 2
      have e3 := ((BBR.out.next hbn)).at_ 3
      have e4 := ((BBR.out.next hbn)).at_ 4
      have y0 := BN.out.at_ 0
      have y1 := BN.out.at_ 1
      have y2 := BN.out.at_ 2
      simp only [List.getElem?_toArray, List.getElem?_cons_zero, List.getElem?_cons_succ] at e0 e1 e2 e3 e4 y0 y1 y2
      clear hBc hvv hrr hFV hgw hkc
      cases hso : soP f ⟨ps, pl, po⟩ g with
      | true =>
        rw [hso] at hc
        dsimp only at hc
        go_wp2_with fail
        clear e0 e1 e2 e3 e4 y0 y1 y2
        refine hc.mono ?_
        rintro e w5 ⟨rfl, hb5⟩
        have HB5 := hide (hbn.trans (hb5.mono hbn.size))
        have bn5 := BN.out.next hb5
        have HTS := hide (show toldP f g ⟨ps, pl, po⟩ = ⟨ps, pl, po⟩ by unfold toldP; rw [hso]; rfl)
        have hzb := bn5.lt
        have y0 : w5.cell? ⟨wr.heap.size, 0, none⟩ = some (.int .i64 ps) := bn5.at_ 0
        have y1 : w5.cell? ⟨wr.heap.size, 1, none⟩ = some (.int .i64 pl) := bn5.at_ 1
        have y2 : w5.cell? ⟨wr.heap.size, 2, none⟩ = some (.int .i64 po) := bn5.at_ 2
        have g0 := bn5.free 0
        have BN5 := hide bn5
        clear hb5 bn5 hso hc
        have d3 := (HB5.out.cell (p := ⟨w.heap.size, 3, none⟩) hzr).trans D3.out
        have s0 := (HB5.out.cell (p := ⟨gs, i * 3, none⟩) hgz).trans S0.out
        have s1 := (HB5.out.cell (p := ⟨gs, i * 3 + 1, none⟩) hgz).trans S1.out
        have s2 := (HB5.out.cell (p := ⟨gs, i * 3 + 2, none⟩) hgz).trans S2.out
        have HO5 := hide (own_stab HO.out (fun b hb2 _ => HB5.out.block b hb2))
        have u0 := World.ownsRow.frozenAt HO5.out (i * 3)
        have u1 := World.ownsRow.frozenAt HO5.out (i * 3 + 1)
        have u2 := World.ownsRow.frozenAt HO5.out (i * 3 + 2)
        go_wp2_with fail
        go_roundw
        case rel =>
          refine ⟨i + 1, xs.set i (toldP f g ⟨ps, pl, po⟩), by omega, by go_num, ?_, ?_, ?_, HPT⟩
          · exact ((((HKP.out.trans (Keep.of_below' HB5.out _)).trans (HKS.out _ _ _)).trans (HKS.out _ _ _)).trans (HKS.out _ _ _))
          · exact ((((HBW.out.trans (HB5.out.mono HBW.out.size)).setCell (p := ⟨gs, i * 3, none⟩) (by show _ ≤ gs; omega) _).setCell (p := ⟨gs, i * 3 + 1, none⟩) (by show _ ≤ gs; omega) _).setCell (p := ⟨gs, i * 3 + 2, none⟩) (by show _ ≤ gs; omega) _)
          · rw [← range_setP hli xs HXL.out, HTS.out]
            exact own_set (own_set (own_set HO5.out _ _) _ _) _ _
        case measure => simp [intOf]; omega
      | false =>
        rw [hso] at hc
        dsimp only at hc
        go_wp2_with fail
        clear e0 e1 e2 e3 e4 y0 y1 y2
        have hs4 : ps = 0 ∨ ps = 1 ∨ ps = 2 ∨ ps = 3 := by omega
        clear hps0 hps3
        rcases hs4 with rfl | rfl | rfl | rfl
        · refine hc.mono ?_
          rintro e w5 ⟨rfl, hb5⟩
          have HB5 := hide (hbn.trans (hb5.mono hbn.size))
          have bn5 := BN.out.next hb5
          have HTS := hide (show toldP f g ⟨0, pl, po⟩ = ⟨1, pl, po⟩ by unfold toldP; rw [hso]; rfl)
          have hzb := bn5.lt
          have y0 : w5.cell? ⟨wr.heap.size, 0, none⟩ = some (.int .i64 0) := bn5.at_ 0
          have y1 : w5.cell? ⟨wr.heap.size, 1, none⟩ = some (.int .i64 pl) := bn5.at_ 1
          have y2 : w5.cell? ⟨wr.heap.size, 2, none⟩ = some (.int .i64 po) := bn5.at_ 2
          have g0 := bn5.free 0
          have BN5 := hide bn5
          clear hb5 bn5 hso hc
          go_upto_region 10 with (fail)
          have HB6 := hide ((HB5.out.setCell (p := ⟨wr.heap.size, 0, none⟩) (Nat.le_refl _) (.int .i64 1)).alloc (by have := HB5.out.size; simp; omega) (.cells #[.int .i64 1, .int .i64 0, .int .i64 3, .int .i64 2] 3))
          have BN6 : Hid (Blk ((w5.setCell ⟨wr.heap.size, 0, none⟩ (.int .i64 1)).alloc (.cells #[.int .i64 1, .int .i64 0, .int .i64 3, .int .i64 2] 3)) wr.heap.size 98 #[.int .i64 1, .int .i64 pl, .int .i64 po]) := hide ((BN5.out.store 0 _).alloc _)
          clear y0 y1 y2 g0 hzb HB5 BN5
          generalize ((w5.setCell ⟨wr.heap.size, 0, none⟩ (.int .i64 1)).alloc (.cells #[.int .i64 1, .int .i64 0, .int .i64 3, .int .i64 2] 3)) = w6 at *
          have y0 : w6.cell? ⟨wr.heap.size, 0, none⟩ = some (.int .i64 1) := BN6.out.at_ 0
          have y1 : w6.cell? ⟨wr.heap.size, 1, none⟩ = some (.int .i64 pl) := BN6.out.at_ 1
          have y2 : w6.cell? ⟨wr.heap.size, 2, none⟩ = some (.int .i64 po) := BN6.out.at_ 2
          have d3 := (HB6.out.cell (p := ⟨w.heap.size, 3, none⟩) hzr).trans D3.out
          have s0 := (HB6.out.cell (p := ⟨gs, i * 3, none⟩) hgz).trans S0.out
          have s1 := (HB6.out.cell (p := ⟨gs, i * 3 + 1, none⟩) hgz).trans S1.out
          have s2 := (HB6.out.cell (p := ⟨gs, i * 3 + 2, none⟩) hgz).trans S2.out
          have HO5 := hide (own_stab HO.out (fun b hb2 _ => HB6.out.block b hb2))
          have u0 := World.ownsRow.frozenAt HO5.out (i * 3)
          have u1 := World.ownsRow.frozenAt HO5.out (i * 3 + 1)
          have u2 := World.ownsRow.frozenAt HO5.out (i * 3 + 2)
          go_wp2_with fail
          go_roundw
          case rel =>
            refine ⟨i + 1, xs.set i (toldP f g ⟨0, pl, po⟩), by omega, by go_num, ?_, ?_, ?_, HPT⟩
            · exact ((((HKP.out.trans (Keep.of_below' HB6.out _)).trans (HKS.out _ _ _)).trans (HKS.out _ _ _)).trans (HKS.out _ _ _))
            · exact ((((HBW.out.trans (HB6.out.mono HBW.out.size)).setCell (p := ⟨gs, i * 3, none⟩) (by show _ ≤ gs; omega) _).setCell (p := ⟨gs, i * 3 + 1, none⟩) (by show _ ≤ gs; omega) _).setCell (p := ⟨gs, i * 3 + 2, none⟩) (by show _ ≤ gs; omega) _)
            · rw [← range_setP hli xs HXL.out, HTS.out]
              exact own_set (own_set (own_set HO5.out _ _) _ _) _ _
          case measure => simp [intOf]; omega
        · refine hc.mono ?_
          rintro e w5 ⟨rfl, hb5⟩
          have HB5 := hide (hbn.trans (hb5.mono hbn.size))
          have bn5 := BN.out.next hb5
          have HTS := hide (show toldP f g ⟨1, pl, po⟩ = ⟨0, pl, po⟩ by unfold toldP; rw [hso]; rfl)
          have hzb := bn5.lt
          have y0 : w5.cell? ⟨wr.heap.size, 0, none⟩ = some (.int .i64 1) := bn5.at_ 0
          have y1 : w5.cell? ⟨wr.heap.size, 1, none⟩ = some (.int .i64 pl) := bn5.at_ 1
          have y2 : w5.cell? ⟨wr.heap.size, 2, none⟩ = some (.int .i64 po) := bn5.at_ 2
          have g0 := bn5.free 0
          have BN5 := hide bn5
          clear hb5 bn5 hso hc
          go_upto_region 10 with (fail)
          have HB6 := hide ((HB5.out.setCell (p := ⟨wr.heap.size, 0, none⟩) (Nat.le_refl _) (.int .i64 0)).alloc (by have := HB5.out.size; simp; omega) (.cells #[.int .i64 1, .int .i64 0, .int .i64 3, .int .i64 2] 3))
          have BN6 : Hid (Blk ((w5.setCell ⟨wr.heap.size, 0, none⟩ (.int .i64 0)).alloc (.cells #[.int .i64 1, .int .i64 0, .int .i64 3, .int .i64 2] 3)) wr.heap.size 98 #[.int .i64 0, .int .i64 pl, .int .i64 po]) := hide ((BN5.out.store 0 _).alloc _)
          clear y0 y1 y2 g0 hzb HB5 BN5
          generalize ((w5.setCell ⟨wr.heap.size, 0, none⟩ (.int .i64 0)).alloc (.cells #[.int .i64 1, .int .i64 0, .int .i64 3, .int .i64 2] 3)) = w6 at *
          have y0 : w6.cell? ⟨wr.heap.size, 0, none⟩ = some (.int .i64 0) := BN6.out.at_ 0
          have y1 : w6.cell? ⟨wr.heap.size, 1, none⟩ = some (.int .i64 pl) := BN6.out.at_ 1
          have y2 : w6.cell? ⟨wr.heap.size, 2, none⟩ = some (.int .i64 po) := BN6.out.at_ 2
          have d3 := (HB6.out.cell (p := ⟨w.heap.size, 3, none⟩) hzr).trans D3.out
          have s0 := (HB6.out.cell (p := ⟨gs, i * 3, none⟩) hgz).trans S0.out
          have s1 := (HB6.out.cell (p := ⟨gs, i * 3 + 1, none⟩) hgz).trans S1.out
          have s2 := (HB6.out.cell (p := ⟨gs, i * 3 + 2, none⟩) hgz).trans S2.out
          have HO5 := hide (own_stab HO.out (fun b hb2 _ => HB6.out.block b hb2))
          have u0 := World.ownsRow.frozenAt HO5.out (i * 3)
          have u1 := World.ownsRow.frozenAt HO5.out (i * 3 + 1)
          have u2 := World.ownsRow.frozenAt HO5.out (i * 3 + 2)
          go_wp2_with fail
          go_roundw
          case rel =>
            refine ⟨i + 1, xs.set i (toldP f g ⟨1, pl, po⟩), by omega, by go_num, ?_, ?_, ?_, HPT⟩
            · exact ((((HKP.out.trans (Keep.of_below' HB6.out _)).trans (HKS.out _ _ _)).trans (HKS.out _ _ _)).trans (HKS.out _ _ _))
            · exact ((((HBW.out.trans (HB6.out.mono HBW.out.size)).setCell (p := ⟨gs, i * 3, none⟩) (by show _ ≤ gs; omega) _).setCell (p := ⟨gs, i * 3 + 1, none⟩) (by show _ ≤ gs; omega) _).setCell (p := ⟨gs, i * 3 + 2, none⟩) (by show _ ≤ gs; omega) _)
            · rw [← range_setP hli xs HXL.out, HTS.out]
              exact own_set (own_set (own_set HO5.out _ _) _ _) _ _
          case measure => simp [intOf]; omega
        · refine hc.mono ?_
          rintro e w5 ⟨rfl, hb5⟩
          have HB5 := hide (hbn.trans (hb5.mono hbn.size))
          have bn5 := BN.out.next hb5
          have HTS := hide (show toldP f g ⟨2, pl, po⟩ = ⟨3, pl, po⟩ by unfold toldP; rw [hso]; rfl)
          have hzb := bn5.lt
          have y0 : w5.cell? ⟨wr.heap.size, 0, none⟩ = some (.int .i64 2) := bn5.at_ 0
          have y1 : w5.cell? ⟨wr.heap.size, 1, none⟩ = some (.int .i64 pl) := bn5.at_ 1
          have y2 : w5.cell? ⟨wr.heap.size, 2, none⟩ = some (.int .i64 po) := bn5.at_ 2
          have g0 := bn5.free 0
          have BN5 := hide bn5
          clear hb5 bn5 hso hc
          go_upto_region 10 with (fail)
          have HB6 := hide ((HB5.out.setCell (p := ⟨wr.heap.size, 0, none⟩) (Nat.le_refl _) (.int .i64 3)).alloc (by have := HB5.out.size; simp; omega) (.cells #[.int .i64 1, .int .i64 0, .int .i64 3, .int .i64 2] 3))
          have BN6 : Hid (Blk ((w5.setCell ⟨wr.heap.size, 0, none⟩ (.int .i64 3)).alloc (.cells #[.int .i64 1, .int .i64 0, .int .i64 3, .int .i64 2] 3)) wr.heap.size 98 #[.int .i64 3, .int .i64 pl, .int .i64 po]) := hide ((BN5.out.store 0 _).alloc _)
          clear y0 y1 y2 g0 hzb HB5 BN5
          generalize ((w5.setCell ⟨wr.heap.size, 0, none⟩ (.int .i64 3)).alloc (.cells #[.int .i64 1, .int .i64 0, .int .i64 3, .int .i64 2] 3)) = w6 at *
          have y0 : w6.cell? ⟨wr.heap.size, 0, none⟩ = some (.int .i64 3) := BN6.out.at_ 0
          have y1 : w6.cell? ⟨wr.heap.size, 1, none⟩ = some (.int .i64 pl) := BN6.out.at_ 1
          have y2 : w6.cell? ⟨wr.heap.size, 2, none⟩ = some (.int .i64 po) := BN6.out.at_ 2
          have d3 := (HB6.out.cell (p := ⟨w.heap.size, 3, none⟩) hzr).trans D3.out
          have s0 := (HB6.out.cell (p := ⟨gs, i * 3, none⟩) hgz).trans S0.out
          have s1 := (HB6.out.cell (p := ⟨gs, i * 3 + 1, none⟩) hgz).trans S1.out
          have s2 := (HB6.out.cell (p := ⟨gs, i * 3 + 2, none⟩) hgz).trans S2.out
          have HO5 := hide (own_stab HO.out (fun b hb2 _ => HB6.out.block b hb2))
          have u0 := World.ownsRow.frozenAt HO5.out (i * 3)
          have u1 := World.ownsRow.frozenAt HO5.out (i * 3 + 1)
          have u2 := World.ownsRow.frozenAt HO5.out (i * 3 + 2)
          go_wp2_with fail
          go_roundw
          case rel =>
            refine ⟨i + 1, xs.set i (toldP f g ⟨2, pl, po⟩), by omega, by go_num, ?_, ?_, ?_, HPT⟩
            · exact ((((HKP.out.trans (Keep.of_below' HB6.out _)).trans (HKS.out _ _ _)).trans (HKS.out _ _ _)).trans (HKS.out _ _ _))
            · exact ((((HBW.out.trans (HB6.out.mono HBW.out.size)).setCell (p := ⟨gs, i * 3, none⟩) (by show _ ≤ gs; omega) _).setCell (p := ⟨gs, i * 3 + 1, none⟩) (by show _ ≤ gs; omega) _).setCell (p := ⟨gs, i * 3 + 2, none⟩) (by show _ ≤ gs; omega) _)
            · rw [← range_setP hli xs HXL.out, HTS.out]
              exact own_set (own_set (own_set HO5.out _ _) _ _) _ _
          case measure => simp [intOf]; omega
        · refine hc.mono ?_
          rintro e w5 ⟨rfl, hb5⟩
          have HB5 := hide (hbn.trans (hb5.mono hbn.size))
          have bn5 := BN.out.next hb5
          have HTS := hide (show toldP f g ⟨3, pl, po⟩ = ⟨2, pl, po⟩ by unfold toldP; rw [hso]; rfl)
          have hzb := bn5.lt
          have y0 : w5.cell? ⟨wr.heap.size, 0, none⟩ = some (.int .i64 3) := bn5.at_ 0
          have y1 : w5.cell? ⟨wr.heap.size, 1, none⟩ = some (.int .i64 pl) := bn5.at_ 1
          have y2 : w5.cell? ⟨wr.heap.size, 2, none⟩ = some (.int .i64 po) := bn5.at_ 2
          have g0 := bn5.free 0
          have BN5 := hide bn5
          clear hb5 bn5 hso hc
          go_upto_region 10 with (fail)
          have HB6 := hide ((HB5.out.setCell (p := ⟨wr.heap.size, 0, none⟩) (Nat.le_refl _) (.int .i64 2)).alloc (by have := HB5.out.size; simp; omega) (.cells #[.int .i64 1, .int .i64 0, .int .i64 3, .int .i64 2] 3))
          have BN6 : Hid (Blk ((w5.setCell ⟨wr.heap.size, 0, none⟩ (.int .i64 2)).alloc (.cells #[.int .i64 1, .int .i64 0, .int .i64 3, .int .i64 2] 3)) wr.heap.size 98 #[.int .i64 2, .int .i64 pl, .int .i64 po]) := hide ((BN5.out.store 0 _).alloc _)
          clear y0 y1 y2 g0 hzb HB5 BN5
          generalize ((w5.setCell ⟨wr.heap.size, 0, none⟩ (.int .i64 2)).alloc (.cells #[.int .i64 1, .int .i64 0, .int .i64 3, .int .i64 2] 3)) = w6 at *
          have y0 : w6.cell? ⟨wr.heap.size, 0, none⟩ = some (.int .i64 2) := BN6.out.at_ 0
          have y1 : w6.cell? ⟨wr.heap.size, 1, none⟩ = some (.int .i64 pl) := BN6.out.at_ 1
          have y2 : w6.cell? ⟨wr.heap.size, 2, none⟩ = some (.int .i64 po) := BN6.out.at_ 2
          have d3 := (HB6.out.cell (p := ⟨w.heap.size, 3, none⟩) hzr).trans D3.out
          have s0 := (HB6.out.cell (p := ⟨gs, i * 3, none⟩) hgz).trans S0.out
          have s1 := (HB6.out.cell (p := ⟨gs, i * 3 + 1, none⟩) hgz).trans S1.out
          have s2 := (HB6.out.cell (p := ⟨gs, i * 3 + 2, none⟩) hgz).trans S2.out
          have HO5 := hide (own_stab HO.out (fun b hb2 _ => HB6.out.block b hb2))
          have u0 := World.ownsRow.frozenAt HO5.out (i * 3)
          have u1 := World.ownsRow.frozenAt HO5.out (i * 3 + 1)
          have u2 := World.ownsRow.frozenAt HO5.out (i * 3 + 2)
          go_wp2_with fail
          go_roundw
          case rel =>
            refine ⟨i + 1, xs.set i (toldP f g ⟨3, pl, po⟩), by omega, by go_num, ?_, ?_, ?_, HPT⟩
            · exact ((((HKP.out.trans (Keep.of_below' HB6.out _)).trans (HKS.out _ _ _)).trans (HKS.out _ _ _)).trans (HKS.out _ _ _))
            · exact ((((HBW.out.trans (HB6.out.mono HBW.out.size)).setCell (p := ⟨gs, i * 3, none⟩) (by show _ ≤ gs; omega) _).setCell (p := ⟨gs, i * 3 + 1, none⟩) (by show _ ≤ gs; omega) _).setCell (p := ⟨gs, i * 3 + 2, none⟩) (by show _ ≤ gs; omega) _)
            · rw [← range_setP hli xs HXL.out, HTS.out]
              exact own_set (own_set (own_set HO5.out _ _) _ _) _ _
          case measure => simp [intOf]; omega
    · have hii : i = f.papers.length := by omega
      have HXS := hide (show xs = f.papers.map (toldP f g) from (hii ▸ HTM.out : ToldM f g f.papers.length xs).done)
      have BRR := hide (BR.out.keep HKP.out (fun e => by have := (HOW.out.lt _ e).1; omega))
      have HGX := hide (HGI.out.stab HKP.out.size (fun b o hb e hn => HKP.out.block b hb (fun hS => by
        have h1 := (HOW.out.lt _ hS).1
        obtain ⟨b', o', e', hb', _⟩ := (HG1.out).row hn
        rw [e] at e'
        injection e' with e'
        injection e' with e1 e2
        omega)))
      have d0 : wr.cell? ⟨w.heap.size, 0, none⟩ = some _ := BBR.out.at_ 0
      have d1 : wr.cell? ⟨w.heap.size, 1, none⟩ = some _ := BBR.out.at_ 1
      have d2 : wr.cell? ⟨w.heap.size, 2, none⟩ = some _ := BBR.out.at_ 2
      have d3 : wr.cell? ⟨w.heap.size, 3, none⟩ = some _ := BBR.out.at_ 3
      have d4 : wr.cell? ⟨w.heap.size, 4, none⟩ = some _ := BBR.out.at_ 4
      have e0 : wr.cell? ⟨w.heap.size + 1, 0, none⟩ = some _ := BRR.out.at_ 0
      have e1 : wr.cell? ⟨w.heap.size + 1, 1, none⟩ = some _ := BRR.out.at_ 1
      have e2 : wr.cell? ⟨w.heap.size + 1, 2, none⟩ = some _ := BRR.out.at_ 2
      have e3 : wr.cell? ⟨w.heap.size + 1, 3, none⟩ = some _ := BRR.out.at_ 3
      have e4 : wr.cell? ⟨w.heap.size + 1, 4, none⟩ = some _ := BRR.out.at_ 4
      have f0 := BRR.out.free 0
      have f1 := BRR.out.free 1
      have f2 := BRR.out.free 2
      have f3 := BRR.out.free 3
      have f4 := BRR.out.free 4
      clear hii
      go_wp2_with fail
      have hkF := keep5 wr (w.heap.size + 1) (.slice fa.A1 f.parties.length fa.c1) (.slice fa.A2 f.untils.length fa.c2) (.slice fa.A3 f.lots.length fa.c3) (.slice AS f.papers.length cS) (.slice fa.A5 f.claims.length fa.c5)
      have hBF := (((((HBW.out.setCell (p := ⟨w.heap.size + 1, 0, none⟩) (Nat.le_succ _) (.slice fa.A1 f.parties.length fa.c1)).setCell (p := ⟨w.heap.size + 1, 1, none⟩) (Nat.le_succ _) (.slice fa.A2 f.untils.length fa.c2)).setCell (p := ⟨w.heap.size + 1, 2, none⟩) (Nat.le_succ _) (.slice fa.A3 f.lots.length fa.c3)).setCell (p := ⟨w.heap.size + 1, 3, none⟩) (Nat.le_succ _) (.slice AS f.papers.length cS)).setCell (p := ⟨w.heap.size + 1, 4, none⟩) (Nat.le_succ _) (.slice fa.A5 f.claims.length fa.c5))
      refine bodyPost_ret (v := .tuple #[.agg #[.slice fa.A1 f.parties.length fa.c1, .slice fa.A2 f.untils.length fa.c2, .slice fa.A3 f.lots.length fa.c3, .slice AS f.papers.length cS, .slice fa.A5 f.claims.length fa.c5], .slice Ag f.lots.length cg]) ?_ rfl ?_
      · simp [results, Tryz.results26, go_sem, e0, e1, e2, e3, e4, f0, f1, f2, f3, f4]
      · have ho := own_kept HO.out hkF (fun b hb hS => by omega)
        have hgf := HGX.out.stab hkF.size (fun b o hb e hn => hkF.block b hb (ints_off HGX.out BRR.out (fun j v hj => by
          match j with
          | 0 => exact ⟨_, _, _, (Option.some.inj hj).symm⟩
          | 1 => exact ⟨_, _, _, (Option.some.inj hj).symm⟩
          | 2 => exact ⟨_, _, _, (Option.some.inj hj).symm⟩
          | 3 => exact ⟨_, _, _, (Option.some.inj hj).symm⟩
          | 4 => exact ⟨_, _, _, (Option.some.inj hj).symm⟩
          | j + 5 => simp at hj) e hn))
        obtain ⟨m1, m2, hr⟩ := row_fun ho
        have hvv := HC.out.next hBF
        have hpe : (toldF f g).papers.length = f.papers.length := toldF_len f g
        have hse : (toldF f g).papers = xs := by rw [HXS.out]; rfl
        refine ⟨⟨fa.A1, fa.A2, fa.A3, AS, fa.A5, fa.c1, fa.c2, fa.c3, cS, fa.c5, fa.R, fa.K⟩, Ag, cg, ?_, ⟨hvv.parties, hvv.untils, hvv.lots, ?_, hvv.claims, hvv.routes, hvv.small, hvv.fit, hvv.m1, hvv.m2, hvv.m3, ?_, hvv.m5⟩, hgf, hBF⟩
        · rw [show fileVal (toldF f g) ⟨fa.A1, fa.A2, fa.A3, AS, fa.A5, fa.c1, fa.c2, fa.c3, cS, fa.c5, fa.R, fa.K⟩ = .agg #[.slice fa.A1 f.parties.length fa.c1, .slice fa.A2 f.untils.length fa.c2, .slice fa.A3 f.lots.length fa.c3, .slice AS f.papers.length cS, .slice fa.A5 f.claims.length fa.c5] by simp [fileVal, fileCells, toldF]]
        · rw [hpe, hse]; exact hr
        · rw [hpe]; exact ⟨m1, m2⟩
end Go.Proofs.YtllmahcanipcpaaGreat
