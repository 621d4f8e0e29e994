/- The law ClaimOnce. -/
import Derived.Test.YtllmahcanipcpaaGreatLB
import Derived.Test.YtllmahcanipcpaaGreatLO
import Derived.Test.YtllmahcanipcpaaGreatTC
import Derived.Test.YtllmahcanipcpaaGreatSI
import Derived.BigQuiet
import Derived.OwnWalkIn
import Derived.TacticsInMore
import Derived.Deep.DeepCutAuto
set_option linter.unusedVariables false
set_option linter.unusedSimpArgs false
namespace Go.Proofs.YtllmahcanipcpaaGreat
open Go.RowKit
attribute [local go_sem ↓] Go.wp_at_zero Go.wp_at_succ
attribute [local go_sem] Oper.semAt_some

/-- How many claims for each lot are paid, of the first k. -/
def pRow (f : File) (t : List Int) (k : Nat) : List Int := (List.range f.lots.length).map fun l => paidTo f t l k
theorem pRow_zero (f : File) (t : List Int) : pRow f t 0 = List.replicate f.lots.length 0 := by
  refine List.ext_getElem (by simp [pRow]) fun i h1 h2 => ?_
  simp [pRow, paidTo, S]
theorem pRow_nth (f : File) (t : List Int) (k : Nat) {l : Nat} (h : l < f.lots.length) : nth (pRow f t k) l = paidTo f t l k := by simp [pRow, nth, h]
theorem paidTo_succ (f : File) (t : List Int) (l k : Nat) : paidTo f t l (k + 1) = paidTo f t l k + (if (nth f.claims k).lot.toNat = l then (if paidB f t k then 1 else 0) else 0) := rfl
theorem pRow_paid {f : File} {t : List Int} {i kl : Nat} (h : (nth f.claims i).lot = (kl : Int)) (hk : kl < f.lots.length) (hp : paidB f t i = true) : pRow f t (i + 1) = (pRow f t i).set kl (paidTo f t kl i + 1) := by
  refine List.ext_getElem (by simp [pRow]) fun q h1 h2 => ?_
  simp only [pRow, List.getElem_set, List.getElem_map, List.getElem_range, paidTo_succ, h, Int.toNat_natCast, hp]
  by_cases e : kl = q
  · rw [if_pos e, if_pos e, e]; simp
  · rw [if_neg e, if_neg e, Int.add_zero]
theorem pRow_not {f : File} {t : List Int} {i : Nat} (hp : paidB f t i = false) : pRow f t (i + 1) = pRow f t i := by
  refine List.ext_getElem (by simp [pRow]) fun q h1 h2 => ?_
  simp [pRow, paidTo_succ, hp]
theorem sumsTo_succ (f : File) (t : List Int) (k : Nat) : sumsTo f t (k + 1) = sumsTo f t k + (if paidB f t k then (nth f.lots (nth f.claims k).lot.toNat).worth else 0) := rfl
theorem worthTo_succ (f : File) (t : List Int) (k : Nat) : worthTo f t (k + 1) = worthTo f t k + paidTo f t k f.claims.length * (nth f.lots k).worth := rfl
theorem owedTo_succ (f : File) (t : List Int) (k : Nat) : owedTo f t (k + 1) = owedTo f t k + sumM f t k := rfl
theorem sums_bd {f : File} (hv : Valid f) (t : List Int) {i : Nat} (hi : i ≤ f.claims.length) : 0 ≤ sumsTo f t i ∧ sumsTo f t i ≤ 495 := by
  have := S_bd (F := fun n => if paidB f t n then (nth f.lots (nth f.claims n).lot.toNat).worth else 0) (b := 99) i fun n hn => by
    have hc := hv.claim n (by omega)
    have hl := hv.lot (nth f.claims n).lot.toNat (by omega)
    split <;> omega
  have h5 := hv.claims
  unfold sumsTo
  omega
theorem paidTo_bd (f : File) (t : List Int) (l i : Nat) : 0 ≤ paidTo f t l i ∧ paidTo f t l i ≤ i := by
  have := S_bd (F := fun n => if (nth f.claims n).lot.toNat = l then (if paidB f t n then 1 else 0) else 0) (b := 1) i fun n hn => by
    split
    · split <;> omega
    · omega
  unfold paidTo
  omega
theorem sum_bd {f : File} (hv : Valid f) (t : List Int) (p : Int) : 0 ≤ sumM f t p ∧ sumM f t p ≤ 495 := by
  have := sumTo_bd hv t p f.claims.length (Nat.le_refl _)
  have h5 := hv.claims
  unfold sumM
  omega
theorem owed_bd {f : File} (hv : Valid f) (t : List Int) (i : Nat) : 0 ≤ owedTo f t i ∧ owedTo f t i ≤ 495 * i := by
  have := S_bd (F := fun p => sumM f t p) (b := 495) i fun n hn => sum_bd hv t n
  exact this
theorem worth_bd {f : File} (hv : Valid f) {t : List Int} (h4 : ∀ l, l < f.lots.length → 0 ≤ paidTo f t l f.claims.length ∧ paidTo f t l f.claims.length ≤ 1) {i : Nat} (hi : i ≤ f.lots.length) : 0 ≤ worthTo f t i ∧ worthTo f t i ≤ 99 * i := by
  refine S_bd (F := fun l => paidTo f t l f.claims.length * (nth f.lots l).worth) (b := 99) i fun n hn => ?_
  have h1 := h4 n (by omega)
  have h2 := hv.lot n (by omega)
  have : paidTo f t n f.claims.length = 0 ∨ paidTo f t n f.claims.length = 1 := by omega
  rcases this with e | e <;> rw [e] <;> omega
theorem OwnI.next {w w' : World} {base g n cap : Nat} {xs : List Int} (h : OwnI w base g n cap xs) (hb : Below w.heap.size w w') : OwnI w' base g n cap xs := h.below hb h.lt.2
set_option maxHeartbeats 8000000 in
set_option maxRecDepth 100000 in
theorem claimOnce_any {f : File} {fa : FA} {w : World} (h : FileV w w.heap.size f fa) {x : Int} (hx : 0 ≤ x ∧ x ≤ 255) :
    Calls Tryz.prog 7 #[fileVal f fa, .int .u8 x] w fun e w' => e = .returned (.bool true) ∧ Below w.heap.size w w' := by
  obtain ⟨i0, hi0, hz0, hz1, hz2⟩ := info_parts Tryz.infoInt
  have K := hide (BoxF.made h)
  have HB : Hid (Below w.heap.size w (w.alloc (.cells (fileCells f fa) 28))) := hide ((Below.refl _ _).alloc (Nat.le_refl _) _)
  have HTL := hide (fun (hne : truthsM f [] ≠ []) => (show nth (truthsM f []) (x.toNat % (truthsM f []).length) ∈ truthsM f [] from by
    have hl : 0 < (truthsM f []).length := by
      cases hh : truthsM f [] with
      | nil => exact absurd hh hne
      | cons _ _ => simp
    rw [nth_eq (Nat.mod_lt _ hl)]; exact List.getElem_mem _))
  clear h
  go_enter Tryz.func7, Tryz.ntmps7
  go_upto_region 1 with (fail)
  generalize (w.alloc (.cells (fileCells f fa) 28)) = y0 at *
  cases hs : someT f with
  | false =>
    obtain ⟨er, hNV, hne⟩ := held_bad hs
    have HNV := hide hNV
    have hne2 : (er != 0) = true := by simpa using hne
    clear hNV hne HTL
    have HS := hide hs
    clear hs
    have hc := held_any K.out.v
    rw [HNV.out] at hc
    try dsimp only at hc
    obtain ⟨zK, cK1, cK2, cK3, cK4, cK5⟩ := K.out.cells
    go_wp2_with fail
    refine (hc).mono ?_
    rintro e y11 ⟨A11, q11, rfl, hi, hb⟩
    clear zK cK1 cK2 cK3 cK4 cK5
    have K := hide (K.out.next hb)
    have HB := hide (HB.out.trans (hb.mono HB.out.size))
    clear hb
    have J0 := hide hi
    clear hi
    obtain ⟨zK, cK1, cK2, cK3, cK4, cK5⟩ := K.out.cells
    go_wp2_with fail
    refine (someL_any K.out.v HS.out).mono ?_
    rintro e y12 ⟨rfl, hb⟩
    clear zK cK1 cK2 cK3 cK4 cK5
    have K := hide (K.out.next hb)
    have J0 := hide (J0.out.next hb)
    have HB := hide (HB.out.trans (hb.mono HB.out.size))
    clear hb
    obtain ⟨zK, cK1, cK2, cK3, cK4, cK5⟩ := K.out.cells
    go_wp2_with fail
    refine (awake_any _).mono ?_
    rintro e yz ⟨rfl, hb⟩
    go_wp2_with fail
    go_ret
    exact ⟨rfl, HB.out.trans (hb.mono HB.out.size)⟩
  | true =>
    obtain ⟨hv, hck, hnt⟩ := some_ok hs
    have HS := hide hs
    have htm := HTL.out hnt
    have h256 := truthsM_256 hv []
    have hne : 0 < (truthsM f []).length := by
      cases hh : truthsM f [] with
      | nil => exact absurd hh hnt
      | cons _ _ => simp
    clear HTL
    obtain ⟨hh, pp, ss, o1, o2, o3, o4, o5, o6, o7⟩ := once_laws hs htm
    have HPT := hide (truthsM_pl hv htm)
    have HV := hide hv
    have hcl5 := hv.claims
    have hpl4 := hv.parties
    have hll4 := hv.lots
    have H1 := hide o1
    have H2 := hide o2
    have H3 := hide o3
    have H4 := hide o4
    have H5 := hide o5
    obtain ⟨k, HK0⟩ : ∃ k : Nat, Hid (x.toNat % (truthsM f []).length = k) := ⟨_, hide rfl⟩
    have hkm : k < (truthsM f []).length := by rw [← HK0.out]; exact Nat.mod_lt _ hne
    have hmo : x.tmod ((truthsM f []).length : Int) = (k : Int) := by rw [Int.tmod_eq_emod_of_nonneg hx.1, ← HK0.out, Int.natCast_emod, Int.toNat_of_nonneg hx.1]
    rw [HK0.out] at htm HPT H3 H4 H5 o6 o7
    generalize hg0 : nth (truthsM f []) k = t at *
    have HG0 := hide hg0
    have hxw : IntKind.i64.wrap x = x := IntWalk.i64_in _ (by omega)
    have hkw : IntKind.i64.wrap (k : Int) = (k : Int) := IntWalk.i64_in _ (by omega)
    have hnz : ((truthsM f []).length : Int) ≠ 0 := by omega
    have hk0 : (0 : Int) ≤ (k : Int) := Int.natCast_nonneg _
    have hk1 : (k : Int) < ((truthsM f []).length : Int) := by omega
    obtain ⟨WX, HWX⟩ : ∃ WX, Hid (worthTo f t f.lots.length = WX) := ⟨_, hide rfl⟩
    have HW1 := hide (o6.trans HWX.out)
    have HW2 := hide (o7.trans HWX.out)
    have HSB := hide (fun (i : Nat) (hi : i ≤ f.claims.length) => sums_bd hv t hi)
    have HPB := hide (fun (l : Nat) (i : Nat) (hi : i ≤ f.claims.length) => paidTo_bd f t l i)
    have HOB := hide (fun (i : Nat) (hi : i ≤ f.parties.length) => owed_bd hv t i)
    have HWB := hide (fun (i : Nat) (hi : i ≤ f.lots.length) => worth_bd hv H4.out hi)
    have HGT := hide (fun (A : Option Addr) (cT : Nat) (v : World) (hT : ListsS v v.heap.size A (truthsM f []).length cT (truthsM f [])) => (show ∃ ba oa Ag cg, A = some ⟨ba, oa, none⟩ ∧ ba < v.heap.size ∧ v.cell? ⟨ba, oa + k, none⟩ = some (.slice Ag f.lots.length cg) ∧ IntsS v v.heap.size Ag f.lots.length cg t from by
      obtain ⟨ba, oa, Ag, cg, e, hba, hac, hgi⟩ := hT.at_ hkm
      rw [HG0.out] at hac hgi
      rw [HPT.out.1] at hac hgi
      exact ⟨ba, oa, Ag, cg, e, hba, hac, hgi⟩))
    have HTV := hide (fun (v : World) (h : FileV v v.heap.size f fa) => truths7_any h hv (IntsS.nil_ (w := v) (B := v.heap.size)))
    generalize (truthsM f []).length = tl at *
    clear hs hv hck hnt htm hg0 hne o1 o2 o3 o4 o5 o6 o7 HG0 HK0
    have hc := held_any K.out.v
    rw [H1.out] at hc
    try dsimp only at hc
    obtain ⟨zK, cK1, cK2, cK3, cK4, cK5⟩ := K.out.cells
    go_wp2_with fail
    refine (hc).mono ?_
    rintro e y11 ⟨A11, q11, rfl, hi, hb⟩
    clear zK cK1 cK2 cK3 cK4 cK5
    have K := hide (K.out.next hb)
    have HB := hide (HB.out.trans (hb.mono HB.out.size))
    clear hb
    have J1 := hide hi
    clear hi
    obtain ⟨zK, cK1, cK2, cK3, cK4, cK5⟩ := K.out.cells
    go_wp2_with fail
    refine (someL_any K.out.v HS.out).mono ?_
    rintro e y12 ⟨rfl, hb⟩
    clear zK cK1 cK2 cK3 cK4 cK5
    have K := hide (K.out.next hb)
    have J1 := hide (J1.out.next hb)
    have HB := hide (HB.out.trans (hb.mono HB.out.size))
    clear hb
    obtain ⟨zK, cK1, cK2, cK3, cK4, cK5⟩ := K.out.cells
    go_wp2_with fail
    refine (rising_any J1.out (f.claims.length : Int)).mono ?_
    rintro e y13 ⟨rfl, rfl⟩
    rw [H2.out]
    go_wp2_with fail
    refine (HTV.out _ K.out.v).mono ?_
    rintro e y14 ⟨AT, cT, rfl, hT, hb⟩
    clear zK cK1 cK2 cK3 cK4 cK5
    have K := hide (K.out.next hb)
    have J1 := hide (J1.out.next hb)
    have HB := hide (HB.out.trans (hb.mono HB.out.size))
    clear hb
    obtain ⟨zK, cK1, cK2, cK3, cK4, cK5⟩ := K.out.cells
    clear zK cK1 cK2 cK3 cK4 cK5
    obtain ⟨ba, oa, Ag, cg, rfl, hba, hac, hgi⟩ := HGT.out _ _ _ hT
    have HG := hide hgi
    clear hT hgi
    obtain ⟨zK, cK1, cK2, cK3, cK4, cK5⟩ := K.out.cells
    go_upto_region 8 with (fail)
    clear hmo hxw hkw hnz hk0 hk1 hba hac HGT HTV
    go_wp2_with (first
      | (at_make
         go_must (refine wpList_make_full _ rfl _ _ 23 rfl y14.heap.size 3 i0 (.int .i64 0) 1 Tryz.underlying23 hi0 hz0 hz1 _ _ _ _ f.lots.length rfl rfl rfl rfl (by rw [hz2]; omega) (by simp [maxLen]; omega) (by simp) ?_)
         intro wm hown1 hg1
         have hbm := (Below.refl y14.heap.size _).grown hg1 (by simp) (by simp)
         have hO1 : OwnI wm y14.heap.size y14.heap.size f.lots.length f.lots.length (List.replicate f.lots.length 0) := by simpa [OwnI, Value.cells, toList_madeCells_one] using hown1))
    have HBM := hide hbm
    have HO1 := hide hO1
    have hwB : w.heap.size ≤ y14.heap.size := HB.out.size
    clear hown1 hg1 hbm hO1 hi0 hz0 hz1 hz2
    have KB := hide K.out
    have GB := hide HG.out
    have JB := hide J1.out
    have HBB := hide HB.out
    have HR0 := hide (show List.replicate f.lots.length 0 = pRow f t 0 from by rw [pRow_zero])
    try rw [show sumsTo f t 0 = 0 from rfl]
    go_loopw [10, 11, 12, 13, 14, 15] (fun v10 v11 _ _ _ _ wr => ∃ j1 : Nat, j1 ≤ f.claims.length ∧ v11 = .int .i64 j1 ∧ Below y14.heap.size y14 wr ∧ v10 = .int .i64 (sumsTo f t j1) ∧ Hid (OwnI wr y14.heap.size y14.heap.size f.lots.length f.lots.length (pRow f t j1))) (fun _ v11 _ _ _ _ _ => f.claims.length - (intOf v11).toNat)
    case atStart => exact ⟨0, Nat.zero_le _, rfl, HBM.out, rfl, hide (by rw [← HR0.out]; exact HO1.out)⟩
    case round =>
      obtain ⟨j1, hj1, rfl, hB, rfl, O⟩ := hrel
      obtain ⟨w1, rfl⟩ : ∃ w1 : World, w1 = wr := ⟨_, rfl⟩
      have hj10 : (0 : Int) ≤ (j1 : Int) := Int.natCast_nonneg _
      have HL1 := hide hB
      clear zK cK1 cK2 cK3 cK4 cK5
      have K := hide (K.out.next hB)
      have J1 := hide (J1.out.next hB)
      have HG := hide (HG.out.next hB)
      have HB := hide (HB.out.trans (hB.mono HB.out.size))
      clear hB
      by_cases hlt1 : j1 < f.claims.length
      · have hj11 : (j1 : Int) < ((f.claims.length : Nat) : Int) := by omega
        obtain ⟨zK, cK1, cK2, cK3, cK4, cK5⟩ := K.out.cells
        have hsb := HSB.out j1 (by omega)
        have HSU := hide (sumsTo_succ f t j1)
        have HRS := hide (fun (kl : Nat) (h : (nth f.claims j1).lot = (kl : Int)) (hkl : kl < f.lots.length) => pRow_paid (f := f) (t := t) (i := j1) h hkl)
        have HRN := hide (pRow_not (f := f) (t := t) (i := j1))
        obtain ⟨h31, h32, h33, h34⟩ := H3.out j1 hlt1
        have HP2 := hide h32
        have HP3 := hide h33
        have HP4 := hide h34
        have HP1 := hide h31
        clear h31 h32 h33 h34
        have hcn := HV.out.claim j1 hlt1
        obtain ⟨bq, oq, eq_, hbq, hq1, hq2, hq3⟩ := K.out.v.claims.claims (show j1 < f.claims.length by omega)
        generalize sumsTo f t j1 = sg at *
        generalize (nth f.claims j1).lot = q1 at *
        generalize (nth f.claims j1).against = q2 at *
        generalize (nth f.claims j1).day = q3 at *
        obtain ⟨kl, rfl⟩ : ∃ kl : Nat, q1 = (kl : Int) := ⟨q1.toNat, by omega⟩
        have hkl : kl < f.lots.length := by omega
        have hkl0 : (0 : Int) ≤ (kl : Int) := Int.natCast_nonneg _
        have hkl1 : (kl : Int) < ((f.lots.length : Nat) : Int) := by omega
        rw [Int.toNat_natCast] at HP4 HSU
        clear hcn
        rw [eq_] at cK5
        clear eq_
        go_upto_region 14 with fail
        clear zK cK1 cK2 cK3 cK4 cK5
        clear hbq hq1 hq2 hq3
        have hb : Below w1.heap.size w1 (w1.alloc (.cells #[.int .i64 (kl : Nat), .int .i64 q2, .int .i64 q3] 59)) := (Below.refl _ _).alloc (Nat.le_refl _) _
        have Q : Hid (Blk (w1.alloc (.cells #[.int .i64 (kl : Nat), .int .i64 q2, .int .i64 q3] 59)) w1.heap.size 59 #[.int .i64 (kl : Nat), .int .i64 q2, .int .i64 q3]) := hide Blk.made
        have hqB : w1.heap.size ≠ y14.heap.size := by have := O.out.lt; omega
        have O := hide (O.out.block (Below.heap_alloc _ _ _ O.out.lt.2) : OwnI (w1.alloc (.cells #[.int .i64 (kl : Nat), .int .i64 q2, .int .i64 q3] 59)) y14.heap.size y14.heap.size f.lots.length f.lots.length (pRow f t j1))
        have K := hide (K.out.next hb)
        have J1 := hide (J1.out.next hb)
        have HG := hide (HG.out.next hb)
        have HB := hide (HB.out.trans (hb.mono HB.out.size))
        have HL1 := hide (HL1.out.trans (hb.mono HL1.out.size))
        clear hb
        generalize (w1.alloc (.cells #[.int .i64 (kl : Nat), .int .i64 q2, .int .i64 q3] 59)) = y15 at *
        have hc := pays_any K.out.v ((j1 : Nat) : Int)
        rw [HP1.out] at hc
        try dsimp only at hc
        generalize pp j1 = how at *
        obtain ⟨zK, cK1, cK2, cK3, cK4, cK5⟩ := K.out.cells
        have zQ := Q.out.lt
        have cQ0 := Q.out.at_ 0
        have cQ1 := Q.out.at_ 1
        have cQ2 := Q.out.at_ 2
        simp only [List.getElem?_toArray, List.getElem?_cons_zero, List.getElem?_cons_succ] at cQ0 cQ1 cQ2
        go_wp2_with fail
        refine (hc).mono ?_
        rintro e y16 ⟨rfl, hb⟩
        clear zK cK1 cK2 cK3 cK4 cK5 zQ cQ0 cQ1 cQ2
        have K := hide (K.out.next hb)
        have J1 := hide (J1.out.next hb)
        have HG := hide (HG.out.next hb)
        have Q := hide (Q.out.next hb)
        have O := hide (O.out.next hb)
        have HB := hide (HB.out.trans (hb.mono HB.out.size))
        have HL1 := hide (HL1.out.trans (hb.mono HL1.out.size))
        clear hb
        obtain ⟨zK, cK1, cK2, cK3, cK4, cK5⟩ := K.out.cells
        have zQ := Q.out.lt
        have cQ0 := Q.out.at_ 0
        have cQ1 := Q.out.at_ 1
        have cQ2 := Q.out.at_ 2
        simp only [List.getElem?_toArray, List.getElem?_cons_zero, List.getElem?_cons_succ] at cQ0 cQ1 cQ2
        have hc := paid7_any K.out.v HV.out.fair HG.out HPT.out (n := j1) hlt1
        cases his : paidB f t j1 with
        | false =>
          rw [his] at hc HP2 HSU
          have HRN := hide (HRN.out his)
          clear his HP4
          go_wp2_with fail
          refine (hc).mono ?_
          rintro e y17 ⟨rfl, hb⟩
          clear zK cK1 cK2 cK3 cK4 cK5 zQ cQ0 cQ1 cQ2
          have K := hide (K.out.next hb)
          have J1 := hide (J1.out.next hb)
          have HG := hide (HG.out.next hb)
          have Q := hide (Q.out.next hb)
          have O := hide (O.out.next hb)
          have HB := hide (HB.out.trans (hb.mono HB.out.size))
          have HL1 := hide (HL1.out.trans (hb.mono HL1.out.size))
          clear hb
          obtain ⟨zK, cK1, cK2, cK3, cK4, cK5⟩ := K.out.cells
          have zQ := Q.out.lt
          have cQ0 := Q.out.at_ 0
          have cQ1 := Q.out.at_ 1
          have cQ2 := Q.out.at_ 2
          simp only [List.getElem?_toArray, List.getElem?_cons_zero, List.getElem?_cons_succ] at cQ0 cQ1 cQ2
          have hc := denies_any how false y17 (show deniesB how false = false from HP2.out)
          go_wp2_with fail
          refine (hc).mono ?_
          rintro e y18 ⟨rfl, rfl⟩
          have hbb : ((how == 0) != (how == 0)) = false := by simp
          go_wp2_with fail
          refine (has_any J1.out ((j1 : Nat) : Int)).mono ?_
          rintro e y19 ⟨rfl, rfl⟩
          rw [← HP3.out]
          have HX := hide (show sumsTo f t (j1 + 1) = sg by rw [HSU.out]; simp)
          go_wp2_with fail
          go_roundw
          case rel => exact ⟨j1 + 1, by omega, by go_num, HL1.out, by rw [HX.out], hide (by rw [HRN.out]; exact O.out)⟩
          case measure => simp [intOf]; omega
        | true =>
          rw [his] at hc HP2 HSU
          have hpw := HP4.out his
          have HRS := hide (HRS.out kl rfl hkl his)
          clear his HP4
          go_wp2_with fail
          refine (hc).mono ?_
          rintro e y17 ⟨rfl, hb⟩
          clear zK cK1 cK2 cK3 cK4 cK5 zQ cQ0 cQ1 cQ2
          have K := hide (K.out.next hb)
          have J1 := hide (J1.out.next hb)
          have HG := hide (HG.out.next hb)
          have Q := hide (Q.out.next hb)
          have O := hide (O.out.next hb)
          have HB := hide (HB.out.trans (hb.mono HB.out.size))
          have HL1 := hide (HL1.out.trans (hb.mono HL1.out.size))
          clear hb
          obtain ⟨zK, cK1, cK2, cK3, cK4, cK5⟩ := K.out.cells
          have zQ := Q.out.lt
          have cQ0 := Q.out.at_ 0
          have cQ1 := Q.out.at_ 1
          have cQ2 := Q.out.at_ 2
          simp only [List.getElem?_toArray, List.getElem?_cons_zero, List.getElem?_cons_succ] at cQ0 cQ1 cQ2
          have hc := denies_any how true y17 (show deniesB how true = false from HP2.out)
          go_wp2_with fail
          refine (hc).mono ?_
          rintro e y18 ⟨rfl, rfl⟩
          have hbb : ((how == 0) != (how == 0)) = false := by simp
          go_wp2_with fail
          refine (has_any J1.out ((j1 : Nat) : Int)).mono ?_
          rintro e y19 ⟨rfl, rfl⟩
          rw [← HP3.out]
          clear zK cK1 cK2 cK3 cK4 cK5 zQ cQ0 cQ1 cQ2
          have hcell := O.out.cell hkl
          rw [pRow_nth f t j1 hkl] at hcell
          have hfr := O.out.frozen kl
          have hpb := HPB.out kl j1 (by omega)
          generalize paidTo f t kl j1 = pv at *
          have hq0 := Q.out.at_ 0
          have hzq := Q.out.lt
          simp only [List.getElem?_toArray, List.getElem?_cons_zero] at hq0
          go_upto_region 20 with (fail)
          have HL1 := hide (HL1.out.setCell (p := ⟨y14.heap.size, kl, none⟩) (Nat.le_refl _) (.int .i64 (pv + 1)))
          have O := hide (O.out.set kl (pv + 1))
          have Q := hide (Q.out.else_ (p := ⟨y14.heap.size, kl, none⟩) hqB (.int .i64 (pv + 1)))
          clear hcell hfr hq0 hzq
          generalize (y17.setCell ⟨y14.heap.size, kl, none⟩ (.int .i64 (pv + 1))) = ys at *
          have K := hide (KB.out.next HL1.out)
          have HG := hide (GB.out.next HL1.out)
          have J1 := hide (JB.out.next HL1.out)
          have HB := hide (HBB.out.trans (HL1.out.mono hwB))
          obtain ⟨zK, cK1, cK2, cK3, cK4, cK5⟩ := K.out.cells
          have zQ := Q.out.lt
          have cQ0 := Q.out.at_ 0
          have cQ1 := Q.out.at_ 1
          have cQ2 := Q.out.at_ 2
          simp only [List.getElem?_toArray, List.getElem?_cons_zero, List.getElem?_cons_succ] at cQ0 cQ1 cQ2
          obtain ⟨bl, ol, hA3, hbl, v0, v1, v2, v3⟩ := K.out.v.lots.lots hkl
          have hwv := (HV.out.lot kl hkl).2.2.2
          have HWV := hide (show (nth f.lots kl).worth = (nth f.lots kl).worth from rfl)
          generalize (nth f.lots kl).worth = wv at *
          rw [hA3] at cK3
          go_upto_region 21 with (fail)
          rw [← hA3] at cK3
          clear hA3 hbl v0 v1 v2 v3
          have hnew : (q2 != withM f t kl) = false := by rw [hpw]; simp
          have HX := hide (show sumsTo f t (j1 + 1) = sg + wv by rw [HSU.out]; rfl)
          clear hpw HSU
          refine wp_region_rel (dst := fun oi => [119, 120, 121, 122, 123, 124, 125, 126].getD oi 0) (mono := fun oi => decide (oi < 8)) (pre := fun oi => decide (oi < 8)) (R := LKeep (fun _ => False) (fun _ => True))
            (Pv := fun oi v W => match oi with
              | 0 => v = .pointer (some ⟨w1.heap.size, 1, none⟩)
              | 1 => v = .int .i64 q2
              | 2 => v = .agg (fileCells f fa)
              | 3 => v = .slice Ag f.lots.length cg
              | 4 => v = .pointer (some ⟨w1.heap.size, 0, none⟩)
              | 5 => v = .int .i64 (kl : Nat)
              | 6 => v = .int .i64 (withM f t kl)
              | 7 => v = .bool false
              | _ => True) (by kernel_rfl) (by kernel_rfl) (LKeep.refl _ _) (fun _ _ _ h h' => h.trans h') ?hst ?hstep ?hend
          case hst =>
            intro oi v W W' h hk
            match oi, h with
            | 0, h => exact h
            | 1, h => exact h
            | 2, h => exact h
            | 3, h => exact h
            | 4, h => exact h
            | 5, h => exact h
            | 6, h => exact h
            | 7, h => exact h
            | oi + 8, h => exact trivial
          case hstep =>
            intro oi hoi hom listed vs ao W hU hk0 hpv haft Ko hK
            have hkk := (LKeep.drew (fun _ => False) (M := fun _ => True) ys (fun h => h)).trans hk0
            have hk := hkk.1
            have hkm := hkk.2
            clear hkk
            match oi, hoi, hom with
            | 0, hoi, hom =>
              have z12 : ao.tmps[12]?.getD undef = .pointer (some ⟨w1.heap.size, 0, none⟩) := hU.same 12 (by decide)
              refine wpOp_value (v := .pointer (some ⟨w1.heap.size, 1, none⟩)) (W' := W) rfl rfl ?_ (hK _ _ (LKeep.refl _ _ _) rfl)
              go_simp
            | 1, hoi, hom =>
              have l0 := haft _ rfl { on := 0, ground := .data } (by simp) rfl
              have hv0 : vs 0 = .pointer (some ⟨w1.heap.size, 1, none⟩) := hpv 0 l0
              have s0 : ao.tmps[119]?.getD undef = vs 0 := hU.slot 0 (by decide) l0
              rw [hv0] at s0
              have y0 := (hk.cell (b := w1.heap.size) (o := 1) (zQ) (fun h => h)).trans (cQ1)
              refine wpOp_value (v := .int .i64 q2) (W' := W) rfl rfl ?_ (hK _ _ (LKeep.refl _ _ _) rfl)
              go_simp
            | 2, hoi, hom =>
              have z2 : ao.tmps[2]?.getD undef = .pointer (some ⟨w.heap.size, 0, none⟩) := hU.same 2 (by decide)
              have y0 := (hk.cell (b := w.heap.size) (o := 0) (zK) (fun h => h)).trans (cK1)
              have y1 := (hk.cell (b := w.heap.size) (o := 1) (zK) (fun h => h)).trans (cK2)
              have y2 := (hk.cell (b := w.heap.size) (o := 2) (zK) (fun h => h)).trans (cK3)
              have y3 := (hk.cell (b := w.heap.size) (o := 3) (zK) (fun h => h)).trans (cK4)
              have y4 := (hk.cell (b := w.heap.size) (o := 4) (zK) (fun h => h)).trans (cK5)
              refine wpOp_value (v := .agg (fileCells f fa)) (W' := W) rfl rfl ?_ (hK _ _ (LKeep.refl _ _ _) rfl)
              go_simp
            | 3, hoi, hom =>
              have z8 : ao.tmps[8]?.getD undef = .slice Ag f.lots.length cg := hU.same 8 (by decide)
              refine wpOp_value (v := .slice Ag f.lots.length cg) (W' := W) rfl rfl ?_ (hK _ _ (LKeep.refl _ _ _) rfl)
              go_simp
            | 4, hoi, hom =>
              have z12 : ao.tmps[12]?.getD undef = .pointer (some ⟨w1.heap.size, 0, none⟩) := hU.same 12 (by decide)
              refine wpOp_value (v := .pointer (some ⟨w1.heap.size, 0, none⟩)) (W' := W) rfl rfl ?_ (hK _ _ (LKeep.refl _ _ _) rfl)
              go_simp
            | 5, hoi, hom =>
              have l4 := haft _ rfl { on := 4, ground := .data } (by simp) rfl
              have hv4 : vs 4 = .pointer (some ⟨w1.heap.size, 0, none⟩) := hpv 4 l4
              have s4 : ao.tmps[123]?.getD undef = vs 4 := hU.slot 4 (by decide) l4
              rw [hv4] at s4
              have y0 := (hk.cell (b := w1.heap.size) (o := 0) (zQ) (fun h => h)).trans (cQ0)
              refine wpOp_value (v := .int .i64 (kl : Nat)) (W' := W) rfl rfl ?_ (hK _ _ (LKeep.refl _ _ _) rfl)
              go_simp
            | 6, hoi, hom =>
              have l2 := haft _ rfl { on := 2, ground := .data } (by simp) rfl
              have hv2 : vs 2 = .agg (fileCells f fa) := hpv 2 l2
              have s2 : ao.tmps[121]?.getD undef = vs 2 := hU.slot 2 (by decide) l2
              rw [hv2] at s2
              have l3 := haft _ rfl { on := 3, ground := .data } (by simp) rfl
              have hv3 : vs 3 = .slice Ag f.lots.length cg := hpv 3 l3
              have s3 : ao.tmps[122]?.getD undef = vs 3 := hU.slot 3 (by decide) l3
              rw [hv3] at s3
              have l5 := haft _ rfl { on := 5, ground := .data } (by simp) rfl
              have hv5 : vs 5 = .int .i64 (kl : Nat) := hpv 5 l5
              have s5 : ao.tmps[124]?.getD undef = vs 5 := hU.slot 5 (by decide) l5
              rw [hv5] at s5
              refine wpOp_enter (f := 29) (args := #[.agg (fileCells f fa), .slice Ag f.lots.length cg, .int .i64 (kl : Nat)]) (W' := W) rfl rfl ?_ ((with7_any (K.out.v.next (hk.below (B := ys.heap.size) (fun k h => h.elim) (Nat.le_refl _))) (HG.out.next (hk.below (B := ys.heap.size) (fun k h => h.elim) (Nat.le_refl _))) HPT.out hkl).mono (fun e w'' h => ?_))
              · go_simp
              · obtain ⟨he, hbw⟩ := h
                exact ⟨_, he, hK _ _ (LKeep.below hbw (fun h => h)) rfl⟩
            | 7, hoi, hom =>
              have l1 := haft _ rfl { on := 1, ground := .data } (by simp) rfl
              have hv1 : vs 1 = .int .i64 q2 := hpv 1 l1
              have s1 : ao.tmps[120]?.getD undef = vs 1 := hU.slot 1 (by decide) l1
              rw [hv1] at s1
              have l6 := haft _ rfl { on := 6, ground := .data } (by simp) rfl
              have hv6 : vs 6 = .int .i64 (withM f t kl) := hpv 6 l6
              have s6 : ao.tmps[125]?.getD undef = vs 6 := hU.slot 6 (by decide) l6
              rw [hv6] at s6
              refine wpOp_value (v := .bool false) (W' := W) rfl rfl ?_ (hK _ _ (LKeep.refl _ _ _) rfl)
              go_simp
            | oi + 8, hoi, hom => exact absurd (of_decide_eq_true hom) (by omega)
          case hend =>
            intro listed vs ao W hG hk0 hpv hpre
            have hkk := (LKeep.drew (fun _ => False) (M := fun _ => True) ys (fun h => h)).trans hk0
            have hk := hkk.1
            have hkm := hkk.2
            clear hkk
            have hact := hG.act
            have hT := hG.lst hpre 0 #[true, true, true, true, true, true, true, true] rfl (by kernel_rfl) (hpre 0 (by decide) (by decide))
            rw [hG.ix hT (l := [0, 1, 2, 3, 4, 5, 6, 7]) (by kernel_rfl)] at hact
            rw [hG.lo hT (k := 0) (by kernel_rfl)]
            have hv0 : vs 0 = .pointer (some ⟨w1.heap.size, 1, none⟩) := hpv 0 (hpre 0 (by decide) (by decide))
            have hv1 : vs 1 = .int .i64 q2 := hpv 1 (hpre 1 (by decide) (by decide))
            have hv2 : vs 2 = .agg (fileCells f fa) := hpv 2 (hpre 2 (by decide) (by decide))
            have hv3 : vs 3 = .slice Ag f.lots.length cg := hpv 3 (hpre 3 (by decide) (by decide))
            have hv4 : vs 4 = .pointer (some ⟨w1.heap.size, 0, none⟩) := hpv 4 (hpre 4 (by decide) (by decide))
            have hv5 : vs 5 = .int .i64 (kl : Nat) := hpv 5 (hpre 5 (by decide) (by decide))
            have hv6 : vs 6 = .int .i64 (withM f t kl) := hpv 6 (hpre 6 (by decide) (by decide))
            have hv7 : vs 7 = .bool false := hpv 7 (hpre 7 (by decide) (by decide))
            clear hpv hpre hG hk0
            obtain rfl : ao = _ := hact
            subst hT
            simp only [setAll, List.setIfInBounds_toArray, List.set_cons_succ, List.set_cons_zero, List.getD_cons_succ, List.getD_cons_zero]
            simp only [hv0, hv1, hv2, hv3, hv4, hv5, hv6, hv7]
            clear hv0 hv1 hv2 hv3 hv4 hv5 hv6 hv7
            refine wpAny_done (by kernel_rfl) ?_ _
            have hb := hk.below (B := ys.heap.size) (fun k h => h.elim) (Nat.le_refl _)
            clear zK cK1 cK2 cK3 cK4 cK5 zQ cQ0 cQ1 cQ2
            have K := hide (K.out.next hb)
            have J1 := hide (J1.out.next hb)
            have HG := hide (HG.out.next hb)
            have Q := hide (Q.out.next hb)
            have O := hide (O.out.next hb)
            have HB := hide (HB.out.trans (hb.mono HB.out.size))
            have HL1 := hide (HL1.out.trans (hb.mono HL1.out.size))
            clear hb
            clear hk hkm
            go_wp2_with fail
            go_roundw
            case rel => exact ⟨j1 + 1, by omega, by go_num, HL1.out, by rw [HX.out], hide (by rw [HRS.out]; exact O.out)⟩
            case measure => simp [intOf]; omega
      · have hx1 := hide (show j1 = f.claims.length by omega)
        obtain ⟨zK, cK1, cK2, cK3, cK4, cK5⟩ := K.out.cells
        clear zK cK1 cK2 cK3 cK4 cK5
        have HCE := hide (show sumsTo f t j1 = WX by rw [hx1.out]; exact HW1.out)
        rw [HCE.out]
        have O : Hid (OwnI w1 y14.heap.size y14.heap.size f.lots.length f.lots.length (pRow f t f.claims.length)) := hide (by rw [← hx1.out]; exact O.out)
        clear HCE
        obtain ⟨zK, cK1, cK2, cK3, cK4, cK5⟩ := K.out.cells
        go_wp2_with fail
        try rw [show worthTo f t 0 = 0 from rfl]
        go_loopw [16, 18] (fun v16 v18 wr => ∃ j2 : Nat, j2 ≤ f.lots.length ∧ v18 = .int .i64 j2 ∧ Below w1.heap.size w1 wr ∧ v16 = .int .i64 (worthTo f t j2)) (fun _ v18 _ => f.lots.length - (intOf v18).toNat)
        case atStart => exact ⟨0, Nat.zero_le _, rfl, Below.refl _ _, rfl⟩
        case round =>
          obtain ⟨j2, hj2, rfl, hB, rfl⟩ := hrel
          obtain ⟨w2, rfl⟩ : ∃ w2 : World, w2 = wr := ⟨_, rfl⟩
          have hj20 : (0 : Int) ≤ (j2 : Int) := Int.natCast_nonneg _
          have HL2 := hide hB
          clear zK cK1 cK2 cK3 cK4 cK5
          have K := hide (K.out.next hB)
          have J1 := hide (J1.out.next hB)
          have HG := hide (HG.out.next hB)
          have HB := hide (HB.out.trans (hB.mono HB.out.size))
          clear hB
          by_cases hlt2 : j2 < f.lots.length
          · have hj21 : (j2 : Int) < ((f.lots.length : Nat) : Int) := by omega
            obtain ⟨zK, cK1, cK2, cK3, cK4, cK5⟩ := K.out.cells
            have hob := O.out.lt
            have O := hide (O.out.below HL2.out hob.2)
            have hwb := HWB.out j2 (by omega)
            have h4 := H4.out j2 hlt2
            have hcell := O.out.cell hlt2
            rw [pRow_nth f t _ hlt2] at hcell
            have HWU := hide (worthTo_succ f t j2)
            obtain ⟨bl, ol, hA3, hbl, v0, v1, v2, v3⟩ := K.out.v.lots.lots hlt2
            have hwv := (HV.out.lot j2 hlt2).2.2.2
            generalize worthTo f t j2 = sg at *
            generalize paidTo f t j2 f.claims.length = pv at *
            generalize (nth f.lots j2).worth = wv at *
            rw [hA3] at cK3
            have hpg : ¬ 1 < pv := by omega
            have hpw : 0 ≤ pv * wv ∧ pv * wv ≤ 99 := by
              have : pv = 0 ∨ pv = 1 := by omega
              rcases this with rfl | rfl <;> omega
            obtain ⟨pw, hpe⟩ : ∃ pw, pv * wv = pw := ⟨_, rfl⟩
            rw [hpe] at hpw HWU
            have hw1 : IntKind.i64.wrap pw = pw := IntWalk.i64_in _ (by omega)
            have hw2 : IntKind.i64.wrap (sg + pw) = sg + pw := IntWalk.i64_in _ (by omega)
            have hgb := hob.2
            clear hob hA3
            go_wp2_with fail
            go_quiet (fail)
            clear zK cK1 cK2 cK3 cK4 cK5
            have hb := below_drewN (Below.refl w2.heap.size w2) nq
            have K := hide (K.out.next hb)
            have J1 := hide (J1.out.next hb)
            have HG := hide (HG.out.next hb)
            have HB := hide (HB.out.trans (hb.mono HB.out.size))
            have HL2 := hide (HL2.out.trans (hb.mono HL2.out.size))
            clear hb
            generalize w2.drewN nq = y15 at *
            obtain ⟨zK, cK1, cK2, cK3, cK4, cK5⟩ := K.out.cells
            clear hcell hbl v0 v1 v2 v3 hpe hw1 hw2
            go_wp2_with fail
            go_roundw
            case rel => exact ⟨j2 + 1, by omega, by go_num, HL2.out, by rw [HWU.out]⟩
            case measure => simp [intOf]; omega
          · have hx2 := hide (show j2 = f.lots.length by omega)
            obtain ⟨zK, cK1, cK2, cK3, cK4, cK5⟩ := K.out.cells
            clear zK cK1 cK2 cK3 cK4 cK5
            have HCE := hide (show worthTo f t j2 = WX by rw [hx2.out]; exact HWX.out)
            rw [HCE.out]
            clear HCE
            obtain ⟨zK, cK1, cK2, cK3, cK4, cK5⟩ := K.out.cells
            go_wp2_with fail
            try rw [show owedTo f t 0 = 0 from rfl]
            go_loopw [17, 19, 20, 21, 22] (fun v17 v19 _ _ _ wr => ∃ j3 : Nat, j3 ≤ f.parties.length ∧ v19 = .int .i64 j3 ∧ Below w2.heap.size w2 wr ∧ v17 = .int .i64 (owedTo f t j3)) (fun _ v19 _ _ _ _ => f.parties.length - (intOf v19).toNat)
            case atStart => exact ⟨0, Nat.zero_le _, rfl, Below.refl _ _, rfl⟩
            case round =>
              obtain ⟨j3, hj3, rfl, hB, rfl⟩ := hrel
              obtain ⟨w3, rfl⟩ : ∃ w3 : World, w3 = wr := ⟨_, rfl⟩
              have hj30 : (0 : Int) ≤ (j3 : Int) := Int.natCast_nonneg _
              have HL3 := hide hB
              clear zK cK1 cK2 cK3 cK4 cK5
              have K := hide (K.out.next hB)
              have J1 := hide (J1.out.next hB)
              have HG := hide (HG.out.next hB)
              have HB := hide (HB.out.trans (hB.mono HB.out.size))
              clear hB
              by_cases hlt3 : j3 < f.parties.length
              · have hj31 : (j3 : Int) < ((f.parties.length : Nat) : Int) := by omega
                obtain ⟨zK, cK1, cK2, cK3, cK4, cK5⟩ := K.out.cells
                obtain ⟨h51, h52⟩ := H5.out j3 hlt3
                have hob := HOB.out j3 (by omega)
                have hsm := sum_bd HV.out t (j3 : Int)
                have HOU := hide (owedTo_succ f t j3)
                generalize owedTo f t j3 = sg at *
                generalize ss j3 = s1 at *
                obtain ⟨a, b⟩ := s1
                have hc := owesX K.out.v ((j3 : Nat) : Int) h51
                try dsimp only at hc
                try dsimp only at h52
                have HIN := hide h52
                clear h51 h52
                go_upto_region 34 with (go_at_call 17; refine (hc).mono ?_; rintro e y15 ⟨rfl, hb⟩)
                clear zK cK1 cK2 cK3 cK4 cK5
                have K := hide (K.out.next hb)
                have J1 := hide (J1.out.next hb)
                have HG := hide (HG.out.next hb)
                have HB := hide (HB.out.trans (hb.mono HB.out.size))
                have HL3 := hide (HL3.out.trans (hb.mono HL3.out.size))
                clear hb
                obtain ⟨zK, cK1, cK2, cK3, cK4, cK5⟩ := K.out.cells
                clear zK cK1 cK2 cK3 cK4 cK5
                have hb : Below y15.heap.size y15 (y15.alloc (.cells #[.int .i64 a, .int .i64 b] 38)) := (Below.refl _ _).alloc (Nat.le_refl _) _
                have S1 : Hid (Blk (y15.alloc (.cells #[.int .i64 a, .int .i64 b] 38)) y15.heap.size 38 #[.int .i64 a, .int .i64 b]) := hide Blk.made
                have K := hide (K.out.next hb)
                have J1 := hide (J1.out.next hb)
                have HG := hide (HG.out.next hb)
                have HB := hide (HB.out.trans (hb.mono HB.out.size))
                have HL3 := hide (HL3.out.trans (hb.mono HL3.out.size))
                clear hb
                generalize (y15.alloc (.cells #[.int .i64 a, .int .i64 b] 38)) = y16 at *
                obtain ⟨zK, cK1, cK2, cK3, cK4, cK5⟩ := K.out.cells
                have zS1 := S1.out.lt
                have cS10 := S1.out.at_ 0
                have cS11 := S1.out.at_ 1
                simp only [List.getElem?_toArray, List.getElem?_cons_zero, List.getElem?_cons_succ] at cS10 cS11
                have hc := sum7_any K.out.v HV.out HG.out HPT.out ((j3 : Nat) : Int)
                generalize sumM f t ((j3 : Nat) : Int) = sm at *
                go_wp2_with fail
                refine (hc).mono ?_
                rintro e y17 ⟨rfl, hb⟩
                clear zK cK1 cK2 cK3 cK4 cK5 zS1 cS10 cS11
                have K := hide (K.out.next hb)
                have J1 := hide (J1.out.next hb)
                have HG := hide (HG.out.next hb)
                have S1 := hide (S1.out.next hb)
                have HB := hide (HB.out.trans (hb.mono HB.out.size))
                have HL3 := hide (HL3.out.trans (hb.mono HL3.out.size))
                clear hb
                obtain ⟨zK, cK1, cK2, cK3, cK4, cK5⟩ := K.out.cells
                have zS1 := S1.out.lt
                have cS10 := S1.out.at_ 0
                have cS11 := S1.out.at_ 1
                simp only [List.getElem?_toArray, List.getElem?_cons_zero, List.getElem?_cons_succ] at cS10 cS11
                have hc := inside_any sm a b y17
                rw [HIN.out] at hc
                go_wp2_with fail
                refine (hc).mono ?_
                rintro e y18 ⟨rfl, hb⟩
                clear zK cK1 cK2 cK3 cK4 cK5 zS1 cS10 cS11
                have K := hide (K.out.next hb)
                have J1 := hide (J1.out.next hb)
                have HG := hide (HG.out.next hb)
                have S1 := hide (S1.out.next hb)
                have HB := hide (HB.out.trans (hb.mono HB.out.size))
                have HL3 := hide (HL3.out.trans (hb.mono HL3.out.size))
                clear hb
                obtain ⟨zK, cK1, cK2, cK3, cK4, cK5⟩ := K.out.cells
                have zS1 := S1.out.lt
                have cS10 := S1.out.at_ 0
                have cS11 := S1.out.at_ 1
                simp only [List.getElem?_toArray, List.getElem?_cons_zero, List.getElem?_cons_succ] at cS10 cS11
                go_wp2_with fail
                go_roundw
                case rel => exact ⟨j3 + 1, by omega, by go_num, HL3.out, by rw [HOU.out]⟩
                case measure => simp [intOf]; omega
              · have hx3 := hide (show j3 = f.parties.length by omega)
                obtain ⟨zK, cK1, cK2, cK3, cK4, cK5⟩ := K.out.cells
                clear zK cK1 cK2 cK3 cK4 cK5
                have HCE := hide (show owedTo f t j3 = WX by rw [hx3.out]; exact HW2.out)
                rw [HCE.out]
                clear HCE
                have hww : (WX == WX) = true := by simp
                obtain ⟨zK, cK1, cK2, cK3, cK4, cK5⟩ := K.out.cells
                go_wp2_with fail
                refine (awake_any _).mono ?_
                rintro e yz ⟨rfl, hb⟩
                go_wp2_with fail
                go_ret
                exact ⟨rfl, HB.out.trans (hb.mono HB.out.size)⟩
end Go.Proofs.YtllmahcanipcpaaGreat
