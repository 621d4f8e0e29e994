/- The law ClaimOrder. -/
import Derived.Test.YtllmahcanipcpaaLB
import Derived.Test.YtllmahcanipcpaaLO
import Derived.Test.YtllmahcanipcpaaTF
import Derived.BigQuiet
import Derived.Laws.StructEq
import Derived.OwnWalkIn
import Derived.TacticsInMore
import Derived.Deep.DeepCutAuto
set_option linter.unusedVariables false
set_option linter.unusedSimpArgs false
namespace Go.Proofs.Ytllmahcanipcpaa
open Go.RowKit
attribute [local go_sem ↓] Go.wp_at_zero Go.wp_at_succ
attribute [local go_sem] Oper.semAt_some

theorem Try.infoLotO : (Try.prog.info? 56).map (fun i => (i.zero, i.size, i.bytes)) = some (some (.agg #[.slice none 0 0, .int .i64 0, .int .i64 0, .int .i64 0]), 4, 48) := by kernel_rfl
theorem Try.infoPaperO : (Try.prog.info? 48).map (fun i => (i.zero, i.size, i.bytes)) = some (some (.agg #[.int .i64 0, .int .i64 0, .int .i64 0]), 3, 24) := by kernel_rfl
theorem Try.infoClaimO : (Try.prog.info? 52).map (fun i => (i.zero, i.size, i.bytes)) = some (some (.agg #[.int .i64 0, .int .i64 0, .int .i64 0]), 3, 24) := by kernel_rfl
theorem papers_oneO (xs : List Paper) (j : Nat) : (papersF xs j).oneCell' = true := by
  unfold papersF; rfl
theorem claims_oneO (xs : List Claim) (j : Nat) : (claimsF xs j).oneCell' = true := by
  unfold claimsF; rfl
theorem lots_oneO (xs : List Lot) (R : Nat → Option Addr) (K : Nat → Nat) (j : Nat) : (lotsF xs R K j).oneCell' = true := by
  unfold lotsF; split <;> rfl
theorem one3O (a b d : Int) (j : Nat) (hj : j < 1 * 3) : (([Value.int .i64 a, .int .i64 b, .int .i64 d] : List Value).getD j undef).oneCell' = true := by
  match j, hj with
  | 0, _ => rfl
  | 1, _ => rfl
  | 2, _ => rfl
theorem one4l (A : Option Addr) (n c : Nat) (a b d : Int) (j : Nat) (hj : j < 1 * 4) : (([Value.slice A n c, .int .i64 a, .int .i64 b, .int .i64 d] : List Value).getD j undef).oneCell' = true := by
  match j, hj with
  | 0, _ => rfl
  | 1, _ => rfl
  | 2, _ => rfl
  | 3, _ => rfl
def backR (f : File) (fa : FA) (j : Nat) : Option Addr := fa.R (f.lots.length - 1 - j)
def backK (f : File) (fa : FA) (j : Nat) : Nat := fa.K (f.lots.length - 1 - j)
theorem range_more (n s : Nat) : List.range ((n + 1) * s) = List.range (n * s) ++ (List.range s).map (fun j => n * s + j) := by
  rw [Nat.succ_mul, List.range_add]
theorem lots_snoc {f : File} {fa : FA} {q k : Nat} (h : q + k + 1 = f.lots.length) :
    (List.range (k * 4)).map (lotsF (backF f).lots (backR f fa) (backK f fa)) ++ (List.range (1 * 4)).map (fun j => ([.slice (fa.R q) (nth f.lots q).route.length (fa.K q), .int .i64 (nth f.lots q).turned.lo, .int .i64 (nth f.lots q).turned.hi, .int .i64 (nth f.lots q).worth] : List Value).getD j undef) = (List.range ((k + 1) * 4)).map (lotsF (backF f).lots (backR f fa) (backK f fa)) := by
  have e : nth (backF f).lots k = nth f.lots q := by
    show nth f.lots.reverse k = _
    rw [nth_rev' (by omega), show f.lots.length - 1 - k = q by omega]
  have er : backR f fa k = fa.R q := by rw [backR, show f.lots.length - 1 - k = q by omega]
  have ek : backK f fa k = fa.K q := by rw [backK, show f.lots.length - 1 - k = q by omega]
  rw [range_more k, List.map_append, List.map_map]
  congr 1
  refine List.map_congr_left fun j hj => ?_
  have hj4 : j < 4 := by simpa using hj
  have e1 : (k * 4 + j) / 4 = k := by omega
  have e2 : (k * 4 + j) % 4 = j := by omega
  simp only [Function.comp, lotsF, e1, e2, e, er, ek]
  match j, hj4 with
  | 0, _ => rfl
  | 1, _ => rfl
  | 2, _ => rfl
  | 3, _ => rfl
theorem papers_snocO {f : File} {k : Nat} (h : k < f.papers.length) {s : Paper} (hs : backPp (lastL f) (nth f.papers k) = s) :
    (List.range (k * 3)).map (papersF (backF f).papers) ++ (List.range (1 * 3)).map (fun j => ([.int .i64 s.says, .int .i64 s.lot, .int .i64 s.of_] : List Value).getD j undef) = (List.range ((k + 1) * 3)).map (papersF (backF f).papers) := by
  have e : nth (backF f).papers k = s := by rw [← hs]; exact nth_map _ h
  rw [range_more k, List.map_append, List.map_map]
  congr 1
  refine List.map_congr_left fun j hj => ?_
  have hj4 : j < 3 := by simpa using hj
  have e1 : (k * 3 + j) / 3 = k := by omega
  have e2 : (k * 3 + j) % 3 = j := by omega
  simp only [Function.comp, papersF, e1, e2, e]
  match j, hj4 with
  | 0, _ => rfl
  | 1, _ => rfl
  | 2, _ => rfl
theorem claims_snocO {f : File} {k : Nat} (h : k < f.claims.length) {s : Claim} (hs : backCc (lastL f) (nth f.claims k) = s) :
    (List.range (k * 3)).map (claimsF (backF f).claims) ++ (List.range (1 * 3)).map (fun j => ([.int .i64 s.lot, .int .i64 s.against, .int .i64 s.day] : List Value).getD j undef) = (List.range ((k + 1) * 3)).map (claimsF (backF f).claims) := by
  have e : nth (backF f).claims k = s := by rw [← hs]; exact nth_map _ h
  rw [range_more k, List.map_append, List.map_map]
  congr 1
  refine List.map_congr_left fun j hj => ?_
  have hj4 : j < 3 := by simpa using hj
  have e1 : (k * 3 + j) / 3 = k := by omega
  have e2 : (k * 3 + j) % 3 = j := by omega
  simp only [Function.comp, claimsF, e1, e2, e]
  match j, hj4 with
  | 0, _ => rfl
  | 1, _ => rfl
  | 2, _ => rfl

theorem intsB_refl (a : List Int) : intsB a a = true := by rw [intsB, lessB_irrefl]; simp
set_option maxHeartbeats 8000000 in
set_option maxRecDepth 100000 in
theorem claimOrder_any {f : File} {fa : FA} {w : World} (h : FileV w w.heap.size f fa) :
    Calls Try.prog 7 #[fileVal f fa] w fun e w' => e = .returned (.bool true) ∧ Below w.heap.size w w' := by
  obtain ⟨io0, hI0, hz00, hz01, hz02⟩ := info_parts Try.infoLotO
  obtain ⟨io1, hI1, hz10, hz11, hz12⟩ := info_parts Try.infoPaperO
  obtain ⟨io2, hI2, hz20, hz21, hz22⟩ := info_parts Try.infoClaimO
  have K := hide (BoxF.made h)
  have HB : Hid (Below w.heap.size w (w.alloc (.cells (fileCells f fa) 28))) := hide ((Below.refl _ _).alloc (Nat.le_refl _) _)
  clear h
  go_enter Try.func7, Try.ntmps7
  go_upto_region 1 with (fail)
  generalize (w.alloc (.cells (fileCells f fa) 28)) = y0 at *
  cases hv0 : decide ((checkM f).2.2 = 0) with
  | false =>
    obtain ⟨zK, cK1, cK2, cK3, cK4, cK5⟩ := K.out.cells
    go_wp2_with fail
    refine (valid7_any K.out.v hv0).mono ?_
    rintro e y11 ⟨rfl, hb⟩
    clear zK cK1 cK2 cK3 cK4 cK5
    have K := hide (K.out.next hb)
    have HB := hide (HB.out.trans (hb.mono HB.out.size))
    clear hb
    obtain ⟨zK, cK1, cK2, cK3, cK4, cK5⟩ := K.out.cells
    go_wp2_with fail
    refine (awake_any _).mono ?_
    rintro e yz ⟨rfl, hb⟩
    go_wp2_with fail
    go_ret
    exact ⟨rfl, HB.out.trans (hb.mono HB.out.size)⟩
  | true =>
    have hc0 : (checkM f).2.2 = 0 := by simpa using hv0
    have hv := valid_of hc0
    have HV := hide hv
    obtain ⟨l1, l2, l3, l4⟩ := order_laws hc0
    have H1 := hide l1
    have H2 := hide l2
    have H3 := hide l3
    have H4 := hide l4
    have hll4 := hv.lots
    have hpl5 := hv.papers
    have hcl5 := hv.claims
    have hpl4 := hv.parties
    have HV0 := hide hv0
    have hla0 : -1 ≤ lastL f := by unfold lastL; omega
    have hla3 : lastL f ≤ 3 := by unfold lastL; omega
    have HLA := hide (show lastL f + 1 = (f.lots.length : Int) by unfold lastL; omega)
    have hlaw : (f.lots.length : Int) - 1 = lastL f := rfl
    clear hc0 hv hv0 l1 l2 l3 l4
    obtain ⟨zK, cK1, cK2, cK3, cK4, cK5⟩ := K.out.cells
    go_wp2_with fail
    refine (valid7_any K.out.v HV0.out).mono ?_
    rintro e y11 ⟨rfl, hb⟩
    clear zK cK1 cK2 cK3 cK4 cK5
    have K := hide (K.out.next hb)
    have HB := hide (HB.out.trans (hb.mono HB.out.size))
    clear hb
    obtain ⟨zK, cK1, cK2, cK3, cK4, cK5⟩ := K.out.cells
    go_upto_region 6 with (fail)
    clear hlaw
    have HBG0 : Hid (Blk (y11.alloc (.cells #[Value.slice fa.A1 f.parties.length fa.c1, Value.slice fa.A2 f.untils.length fa.c2, Value.slice none 0 0, Value.slice none 0 0, Value.slice none 0 0] 28)) y11.heap.size 28 #[Value.slice fa.A1 f.parties.length fa.c1, Value.slice fa.A2 f.untils.length fa.c2, Value.slice none 0 0, Value.slice none 0 0, Value.slice none 0 0]) := hide Blk.made
    have hb : Below y11.heap.size y11 (y11.alloc (.cells #[Value.slice fa.A1 f.parties.length fa.c1, Value.slice fa.A2 f.untils.length fa.c2, Value.slice none 0 0, Value.slice none 0 0, Value.slice none 0 0] 28)) := (Below.refl _ _).alloc (Nat.le_refl _) _
    have hsz : y11.heap.size < (y11.alloc (.cells #[Value.slice fa.A1 f.parties.length fa.c1, Value.slice fa.A2 f.untils.length fa.c2, Value.slice none 0 0, Value.slice none 0 0, Value.slice none 0 0] 28)).heap.size := by simp
    clear zK cK1 cK2 cK3 cK4 cK5
    have K0 := hide K.out
    have hwg : w.heap.size ≤ y11.heap.size := HB.out.size
    have HBA := hide HB.out
    have HBB := hide hb
    clear hb K HB
    generalize (y11.alloc (.cells #[Value.slice fa.A1 f.parties.length fa.c1, Value.slice fa.A2 f.untils.length fa.c2, Value.slice none 0 0, Value.slice none 0 0, Value.slice none 0 0] 28)) = yb at *
    go_wp2_with fail
    go_loopw [5] (fun v5 wr => ∃ (k : Nat) (i : Int) (A : Option Addr) (c : Nat), k ≤ f.lots.length ∧ v5 = .int .i64 i ∧ Hid (i + k = lastL f) ∧ Keep (fun q => q = y11.heap.size) yb wr ∧ Hid (Blk wr y11.heap.size 28 #[Value.slice fa.A1 f.parties.length fa.c1, Value.slice fa.A2 f.untils.length fa.c2, .slice A k c, Value.slice none 0 0, Value.slice none 0 0]) ∧ Hid (wr.ownsRow (y11.heap.size + 1) 56 4 (.slice A k c) k ((List.range (k * 4)).map (lotsF (backF f).lots (backR f fa) (backK f fa))))) (fun v5 _ => (intOf v5 + 1).toNat)
    case atStart => exact ⟨0, lastL f, none, 0, Nat.zero_le _, rfl, hide (by simp), Keep.refl _ _, HBG0, hide (by simpa using World.ownsRow_nil _ _ _ _)⟩
    case round =>
      obtain ⟨k, i, AO, cO, hk, rfl, HI, hKp, BG, HO⟩ := hrel
      obtain ⟨v1, rfl⟩ : ∃ v1 : World, v1 = wr := ⟨_, rfl⟩
      have HKP := hide hKp
      clear hKp
      by_cases hi0 : 0 ≤ i
      · obtain ⟨q, rfl⟩ : ∃ q : Nat, i = (q : Int) := ⟨i.toNat, by omega⟩
        have hqn : q < f.lots.length := by have := HI.out; have := HLA.out; omega
        have HQK := hide (show q + k + 1 = f.lots.length by have := HI.out; have := HLA.out; omega)
        have hq1 : (q : Int) < (f.lots.length : Int) := by omega
        have K := hide (K0.out.next ((HBB.out).trans (HKP.out.below (B := y11.heap.size) (fun q h => by omega) (by omega))))
        obtain ⟨zK, cK1, cK2, cK3, cK4, cK5⟩ := K.out.cells
        obtain ⟨bl, ol, hA3, hbl, e0, e1, e2, e3⟩ := K.out.v.lots.lots hqn
        rw [hA3] at cK3
        clear hA3 cK1 cK2 cK4 cK5
        have zg := BG.out.lt
        have pg : v1.cell? ⟨y11.heap.size, 2, none⟩ = some (.slice AO k cO) := BG.out.at_ 2
        have fg := BG.out.free 2
        have HRW := hide (row_fun HO.out).2.2
        have hgv : y11.heap.size < v1.heap.size := zg
        go_upto_region 9 with (fail)
        refine wp_post0 (fun act0 a W => ∃ vs : Nat → Value, a = { tmps := setAll (fun oi => [45, 46, 47, 48, 49, 50, 51, 52, 53, 54, 55, 56, 0].getD oi 0) vs [0, 1, 2, 3, 4, 5, 6, 7, 8, 9, 10, 11] act0.tmps, defers := act0.defers } ∧ ∃ (W1 : World) (A : Option Addr) (cp : Nat), W = W1.setCell ⟨y11.heap.size, 2, none⟩ (.slice A (k + 1) cp) ∧ Below v1.heap.size v1 W1 ∧ W1.ownsRow v1.heap.size 56 4 (.slice A (k + 1) cp) (k + 1) ((List.range (k * 4)).map (lotsF (backF f).lots (backR f fa) (backK f fa)) ++ (List.range (1 * 4)).map (fun j => ([.slice (fa.R q) (nth f.lots q).route.length (fa.K q), .int .i64 (nth f.lots q).turned.lo, .int .i64 (nth f.lots q).turned.hi, .int .i64 (nth f.lots q).worth] : List Value).getD j undef))) ?regL ?impL
        case regL =>
          have hST : Stab v1.heap.size (fun oi v W => match oi with | 0 => ∃ A cp, v = .slice A 0 cp ∧ W.ownsRow v1.heap.size 56 4 (.slice A 0 cp) 0 ([]) | 1 => v = .pointer (some ⟨y11.heap.size, 2, none⟩) | 2 => v = .slice AO k cO | 3 => ∃ A cp, v = .slice A k cp ∧ W.ownsRow v1.heap.size 56 4 (.slice A k cp) k ((List.range (k * 4)).map (lotsF (backF f).lots (backR f fa) (backK f fa))) | 4 => v = .pointer (some ⟨w.heap.size, 2, none⟩) | 5 => v = .slice (some ⟨bl, ol, none⟩) f.lots.length fa.c3 | 6 => v = .int .i64 (q : Nat) | 7 => v = .pointer (some ⟨bl, ol + q * 4, none⟩) | 8 => v = .agg #[.slice (fa.R q) (nth f.lots q).route.length (fa.K q), .int .i64 (nth f.lots q).turned.lo, .int .i64 (nth f.lots q).turned.hi, .int .i64 (nth f.lots q).worth] | 9 => ∃ A cp, v = .slice A 1 cp ∧ W.ownsRow v1.heap.size 56 4 (.slice A 1 cp) 1 ([.slice (fa.R q) (nth f.lots q).route.length (fa.K q), .int .i64 (nth f.lots q).turned.lo, .int .i64 (nth f.lots q).turned.hi, .int .i64 (nth f.lots q).worth]) | 10 => ∃ A cp, v = .slice A (k + 1) cp ∧ W.ownsRow v1.heap.size 56 4 (.slice A (k + 1) cp) (k + 1) ((List.range (k * 4)).map (lotsF (backF f).lots (backR f fa) (backK f fa)) ++ (List.range (1 * 4)).map (fun j => ([.slice (fa.R q) (nth f.lots q).route.length (fa.K q), .int .i64 (nth f.lots q).turned.lo, .int .i64 (nth f.lots q).turned.hi, .int .i64 (nth f.lots q).worth] : List Value).getD j undef)) | _ => True) (fun oi v b => match oi with | 0 => v.ownBlock = some b | 3 => v.ownBlock = some b | 9 => v.ownBlock = some b | 10 => v.ownBlock = some b | _ => False) := by
            intro oi v W W' h hbs hz hk
            match oi, h, hk with
            | 0, h, hk => obtain ⟨A, cp, rfl, h2⟩ := h; exact ⟨A, cp, rfl, own_stab h2 (fun b hb e => hk b hb (.inr e))⟩
            | 1, h, hk => exact h
            | 2, h, hk => exact h
            | 3, h, hk => obtain ⟨A, cp, rfl, h2⟩ := h; exact ⟨A, cp, rfl, own_stab h2 (fun b hb e => hk b hb (.inr e))⟩
            | 4, h, hk => exact h
            | 5, h, hk => exact h
            | 6, h, hk => exact h
            | 7, h, hk => exact h
            | 8, h, hk => exact h
            | 9, h, hk => obtain ⟨A, cp, rfl, h2⟩ := h; exact ⟨A, cp, rfl, own_stab h2 (fun b hb e => hk b hb (.inr e))⟩
            | 10, h, hk => obtain ⟨A, cp, rfl, h2⟩ := h; exact ⟨A, cp, rfl, own_stab h2 (fun b hb e => hk b hb (.inr e))⟩
            | oi + 11, h, hk => exact trivial
          refine wp_region_inv (dst := fun oi => [45, 46, 47, 48, 49, 50, 51, 52, 53, 54, 55, 56, 0].getD oi 0) (mono := fun oi => decide (oi < 11)) (pre := fun oi => decide (oi < 11)) (G := Loose 13 v1.heap.size (fun oi => match oi with | 0 => 3 | 3 => 10 | _ => 13) (fun oi v W => match oi with | 0 => ∃ A cp, v = .slice A 0 cp ∧ W.ownsRow v1.heap.size 56 4 (.slice A 0 cp) 0 ([]) | 1 => v = .pointer (some ⟨y11.heap.size, 2, none⟩) | 2 => v = .slice AO k cO | 3 => ∃ A cp, v = .slice A k cp ∧ W.ownsRow v1.heap.size 56 4 (.slice A k cp) k ((List.range (k * 4)).map (lotsF (backF f).lots (backR f fa) (backK f fa))) | 4 => v = .pointer (some ⟨w.heap.size, 2, none⟩) | 5 => v = .slice (some ⟨bl, ol, none⟩) f.lots.length fa.c3 | 6 => v = .int .i64 (q : Nat) | 7 => v = .pointer (some ⟨bl, ol + q * 4, none⟩) | 8 => v = .agg #[.slice (fa.R q) (nth f.lots q).route.length (fa.K q), .int .i64 (nth f.lots q).turned.lo, .int .i64 (nth f.lots q).turned.hi, .int .i64 (nth f.lots q).worth] | 9 => ∃ A cp, v = .slice A 1 cp ∧ W.ownsRow v1.heap.size 56 4 (.slice A 1 cp) 1 ([.slice (fa.R q) (nth f.lots q).route.length (fa.K q), .int .i64 (nth f.lots q).turned.lo, .int .i64 (nth f.lots q).turned.hi, .int .i64 (nth f.lots q).worth]) | 10 => ∃ A cp, v = .slice A (k + 1) cp ∧ W.ownsRow v1.heap.size 56 4 (.slice A (k + 1) cp) (k + 1) ((List.range (k * 4)).map (lotsF (backF f).lots (backR f fa) (backK f fa)) ++ (List.range (1 * 4)).map (fun j => ([.slice (fa.R q) (nth f.lots q).route.length (fa.K q), .int .i64 (nth f.lots q).turned.lo, .int .i64 (nth f.lots q).turned.hi, .int .i64 (nth f.lots q).worth] : List Value).getD j undef)) | _ => True) (fun oi v b => match oi with | 0 => v.ownBlock = some b | 3 => v.ownBlock = some b | 9 => v.ownBlock = some b | 10 => v.ownBlock = some b | _ => False)) (by kernel_rfl) (by kernel_rfl) (Loose.start (Nat.le_refl _)) ?hstepL ?hendL
          case hstepL =>
            intro oi hoi hom listed vs a W hU hsz hG hcl hl haft K hK
            have hb := ((Below.refl v1.heap.size v1).drew).trans hU.below
            have hF := Loose.stepF hU hG hST hoi hK
            match oi, hoi, hom with
            | 0, hoi, hom =>
              refine wpOp_value (v := .slice (some ⟨W.heap.size, 0, none⟩) 0 0) (W' := (W.alloc (.cells #[] 56))) rfl rfl ?_ (hF _ _ ((Below.refl _ _).alloc (Nat.le_refl _) _) (own_lit hG.base #[] 0 rfl (by simp [maxLen])) (fun b h => by rw [← own_new h]; exact ⟨by simp, .inl (Nat.le_refl _)⟩))
              go_simp
            | 1, hoi, hom =>
              have z4 : a.tmps[4]?.getD undef = .pointer (some ⟨y11.heap.size, 0, none⟩) := hU.same 4 (by decide)
              refine wpOp_value (v := .pointer (some ⟨y11.heap.size, 2, none⟩)) (W' := W) rfl rfl ?_ (hF _ _ (Below.refl _ _) rfl (fun _ h => False.elim h))
              go_simp
            | 2, hoi, hom =>
              have l1 := haft _ rfl { on := 1, ground := .data } (by simp) rfl
              have p1 := hG.pv 1 (by decide) (live_end hsz rfl l1)
              have s1 : a.tmps[46]?.getD undef = vs 1 := hU.slot 1 (by decide) l1
              have hv1 : vs 1 = .pointer (some ⟨y11.heap.size, 2, none⟩) := p1
              rw [hv1] at s1
              have y0 := (hb.cell (p := ⟨y11.heap.size, 2, none⟩) (zg)).trans (pg)
              refine wpOp_value (v := .slice AO k cO) (W' := W) rfl rfl ?_ (hF _ _ (Below.refl _ _) rfl (fun _ h => False.elim h))
              go_simp
            | 3, hoi, hom =>
              have l0 := haft _ rfl { on := 0, ground := .data } (by simp) rfl
              have p0 := hG.pv 0 (by decide) (⟨l0, hl⟩)
              have s0 : a.tmps[45]?.getD undef = vs 0 := hU.slot 0 (by decide) l0
              obtain ⟨PA0, kp0, hv0, hi0⟩ := p0
              rw [hv0] at s0
              have l2 := haft _ rfl { on := 2, ground := .data } (by simp) rfl
              have p2 := hG.pv 2 (by decide) (live_end hsz rfl l2)
              have s2 : a.tmps[47]?.getD undef = vs 2 := hU.slot 2 (by decide) l2
              have hv2 : vs 2 = .slice AO k cO := p2
              rw [hv2] at s2
              have hA := Loose.stepA (p := 0) hU hG rfl hST hoi hK (by decide) (by decide) rfl ⟨l0, hl⟩ (fun b h => h) (by rw [hv0]; exact hi0)
              obtain ⟨v', W', hrun, hown', hg, hblk⟩ := run_app_row (P := Try.prog) W v1.heap.size 24 24 56 io0 (.agg #[.slice none 0 0, .int .i64 0, .int .i64 0, .int .i64 0]) 4 48 Try.underlying24 hI0 hz00 hz01 hz02 rfl (by decide) hi0 (HRW.out.below hb) (fun j h => lots_oneO _ _ _ j) (by simp only [maxLen]; omega) (by omega) hG.base
              rw [Nat.zero_add, List.nil_append] at hown'
              exact wpOp_append (s := 45) (x := 47) (v' := v') (W' := W') rfl rfl rfl s0 s2 hrun (hA _ _ _ _ (by rw [hv0]; exact hg) hown' (by rw [hv0]; exact hblk) (own_ex hown') (fun b h => h))
            | 4, hoi, hom =>
              have z1 : a.tmps[1]?.getD undef = .pointer (some ⟨w.heap.size, 0, none⟩) := hU.same 1 (by decide)
              refine wpOp_value (v := .pointer (some ⟨w.heap.size, 2, none⟩)) (W' := W) rfl rfl ?_ (hF _ _ (Below.refl _ _) rfl (fun _ h => False.elim h))
              go_simp
            | 5, hoi, hom =>
              have l4 := haft _ rfl { on := 4, ground := .data } (by simp) rfl
              have p4 := hG.pv 4 (by decide) (live_end hsz rfl l4)
              have s4 : a.tmps[49]?.getD undef = vs 4 := hU.slot 4 (by decide) l4
              have hv4 : vs 4 = .pointer (some ⟨w.heap.size, 2, none⟩) := p4
              rw [hv4] at s4
              have y0 := (hb.cell (p := ⟨w.heap.size, 2, none⟩) (zK)).trans (cK3)
              refine wpOp_value (v := .slice (some ⟨bl, ol, none⟩) f.lots.length fa.c3) (W' := W) rfl rfl ?_ (hF _ _ (Below.refl _ _) rfl (fun _ h => False.elim h))
              go_simp
            | 6, hoi, hom =>
              have z5 : a.tmps[5]?.getD undef = .int .i64 (q : Nat) := hU.same 5 (by decide)
              refine wpOp_value (v := .int .i64 (q : Nat)) (W' := W) rfl rfl ?_ (hF _ _ (Below.refl _ _) rfl (fun _ h => False.elim h))
              go_simp
            | 7, hoi, hom =>
              have l5 := haft _ rfl { on := 5, ground := .data } (by simp) rfl
              have p5 := hG.pv 5 (by decide) (live_end hsz rfl l5)
              have s5 : a.tmps[50]?.getD undef = vs 5 := hU.slot 5 (by decide) l5
              have hv5 : vs 5 = .slice (some ⟨bl, ol, none⟩) f.lots.length fa.c3 := p5
              rw [hv5] at s5
              have l6 := haft _ rfl { on := 6, ground := .data } (by simp) rfl
              have p6 := hG.pv 6 (by decide) (live_end hsz rfl l6)
              have s6 : a.tmps[51]?.getD undef = vs 6 := hU.slot 6 (by decide) l6
              have hv6 : vs 6 = .int .i64 (q : Nat) := p6
              rw [hv6] at s6
              refine wpOp_value (v := .pointer (some ⟨bl, ol + q * 4, none⟩)) (W' := W) rfl rfl ?_ (hF _ _ (Below.refl _ _) rfl (fun _ h => False.elim h))
              go_simp
            | 8, hoi, hom =>
              have l7 := haft _ rfl { on := 7, ground := .data } (by simp) rfl
              have p7 := hG.pv 7 (by decide) (live_end hsz rfl l7)
              have s7 : a.tmps[52]?.getD undef = vs 7 := hU.slot 7 (by decide) l7
              have hv7 : vs 7 = .pointer (some ⟨bl, ol + q * 4, none⟩) := p7
              rw [hv7] at s7
              have y0 := (hb.cell (p := ⟨bl, ol + q * 4, none⟩) (hbl)).trans (e0)
              have y1 := (hb.cell (p := ⟨bl, ol + q * 4 + 1, none⟩) (hbl)).trans (e1)
              have y2 := (hb.cell (p := ⟨bl, ol + q * 4 + 2, none⟩) (hbl)).trans (e2)
              have y3 := (hb.cell (p := ⟨bl, ol + q * 4 + 3, none⟩) (hbl)).trans (e3)
              refine wpOp_value (v := .agg #[.slice (fa.R q) (nth f.lots q).route.length (fa.K q), .int .i64 (nth f.lots q).turned.lo, .int .i64 (nth f.lots q).turned.hi, .int .i64 (nth f.lots q).worth]) (W' := W) rfl rfl ?_ (hF _ _ (Below.refl _ _) rfl (fun _ h => False.elim h))
              go_simp
            | 9, hoi, hom =>
              have l8 := haft _ rfl { on := 8, ground := .data } (by simp) rfl
              have p8 := hG.pv 8 (by decide) (live_end hsz rfl l8)
              have s8 : a.tmps[53]?.getD undef = vs 8 := hU.slot 8 (by decide) l8
              have hv8 : vs 8 = .agg #[.slice (fa.R q) (nth f.lots q).route.length (fa.K q), .int .i64 (nth f.lots q).turned.lo, .int .i64 (nth f.lots q).turned.hi, .int .i64 (nth f.lots q).worth] := p8
              rw [hv8] at s8
              refine wpOp_value (v := .slice (some ⟨W.heap.size, 0, none⟩) 1 1) (W' := (W.alloc (.cells #[.slice (fa.R q) (nth f.lots q).route.length (fa.K q), .int .i64 (nth f.lots q).turned.lo, .int .i64 (nth f.lots q).turned.hi, .int .i64 (nth f.lots q).worth] 56))) rfl rfl ?_ (hF _ _ ((Below.refl _ _).alloc (Nat.le_refl _) _) (own_lit hG.base #[.slice (fa.R q) (nth f.lots q).route.length (fa.K q), .int .i64 (nth f.lots q).turned.lo, .int .i64 (nth f.lots q).turned.hi, .int .i64 (nth f.lots q).worth] 1 rfl (by simp [maxLen])) (fun b h => by rw [← own_new h]; exact ⟨by simp, .inl (Nat.le_refl _)⟩))
              go_simp
            | 10, hoi, hom =>
              have l3 := haft _ rfl { on := 3, ground := .data } (by simp) rfl
              have p3 := hG.pv 3 (by decide) (⟨l3, hl⟩)
              have s3 : a.tmps[48]?.getD undef = vs 3 := hU.slot 3 (by decide) l3
              obtain ⟨PA3, kp3, hv3, hi3⟩ := p3
              rw [hv3] at s3
              have l9 := haft _ rfl { on := 9, ground := .data } (by simp) rfl
              have p9 := hG.pv 9 (by decide) (live_end hsz rfl l9)
              have s9 : a.tmps[54]?.getD undef = vs 9 := hU.slot 9 (by decide) l9
              obtain ⟨PA9, kp9, hv9, hi9⟩ := p9
              rw [hv9] at s9
              obtain ⟨_, _, e9, _, _, hr9⟩ := row_own hi9
              obtain ⟨rfl, rfl⟩ : _ = PA9 ∧ _ = kp9 := by simp only [Value.slice.injEq, true_and] at e9; exact ⟨e9.1.symm, e9.2.symm⟩
              have hA := Loose.stepA (p := 3) hU hG rfl hST hoi hK (by decide) (by decide) rfl ⟨l3, hl⟩ (fun b h => h) (by rw [hv3]; exact hi3)
              obtain ⟨v', W', hrun, hown', hg, hblk⟩ := run_app_row (P := Try.prog) W v1.heap.size 24 24 56 io0 (.agg #[.slice none 0 0, .int .i64 0, .int .i64 0, .int .i64 0]) 4 48 Try.underlying24 hI0 hz00 hz01 hz02 rfl (by decide) hi3 hr9 (one4l _ _ _ _ _ _) (by simp only [maxLen]; omega) (by omega) hG.base
              exact wpOp_append (s := 48) (x := 54) (v' := v') (W' := W') rfl rfl rfl s3 s9 hrun (hA _ _ _ _ (by rw [hv3]; exact hg) hown' (by rw [hv3]; exact hblk) (own_ex hown') (fun b h => h))
            | oi + 11, hoi, hom => exact absurd (of_decide_eq_true hom) (by omega)
          case hendL =>
            intro listed vs a W hG0 hG hpre
            have hb := ((Below.refl v1.heap.size v1).drew).trans hG0.below
            have hact := hG0.act
            have hT := hG0.lst hpre 0 #[true, true, true, true, true, true, true, true, true, true, true, false, false] rfl (by kernel_rfl) (hpre 0 (by decide) (by decide))
            rw [hG0.ix hT (l := [0, 1, 2, 3, 4, 5, 6, 7, 8, 9, 10]) (by kernel_rfl)] at hact
            rw [hG0.lo hT (k := 2) (by kernel_rfl)]
            have p10 := hG.pv 10 (by decide) (live_end hG.size rfl (hpre 10 (by decide) (by decide)))
            clear hpre hG hST
            obtain rfl : a = _ := hact
            subst hT
            obtain ⟨A, cp, hv10, hi10⟩ := p10
            have y4 := (hb.cell (p := ⟨y11.heap.size, 2, none⟩) zg).trans pg
            have f4 := (hb.frozen (p := ⟨y11.heap.size, 2, none⟩) zg).trans fg
            simp only [setAll, List.setIfInBounds_toArray, List.set_cons_succ, List.set_cons_zero, List.getD_cons_succ, List.getD_cons_zero]
            refine wpAny_all (rs := [11]) (by kernel_rfl) (by simp) ?_
            intro i2 hi2
            obtain rfl : i2 = 11 := by simpa using hi2
            refine wpOp_value (v := .pointer (some ⟨y11.heap.size, 2, none⟩)) (W' := W) rfl rfl ?_ ?_
            · go_simp
            refine wpAny_all (rs := [12]) (by kernel_rfl) (by simp) ?_
            intro i2 hi2
            obtain rfl : i2 = 12 := by simpa using hi2
            refine wpOp_skip (W' := W.setCell ⟨y11.heap.size, 2, none⟩ (.slice A (k + 1) cp)) rfl rfl ?_ ?_
            · rw [hv10]; go_simp
            refine wpAny_done (by kernel_rfl) ?_ _
            exact ⟨rfl, fun q => if q = 11 then .pointer (some ⟨y11.heap.size, 2, none⟩) else vs q, rfl, W, A, cp, rfl, hb, hi10⟩
        case impL =>
        rintro a9 w2 ⟨vs, rfl, W1, A, cp, rfl, hb1, hown⟩
        simp only [setAll, List.setIfInBounds_toArray, List.set_cons_succ, List.set_cons_zero, List.getD_cons_succ, List.getD_cons_zero]
        rw [lots_snoc HQK.out] at hown
        have hk1 : Keep (fun q => q = y11.heap.size) W1 (W1.setCell ⟨y11.heap.size, 2, none⟩ (.slice A (k + 1) cp)) := Keep.setCell _ _ _ _ rfl
        have HO2 := hide (own_base (own_kept hown hk1 (fun b hb hS => by omega)) (show y11.heap.size + 1 ≤ v1.heap.size by omega))
        have HK2 := hide (((HKP.out).trans (Keep.of_below' hb1 _)).trans hk1)
        have HB2 := hide ((BG.out.below hb1 zg).store 2 (.slice A (k + 1) cp))
        clear hk1 hown hb1 pg fg zg HRW
        generalize (W1.setCell ⟨y11.heap.size, 2, none⟩ (.slice A (k + 1) cp)) = w2 at *
        go_wp2_with fail
        go_roundw
        case rel => exact ⟨k + 1, (q : Int) - 1, A, cp, by have := HQK.out; omega, rfl, hide (by have := HI.out; omega), HK2, hide HB2.out, hide HO2.out⟩
        case measure => simp [intOf] <;> omega
      · have hkn : k = f.lots.length := by have := HI.out; have := HLA.out; omega
        subst hkn
        have HOL := HO
        have hgv : y11.heap.size < v1.heap.size := BG.out.lt
        have HB1 := hide (HBB.out.trans (HKP.out.below (B := y11.heap.size) (fun q h => by omega) (by omega)))
        clear HI HO HKP
        go_wp2_with fail
        clear hi0
        go_loopw [6, 7] (fun v6 _ wr => ∃ (k : Nat) (A : Option Addr) (c : Nat), k ≤ f.papers.length ∧ v6 = .int .i64 k ∧ Keep (fun q => q = y11.heap.size) v1 wr ∧ Hid (Blk wr y11.heap.size 28 #[Value.slice fa.A1 f.parties.length fa.c1, Value.slice fa.A2 f.untils.length fa.c2, .slice AO f.lots.length cO, .slice A k c, Value.slice none 0 0]) ∧ Hid (wr.ownsRow (y11.heap.size + 1) 48 3 (.slice A k c) k ((List.range (k * 3)).map (papersF (backF f).papers)))) (fun v6 _ _ => f.papers.length - (intOf v6).toNat)
        case atStart => exact ⟨0, none, 0, Nat.zero_le _, rfl, Keep.refl _ _, BG, hide (by simpa using World.ownsRow_nil _ _ _ _)⟩
        case round =>
          obtain ⟨k, AX, cX, hk, rfl, hKp, BG, HO⟩ := hrel
          obtain ⟨wa, rfl⟩ : ∃ wa : World, wa = wr := ⟨_, rfl⟩
          have HKP := hide hKp
          clear hKp
          have hk0 : (0 : Int) ≤ (k : Int) := Int.natCast_nonneg _
          have K := hide (K0.out.next ((HB1.out).trans (HKP.out.below (B := y11.heap.size) (fun q h => by omega) (by omega))))
          obtain ⟨zK, cK1, cK2, cK3, cK4, cK5⟩ := K.out.cells
          by_cases hlt : k < f.papers.length
          · have hk1 : (k : Int) < ((f.papers.length : Nat) : Int) := by omega
            have hpp := HV.out.paper k hlt
            obtain ⟨bp, op, hA4, hbp, e0, e1, e2⟩ := K.out.v.papers.papers hlt
            rw [hA4] at cK4
            have HSN := hide (fun (s' : Paper) (h : backPp (lastL f) (nth f.papers k) = s') => papers_snocO hlt h)
            clear hA4 cK1 cK2 cK3 cK5
            generalize nth f.papers k = p at *
            obtain ⟨ps, pl, po⟩ := p
            dsimp only at hpp e0 e1 e2
            have hps0 := hpp.1
            have hpl0 := hpp.2.2.1
            have hpl3 : pl ≤ 3 := by have := hpp.2.2.2.1; omega
            have HPO := hide hpp.2.2.2.2.2
            clear hpp
            by_cases h2 : 2 ≤ ps
            · have hpo := HPO.out h2
              have HSP := hide (HSN.out ⟨ps, lastL f - pl, lastL f - po⟩ (by unfold backPp; dsimp only; rw [if_pos h2]))
              have hpo0 := hpo.1
              have hpo3 : po ≤ 3 := by have := hpo.2.1; omega
              clear hpo
              clear HSN HPO
              go_upto_region 17 with (fail)
              clear e0 e1 e2 hbp zK cK4 K
              have hbn : Below wa.heap.size wa (wa.alloc (.cells #[.int .i64 ps, .int .i64 (lastL f - pl), .int .i64 (lastL f - po)] 48)) := (Below.refl _ _).alloc (Nat.le_refl _) _
              have BN : Blk (wa.alloc (.cells #[.int .i64 ps, .int .i64 (lastL f - pl), .int .i64 (lastL f - po)] 48)) wa.heap.size 48 #[.int .i64 ps, .int .i64 (lastL f - pl), .int .i64 (lastL f - po)] := Blk.made
              have HRW := hide (((row_fun HO.out).2.2.below hbn).more hbn.size)
              have BG2 := hide (BG.out.next hbn)
              generalize (wa.alloc (.cells #[.int .i64 ps, .int .i64 (lastL f - pl), .int .i64 (lastL f - po)] 48)) = vb at *
              have zg := BG2.out.lt
              have pg : vb.cell? ⟨y11.heap.size, 3, none⟩ = some (.slice AX k cX) := BG2.out.at_ 3
              have fg := BG2.out.free 3
              have zd := BN.lt
              have hgv : y11.heap.size < vb.heap.size := zg
              have d0 : vb.cell? ⟨wa.heap.size, 0, none⟩ = some (.int .i64 ps) := BN.at_ 0
              have d1 : vb.cell? ⟨wa.heap.size, 1, none⟩ = some (.int .i64 (lastL f - pl)) := BN.at_ 1
              have d2 : vb.cell? ⟨wa.heap.size, 2, none⟩ = some (.int .i64 (lastL f - po)) := BN.at_ 2
              have HBN := hide hbn
              clear hbn BN
              refine wp_post0 (fun act0 a W => ∃ vs : Nat → Value, a = { tmps := setAll (fun oi => [82, 83, 84, 85, 86, 87, 88, 89, 0].getD oi 0) vs [0, 1, 2, 3, 4, 5, 6, 7] act0.tmps, defers := act0.defers } ∧ ∃ (W1 : World) (A : Option Addr) (cp : Nat), W = W1.setCell ⟨y11.heap.size, 3, none⟩ (.slice A (k + 1) cp) ∧ Below vb.heap.size vb W1 ∧ W1.ownsRow vb.heap.size 48 3 (.slice A (k + 1) cp) (k + 1) ((List.range (k * 3)).map (papersF (backF f).papers) ++ (List.range (1 * 3)).map (fun j => ([.int .i64 ps, .int .i64 (lastL f - pl), .int .i64 (lastL f - po)] : List Value).getD j undef))) ?regP1 ?impP1
              case regP1 =>
                have hST : Stab vb.heap.size (fun oi v W => match oi with | 0 => ∃ A cp, v = .slice A 0 cp ∧ W.ownsRow vb.heap.size 48 3 (.slice A 0 cp) 0 ([]) | 1 => v = .pointer (some ⟨y11.heap.size, 3, none⟩) | 2 => v = .slice AX k cX | 3 => ∃ A cp, v = .slice A k cp ∧ W.ownsRow vb.heap.size 48 3 (.slice A k cp) k ((List.range (k * 3)).map (papersF (backF f).papers)) | 4 => v = .agg #[.int .i64 ps, .int .i64 (lastL f - pl), .int .i64 (lastL f - po)] | 5 => ∃ A cp, v = .slice A 1 cp ∧ W.ownsRow vb.heap.size 48 3 (.slice A 1 cp) 1 ([.int .i64 ps, .int .i64 (lastL f - pl), .int .i64 (lastL f - po)]) | 6 => ∃ A cp, v = .slice A (k + 1) cp ∧ W.ownsRow vb.heap.size 48 3 (.slice A (k + 1) cp) (k + 1) ((List.range (k * 3)).map (papersF (backF f).papers) ++ (List.range (1 * 3)).map (fun j => ([.int .i64 ps, .int .i64 (lastL f - pl), .int .i64 (lastL f - po)] : List Value).getD j undef)) | _ => True) (fun oi v b => match oi with | 0 => v.ownBlock = some b | 3 => v.ownBlock = some b | 5 => v.ownBlock = some b | 6 => v.ownBlock = some b | _ => False) := by
                  intro oi v W W' h hbs hz hk
                  match oi, h, hk with
                  | 0, h, hk => obtain ⟨A, cp, rfl, h2⟩ := h; exact ⟨A, cp, rfl, own_stab h2 (fun b hb e => hk b hb (.inr e))⟩
                  | 1, h, hk => exact h
                  | 2, h, hk => exact h
                  | 3, h, hk => obtain ⟨A, cp, rfl, h2⟩ := h; exact ⟨A, cp, rfl, own_stab h2 (fun b hb e => hk b hb (.inr e))⟩
                  | 4, h, hk => exact h
                  | 5, h, hk => obtain ⟨A, cp, rfl, h2⟩ := h; exact ⟨A, cp, rfl, own_stab h2 (fun b hb e => hk b hb (.inr e))⟩
                  | 6, h, hk => obtain ⟨A, cp, rfl, h2⟩ := h; exact ⟨A, cp, rfl, own_stab h2 (fun b hb e => hk b hb (.inr e))⟩
                  | oi + 7, h, hk => exact trivial
                refine wp_region_inv (dst := fun oi => [82, 83, 84, 85, 86, 87, 88, 89, 0].getD oi 0) (mono := fun oi => decide (oi < 7)) (pre := fun oi => decide (oi < 7)) (G := Loose 9 vb.heap.size (fun oi => match oi with | 0 => 3 | 3 => 6 | _ => 9) (fun oi v W => match oi with | 0 => ∃ A cp, v = .slice A 0 cp ∧ W.ownsRow vb.heap.size 48 3 (.slice A 0 cp) 0 ([]) | 1 => v = .pointer (some ⟨y11.heap.size, 3, none⟩) | 2 => v = .slice AX k cX | 3 => ∃ A cp, v = .slice A k cp ∧ W.ownsRow vb.heap.size 48 3 (.slice A k cp) k ((List.range (k * 3)).map (papersF (backF f).papers)) | 4 => v = .agg #[.int .i64 ps, .int .i64 (lastL f - pl), .int .i64 (lastL f - po)] | 5 => ∃ A cp, v = .slice A 1 cp ∧ W.ownsRow vb.heap.size 48 3 (.slice A 1 cp) 1 ([.int .i64 ps, .int .i64 (lastL f - pl), .int .i64 (lastL f - po)]) | 6 => ∃ A cp, v = .slice A (k + 1) cp ∧ W.ownsRow vb.heap.size 48 3 (.slice A (k + 1) cp) (k + 1) ((List.range (k * 3)).map (papersF (backF f).papers) ++ (List.range (1 * 3)).map (fun j => ([.int .i64 ps, .int .i64 (lastL f - pl), .int .i64 (lastL f - po)] : List Value).getD j undef)) | _ => True) (fun oi v b => match oi with | 0 => v.ownBlock = some b | 3 => v.ownBlock = some b | 5 => v.ownBlock = some b | 6 => v.ownBlock = some b | _ => False)) (by kernel_rfl) (by kernel_rfl) (Loose.start (Nat.le_refl _)) ?hstepP1 ?hendP1
                case hstepP1 =>
                  intro oi hoi hom listed vs a W hU hsz hG hcl hl haft K hK
                  have hb := ((Below.refl vb.heap.size vb).drew).trans hU.below
                  have hF := Loose.stepF hU hG hST hoi hK
                  match oi, hoi, hom with
                  | 0, hoi, hom =>
                    refine wpOp_value (v := .slice (some ⟨W.heap.size, 0, none⟩) 0 0) (W' := (W.alloc (.cells #[] 48))) rfl rfl ?_ (hF _ _ ((Below.refl _ _).alloc (Nat.le_refl _) _) (own_lit hG.base #[] 0 rfl (by simp [maxLen])) (fun b h => by rw [← own_new h]; exact ⟨by simp, .inl (Nat.le_refl _)⟩))
                    go_simp
                  | 1, hoi, hom =>
                    have z4 : a.tmps[4]?.getD undef = .pointer (some ⟨y11.heap.size, 0, none⟩) := hU.same 4 (by decide)
                    refine wpOp_value (v := .pointer (some ⟨y11.heap.size, 3, none⟩)) (W' := W) rfl rfl ?_ (hF _ _ (Below.refl _ _) rfl (fun _ h => False.elim h))
                    go_simp
                  | 2, hoi, hom =>
                    have l1 := haft _ rfl { on := 1, ground := .data } (by simp) rfl
                    have p1 := hG.pv 1 (by decide) (live_end hsz rfl l1)
                    have s1 : a.tmps[83]?.getD undef = vs 1 := hU.slot 1 (by decide) l1
                    have hv1 : vs 1 = .pointer (some ⟨y11.heap.size, 3, none⟩) := p1
                    rw [hv1] at s1
                    have y0 := (hb.cell (p := ⟨y11.heap.size, 3, none⟩) (zg)).trans (pg)
                    refine wpOp_value (v := .slice AX k cX) (W' := W) rfl rfl ?_ (hF _ _ (Below.refl _ _) rfl (fun _ h => False.elim h))
                    go_simp
                  | 3, hoi, hom =>
                    have l0 := haft _ rfl { on := 0, ground := .data } (by simp) rfl
                    have p0 := hG.pv 0 (by decide) (⟨l0, hl⟩)
                    have s0 : a.tmps[82]?.getD undef = vs 0 := hU.slot 0 (by decide) l0
                    obtain ⟨PA0, kp0, hv0, hi0⟩ := p0
                    rw [hv0] at s0
                    have l2 := haft _ rfl { on := 2, ground := .data } (by simp) rfl
                    have p2 := hG.pv 2 (by decide) (live_end hsz rfl l2)
                    have s2 : a.tmps[84]?.getD undef = vs 2 := hU.slot 2 (by decide) l2
                    have hv2 : vs 2 = .slice AX k cX := p2
                    rw [hv2] at s2
                    have hA := Loose.stepA (p := 0) hU hG rfl hST hoi hK (by decide) (by decide) rfl ⟨l0, hl⟩ (fun b h => h) (by rw [hv0]; exact hi0)
                    obtain ⟨v', W', hrun, hown', hg, hblk⟩ := run_app_row (P := Try.prog) W vb.heap.size 25 25 48 io1 (.agg #[.int .i64 0, .int .i64 0, .int .i64 0]) 3 24 Try.underlying25 hI1 hz10 hz11 hz12 rfl (by decide) hi0 (HRW.out.below hb) (fun j h => papers_oneO _ j) (by simp only [maxLen]; omega) (by omega) hG.base
                    rw [Nat.zero_add, List.nil_append] at hown'
                    exact wpOp_append (s := 82) (x := 84) (v' := v') (W' := W') rfl rfl rfl s0 s2 hrun (hA _ _ _ _ (by rw [hv0]; exact hg) hown' (by rw [hv0]; exact hblk) (own_ex hown') (fun b h => h))
                  | 4, hoi, hom =>
                    have z7 : a.tmps[7]?.getD undef = .pointer (some ⟨wa.heap.size, 0, none⟩) := hU.same 7 (by decide)
                    have y0 := (hb.cell (p := ⟨wa.heap.size, 0, none⟩) (zd)).trans (d0)
                    have y1 := (hb.cell (p := ⟨wa.heap.size, 1, none⟩) (zd)).trans (d1)
                    have y2 := (hb.cell (p := ⟨wa.heap.size, 2, none⟩) (zd)).trans (d2)
                    refine wpOp_value (v := .agg #[.int .i64 ps, .int .i64 (lastL f - pl), .int .i64 (lastL f - po)]) (W' := W) rfl rfl ?_ (hF _ _ (Below.refl _ _) rfl (fun _ h => False.elim h))
                    go_simp
                  | 5, hoi, hom =>
                    have l4 := haft _ rfl { on := 4, ground := .data } (by simp) rfl
                    have p4 := hG.pv 4 (by decide) (live_end hsz rfl l4)
                    have s4 : a.tmps[86]?.getD undef = vs 4 := hU.slot 4 (by decide) l4
                    have hv4 : vs 4 = .agg #[.int .i64 ps, .int .i64 (lastL f - pl), .int .i64 (lastL f - po)] := p4
                    rw [hv4] at s4
                    refine wpOp_value (v := .slice (some ⟨W.heap.size, 0, none⟩) 1 1) (W' := (W.alloc (.cells #[.int .i64 ps, .int .i64 (lastL f - pl), .int .i64 (lastL f - po)] 48))) rfl rfl ?_ (hF _ _ ((Below.refl _ _).alloc (Nat.le_refl _) _) (own_lit hG.base #[.int .i64 ps, .int .i64 (lastL f - pl), .int .i64 (lastL f - po)] 1 rfl (by simp [maxLen])) (fun b h => by rw [← own_new h]; exact ⟨by simp, .inl (Nat.le_refl _)⟩))
                    go_simp
                  | 6, hoi, hom =>
                    have l3 := haft _ rfl { on := 3, ground := .data } (by simp) rfl
                    have p3 := hG.pv 3 (by decide) (⟨l3, hl⟩)
                    have s3 : a.tmps[85]?.getD undef = vs 3 := hU.slot 3 (by decide) l3
                    obtain ⟨PA3, kp3, hv3, hi3⟩ := p3
                    rw [hv3] at s3
                    have l5 := haft _ rfl { on := 5, ground := .data } (by simp) rfl
                    have p5 := hG.pv 5 (by decide) (live_end hsz rfl l5)
                    have s5 : a.tmps[87]?.getD undef = vs 5 := hU.slot 5 (by decide) l5
                    obtain ⟨PA5, kp5, hv5, hi5⟩ := p5
                    rw [hv5] at s5
                    obtain ⟨_, _, e5, _, _, hr5⟩ := row_own hi5
                    obtain ⟨rfl, rfl⟩ : _ = PA5 ∧ _ = kp5 := by simp only [Value.slice.injEq, true_and] at e5; exact ⟨e5.1.symm, e5.2.symm⟩
                    have hA := Loose.stepA (p := 3) hU hG rfl hST hoi hK (by decide) (by decide) rfl ⟨l3, hl⟩ (fun b h => h) (by rw [hv3]; exact hi3)
                    obtain ⟨v', W', hrun, hown', hg, hblk⟩ := run_app_row (P := Try.prog) W vb.heap.size 25 25 48 io1 (.agg #[.int .i64 0, .int .i64 0, .int .i64 0]) 3 24 Try.underlying25 hI1 hz10 hz11 hz12 rfl (by decide) hi3 hr5 (one3O _ _ _) (by simp only [maxLen]; omega) (by omega) hG.base
                    exact wpOp_append (s := 85) (x := 87) (v' := v') (W' := W') rfl rfl rfl s3 s5 hrun (hA _ _ _ _ (by rw [hv3]; exact hg) hown' (by rw [hv3]; exact hblk) (own_ex hown') (fun b h => h))
                  | oi + 7, hoi, hom => exact absurd (of_decide_eq_true hom) (by omega)
                case hendP1 =>
                  intro listed vs a W hG0 hG hpre
                  have hb := ((Below.refl vb.heap.size vb).drew).trans hG0.below
                  have hact := hG0.act
                  have hT := hG0.lst hpre 0 #[true, true, true, true, true, true, true, false, false] rfl (by kernel_rfl) (hpre 0 (by decide) (by decide))
                  rw [hG0.ix hT (l := [0, 1, 2, 3, 4, 5, 6]) (by kernel_rfl)] at hact
                  rw [hG0.lo hT (k := 2) (by kernel_rfl)]
                  have p6 := hG.pv 6 (by decide) (live_end hG.size rfl (hpre 6 (by decide) (by decide)))
                  clear hpre hG hST
                  obtain rfl : a = _ := hact
                  subst hT
                  obtain ⟨A, cp, hv6, hi6⟩ := p6
                  have y4 := (hb.cell (p := ⟨y11.heap.size, 3, none⟩) zg).trans pg
                  have f4 := (hb.frozen (p := ⟨y11.heap.size, 3, none⟩) zg).trans fg
                  simp only [setAll, List.setIfInBounds_toArray, List.set_cons_succ, List.set_cons_zero, List.getD_cons_succ, List.getD_cons_zero]
                  refine wpAny_all (rs := [7]) (by kernel_rfl) (by simp) ?_
                  intro i2 hi2
                  obtain rfl : i2 = 7 := by simpa using hi2
                  refine wpOp_value (v := .pointer (some ⟨y11.heap.size, 3, none⟩)) (W' := W) rfl rfl ?_ ?_
                  · go_simp
                  refine wpAny_all (rs := [8]) (by kernel_rfl) (by simp) ?_
                  intro i2 hi2
                  obtain rfl : i2 = 8 := by simpa using hi2
                  refine wpOp_skip (W' := W.setCell ⟨y11.heap.size, 3, none⟩ (.slice A (k + 1) cp)) rfl rfl ?_ ?_
                  · rw [hv6]; go_simp
                  refine wpAny_done (by kernel_rfl) ?_ _
                  exact ⟨rfl, fun q => if q = 7 then .pointer (some ⟨y11.heap.size, 3, none⟩) else vs q, rfl, W, A, cp, rfl, hb, hi6⟩
              case impP1 =>
              rintro a9 w2 ⟨vs, rfl, W1, A, cp, rfl, hb1, hown⟩
              simp only [setAll, List.setIfInBounds_toArray, List.set_cons_succ, List.set_cons_zero, List.getD_cons_succ, List.getD_cons_zero]
              rw [HSP.out] at hown
              have hk1 : Keep (fun q => q = y11.heap.size) W1 (W1.setCell ⟨y11.heap.size, 3, none⟩ (.slice A (k + 1) cp)) := Keep.setCell _ _ _ _ rfl
              have HO2 := hide (own_base (own_kept hown hk1 (fun b hb hS => by omega)) (show y11.heap.size + 1 ≤ vb.heap.size by omega))
              have HK2 := hide ((((HKP.out.trans (Keep.of_below' HBN.out _))).trans (Keep.of_below' hb1 _)).trans hk1)
              have HB2 := hide ((BG2.out.below hb1 zg).store 3 (.slice A (k + 1) cp))
              clear hk1 hown hb1 pg fg zg HRW
              generalize (W1.setCell ⟨y11.heap.size, 3, none⟩ (.slice A (k + 1) cp)) = w2 at *
              go_wp2_with fail
              go_roundw
              case rel => exact ⟨k + 1, A, cp, by omega, by go_num, HK2.out, hide HB2.out, hide HO2.out⟩
              case measure => simp [intOf] <;> omega
            · have HSP := hide (HSN.out ⟨ps, lastL f - pl, po⟩ (by unfold backPp; dsimp only; rw [if_neg h2]))
              clear HSN HPO
              go_upto_region 17 with (fail)
              clear e0 e1 e2 hbp zK cK4 K
              have hbn : Below wa.heap.size wa (wa.alloc (.cells #[.int .i64 ps, .int .i64 (lastL f - pl), .int .i64 (po)] 48)) := (Below.refl _ _).alloc (Nat.le_refl _) _
              have BN : Blk (wa.alloc (.cells #[.int .i64 ps, .int .i64 (lastL f - pl), .int .i64 (po)] 48)) wa.heap.size 48 #[.int .i64 ps, .int .i64 (lastL f - pl), .int .i64 (po)] := Blk.made
              have HRW := hide (((row_fun HO.out).2.2.below hbn).more hbn.size)
              have BG2 := hide (BG.out.next hbn)
              generalize (wa.alloc (.cells #[.int .i64 ps, .int .i64 (lastL f - pl), .int .i64 (po)] 48)) = vb at *
              have zg := BG2.out.lt
              have pg : vb.cell? ⟨y11.heap.size, 3, none⟩ = some (.slice AX k cX) := BG2.out.at_ 3
              have fg := BG2.out.free 3
              have zd := BN.lt
              have hgv : y11.heap.size < vb.heap.size := zg
              have d0 : vb.cell? ⟨wa.heap.size, 0, none⟩ = some (.int .i64 ps) := BN.at_ 0
              have d1 : vb.cell? ⟨wa.heap.size, 1, none⟩ = some (.int .i64 (lastL f - pl)) := BN.at_ 1
              have d2 : vb.cell? ⟨wa.heap.size, 2, none⟩ = some (.int .i64 (po)) := BN.at_ 2
              have HBN := hide hbn
              clear hbn BN
              refine wp_post0 (fun act0 a W => ∃ vs : Nat → Value, a = { tmps := setAll (fun oi => [82, 83, 84, 85, 86, 87, 88, 89, 0].getD oi 0) vs [0, 1, 2, 3, 4, 5, 6, 7] act0.tmps, defers := act0.defers } ∧ ∃ (W1 : World) (A : Option Addr) (cp : Nat), W = W1.setCell ⟨y11.heap.size, 3, none⟩ (.slice A (k + 1) cp) ∧ Below vb.heap.size vb W1 ∧ W1.ownsRow vb.heap.size 48 3 (.slice A (k + 1) cp) (k + 1) ((List.range (k * 3)).map (papersF (backF f).papers) ++ (List.range (1 * 3)).map (fun j => ([.int .i64 ps, .int .i64 (lastL f - pl), .int .i64 (po)] : List Value).getD j undef))) ?regP0 ?impP0
              case regP0 =>
                have hST : Stab vb.heap.size (fun oi v W => match oi with | 0 => ∃ A cp, v = .slice A 0 cp ∧ W.ownsRow vb.heap.size 48 3 (.slice A 0 cp) 0 ([]) | 1 => v = .pointer (some ⟨y11.heap.size, 3, none⟩) | 2 => v = .slice AX k cX | 3 => ∃ A cp, v = .slice A k cp ∧ W.ownsRow vb.heap.size 48 3 (.slice A k cp) k ((List.range (k * 3)).map (papersF (backF f).papers)) | 4 => v = .agg #[.int .i64 ps, .int .i64 (lastL f - pl), .int .i64 (po)] | 5 => ∃ A cp, v = .slice A 1 cp ∧ W.ownsRow vb.heap.size 48 3 (.slice A 1 cp) 1 ([.int .i64 ps, .int .i64 (lastL f - pl), .int .i64 (po)]) | 6 => ∃ A cp, v = .slice A (k + 1) cp ∧ W.ownsRow vb.heap.size 48 3 (.slice A (k + 1) cp) (k + 1) ((List.range (k * 3)).map (papersF (backF f).papers) ++ (List.range (1 * 3)).map (fun j => ([.int .i64 ps, .int .i64 (lastL f - pl), .int .i64 (po)] : List Value).getD j undef)) | _ => True) (fun oi v b => match oi with | 0 => v.ownBlock = some b | 3 => v.ownBlock = some b | 5 => v.ownBlock = some b | 6 => v.ownBlock = some b | _ => False) := by
                  intro oi v W W' h hbs hz hk
                  match oi, h, hk with
                  | 0, h, hk => obtain ⟨A, cp, rfl, h2⟩ := h; exact ⟨A, cp, rfl, own_stab h2 (fun b hb e => hk b hb (.inr e))⟩
                  | 1, h, hk => exact h
                  | 2, h, hk => exact h
                  | 3, h, hk => obtain ⟨A, cp, rfl, h2⟩ := h; exact ⟨A, cp, rfl, own_stab h2 (fun b hb e => hk b hb (.inr e))⟩
                  | 4, h, hk => exact h
                  | 5, h, hk => obtain ⟨A, cp, rfl, h2⟩ := h; exact ⟨A, cp, rfl, own_stab h2 (fun b hb e => hk b hb (.inr e))⟩
                  | 6, h, hk => obtain ⟨A, cp, rfl, h2⟩ := h; exact ⟨A, cp, rfl, own_stab h2 (fun b hb e => hk b hb (.inr e))⟩
                  | oi + 7, h, hk => exact trivial
                refine wp_region_inv (dst := fun oi => [82, 83, 84, 85, 86, 87, 88, 89, 0].getD oi 0) (mono := fun oi => decide (oi < 7)) (pre := fun oi => decide (oi < 7)) (G := Loose 9 vb.heap.size (fun oi => match oi with | 0 => 3 | 3 => 6 | _ => 9) (fun oi v W => match oi with | 0 => ∃ A cp, v = .slice A 0 cp ∧ W.ownsRow vb.heap.size 48 3 (.slice A 0 cp) 0 ([]) | 1 => v = .pointer (some ⟨y11.heap.size, 3, none⟩) | 2 => v = .slice AX k cX | 3 => ∃ A cp, v = .slice A k cp ∧ W.ownsRow vb.heap.size 48 3 (.slice A k cp) k ((List.range (k * 3)).map (papersF (backF f).papers)) | 4 => v = .agg #[.int .i64 ps, .int .i64 (lastL f - pl), .int .i64 (po)] | 5 => ∃ A cp, v = .slice A 1 cp ∧ W.ownsRow vb.heap.size 48 3 (.slice A 1 cp) 1 ([.int .i64 ps, .int .i64 (lastL f - pl), .int .i64 (po)]) | 6 => ∃ A cp, v = .slice A (k + 1) cp ∧ W.ownsRow vb.heap.size 48 3 (.slice A (k + 1) cp) (k + 1) ((List.range (k * 3)).map (papersF (backF f).papers) ++ (List.range (1 * 3)).map (fun j => ([.int .i64 ps, .int .i64 (lastL f - pl), .int .i64 (po)] : List Value).getD j undef)) | _ => True) (fun oi v b => match oi with | 0 => v.ownBlock = some b | 3 => v.ownBlock = some b | 5 => v.ownBlock = some b | 6 => v.ownBlock = some b | _ => False)) (by kernel_rfl) (by kernel_rfl) (Loose.start (Nat.le_refl _)) ?hstepP0 ?hendP0
                case hstepP0 =>
                  intro oi hoi hom listed vs a W hU hsz hG hcl hl haft K hK
                  have hb := ((Below.refl vb.heap.size vb).drew).trans hU.below
                  have hF := Loose.stepF hU hG hST hoi hK
                  match oi, hoi, hom with
                  | 0, hoi, hom =>
                    refine wpOp_value (v := .slice (some ⟨W.heap.size, 0, none⟩) 0 0) (W' := (W.alloc (.cells #[] 48))) rfl rfl ?_ (hF _ _ ((Below.refl _ _).alloc (Nat.le_refl _) _) (own_lit hG.base #[] 0 rfl (by simp [maxLen])) (fun b h => by rw [← own_new h]; exact ⟨by simp, .inl (Nat.le_refl _)⟩))
                    go_simp
                  | 1, hoi, hom =>
                    have z4 : a.tmps[4]?.getD undef = .pointer (some ⟨y11.heap.size, 0, none⟩) := hU.same 4 (by decide)
                    refine wpOp_value (v := .pointer (some ⟨y11.heap.size, 3, none⟩)) (W' := W) rfl rfl ?_ (hF _ _ (Below.refl _ _) rfl (fun _ h => False.elim h))
                    go_simp
                  | 2, hoi, hom =>
                    have l1 := haft _ rfl { on := 1, ground := .data } (by simp) rfl
                    have p1 := hG.pv 1 (by decide) (live_end hsz rfl l1)
                    have s1 : a.tmps[83]?.getD undef = vs 1 := hU.slot 1 (by decide) l1
                    have hv1 : vs 1 = .pointer (some ⟨y11.heap.size, 3, none⟩) := p1
                    rw [hv1] at s1
                    have y0 := (hb.cell (p := ⟨y11.heap.size, 3, none⟩) (zg)).trans (pg)
                    refine wpOp_value (v := .slice AX k cX) (W' := W) rfl rfl ?_ (hF _ _ (Below.refl _ _) rfl (fun _ h => False.elim h))
                    go_simp
                  | 3, hoi, hom =>
                    have l0 := haft _ rfl { on := 0, ground := .data } (by simp) rfl
                    have p0 := hG.pv 0 (by decide) (⟨l0, hl⟩)
                    have s0 : a.tmps[82]?.getD undef = vs 0 := hU.slot 0 (by decide) l0
                    obtain ⟨PA0, kp0, hv0, hi0⟩ := p0
                    rw [hv0] at s0
                    have l2 := haft _ rfl { on := 2, ground := .data } (by simp) rfl
                    have p2 := hG.pv 2 (by decide) (live_end hsz rfl l2)
                    have s2 : a.tmps[84]?.getD undef = vs 2 := hU.slot 2 (by decide) l2
                    have hv2 : vs 2 = .slice AX k cX := p2
                    rw [hv2] at s2
                    have hA := Loose.stepA (p := 0) hU hG rfl hST hoi hK (by decide) (by decide) rfl ⟨l0, hl⟩ (fun b h => h) (by rw [hv0]; exact hi0)
                    obtain ⟨v', W', hrun, hown', hg, hblk⟩ := run_app_row (P := Try.prog) W vb.heap.size 25 25 48 io1 (.agg #[.int .i64 0, .int .i64 0, .int .i64 0]) 3 24 Try.underlying25 hI1 hz10 hz11 hz12 rfl (by decide) hi0 (HRW.out.below hb) (fun j h => papers_oneO _ j) (by simp only [maxLen]; omega) (by omega) hG.base
                    rw [Nat.zero_add, List.nil_append] at hown'
                    exact wpOp_append (s := 82) (x := 84) (v' := v') (W' := W') rfl rfl rfl s0 s2 hrun (hA _ _ _ _ (by rw [hv0]; exact hg) hown' (by rw [hv0]; exact hblk) (own_ex hown') (fun b h => h))
                  | 4, hoi, hom =>
                    have z7 : a.tmps[7]?.getD undef = .pointer (some ⟨wa.heap.size, 0, none⟩) := hU.same 7 (by decide)
                    have y0 := (hb.cell (p := ⟨wa.heap.size, 0, none⟩) (zd)).trans (d0)
                    have y1 := (hb.cell (p := ⟨wa.heap.size, 1, none⟩) (zd)).trans (d1)
                    have y2 := (hb.cell (p := ⟨wa.heap.size, 2, none⟩) (zd)).trans (d2)
                    refine wpOp_value (v := .agg #[.int .i64 ps, .int .i64 (lastL f - pl), .int .i64 (po)]) (W' := W) rfl rfl ?_ (hF _ _ (Below.refl _ _) rfl (fun _ h => False.elim h))
                    go_simp
                  | 5, hoi, hom =>
                    have l4 := haft _ rfl { on := 4, ground := .data } (by simp) rfl
                    have p4 := hG.pv 4 (by decide) (live_end hsz rfl l4)
                    have s4 : a.tmps[86]?.getD undef = vs 4 := hU.slot 4 (by decide) l4
                    have hv4 : vs 4 = .agg #[.int .i64 ps, .int .i64 (lastL f - pl), .int .i64 (po)] := p4
                    rw [hv4] at s4
                    refine wpOp_value (v := .slice (some ⟨W.heap.size, 0, none⟩) 1 1) (W' := (W.alloc (.cells #[.int .i64 ps, .int .i64 (lastL f - pl), .int .i64 (po)] 48))) rfl rfl ?_ (hF _ _ ((Below.refl _ _).alloc (Nat.le_refl _) _) (own_lit hG.base #[.int .i64 ps, .int .i64 (lastL f - pl), .int .i64 (po)] 1 rfl (by simp [maxLen])) (fun b h => by rw [← own_new h]; exact ⟨by simp, .inl (Nat.le_refl _)⟩))
                    go_simp
                  | 6, hoi, hom =>
                    have l3 := haft _ rfl { on := 3, ground := .data } (by simp) rfl
                    have p3 := hG.pv 3 (by decide) (⟨l3, hl⟩)
                    have s3 : a.tmps[85]?.getD undef = vs 3 := hU.slot 3 (by decide) l3
                    obtain ⟨PA3, kp3, hv3, hi3⟩ := p3
                    rw [hv3] at s3
                    have l5 := haft _ rfl { on := 5, ground := .data } (by simp) rfl
                    have p5 := hG.pv 5 (by decide) (live_end hsz rfl l5)
                    have s5 : a.tmps[87]?.getD undef = vs 5 := hU.slot 5 (by decide) l5
                    obtain ⟨PA5, kp5, hv5, hi5⟩ := p5
                    rw [hv5] at s5
                    obtain ⟨_, _, e5, _, _, hr5⟩ := row_own hi5
                    obtain ⟨rfl, rfl⟩ : _ = PA5 ∧ _ = kp5 := by simp only [Value.slice.injEq, true_and] at e5; exact ⟨e5.1.symm, e5.2.symm⟩
                    have hA := Loose.stepA (p := 3) hU hG rfl hST hoi hK (by decide) (by decide) rfl ⟨l3, hl⟩ (fun b h => h) (by rw [hv3]; exact hi3)
                    obtain ⟨v', W', hrun, hown', hg, hblk⟩ := run_app_row (P := Try.prog) W vb.heap.size 25 25 48 io1 (.agg #[.int .i64 0, .int .i64 0, .int .i64 0]) 3 24 Try.underlying25 hI1 hz10 hz11 hz12 rfl (by decide) hi3 hr5 (one3O _ _ _) (by simp only [maxLen]; omega) (by omega) hG.base
                    exact wpOp_append (s := 85) (x := 87) (v' := v') (W' := W') rfl rfl rfl s3 s5 hrun (hA _ _ _ _ (by rw [hv3]; exact hg) hown' (by rw [hv3]; exact hblk) (own_ex hown') (fun b h => h))
                  | oi + 7, hoi, hom => exact absurd (of_decide_eq_true hom) (by omega)
                case hendP0 =>
                  intro listed vs a W hG0 hG hpre
                  have hb := ((Below.refl vb.heap.size vb).drew).trans hG0.below
                  have hact := hG0.act
                  have hT := hG0.lst hpre 0 #[true, true, true, true, true, true, true, false, false] rfl (by kernel_rfl) (hpre 0 (by decide) (by decide))
                  rw [hG0.ix hT (l := [0, 1, 2, 3, 4, 5, 6]) (by kernel_rfl)] at hact
                  rw [hG0.lo hT (k := 2) (by kernel_rfl)]
                  have p6 := hG.pv 6 (by decide) (live_end hG.size rfl (hpre 6 (by decide) (by decide)))
                  clear hpre hG hST
                  obtain rfl : a = _ := hact
                  subst hT
                  obtain ⟨A, cp, hv6, hi6⟩ := p6
                  have y4 := (hb.cell (p := ⟨y11.heap.size, 3, none⟩) zg).trans pg
                  have f4 := (hb.frozen (p := ⟨y11.heap.size, 3, none⟩) zg).trans fg
                  simp only [setAll, List.setIfInBounds_toArray, List.set_cons_succ, List.set_cons_zero, List.getD_cons_succ, List.getD_cons_zero]
                  refine wpAny_all (rs := [7]) (by kernel_rfl) (by simp) ?_
                  intro i2 hi2
                  obtain rfl : i2 = 7 := by simpa using hi2
                  refine wpOp_value (v := .pointer (some ⟨y11.heap.size, 3, none⟩)) (W' := W) rfl rfl ?_ ?_
                  · go_simp
                  refine wpAny_all (rs := [8]) (by kernel_rfl) (by simp) ?_
                  intro i2 hi2
                  obtain rfl : i2 = 8 := by simpa using hi2
                  refine wpOp_skip (W' := W.setCell ⟨y11.heap.size, 3, none⟩ (.slice A (k + 1) cp)) rfl rfl ?_ ?_
                  · rw [hv6]; go_simp
                  refine wpAny_done (by kernel_rfl) ?_ _
                  exact ⟨rfl, fun q => if q = 7 then .pointer (some ⟨y11.heap.size, 3, none⟩) else vs q, rfl, W, A, cp, rfl, hb, hi6⟩
              case impP0 =>
              rintro a9 w2 ⟨vs, rfl, W1, A, cp, rfl, hb1, hown⟩
              simp only [setAll, List.setIfInBounds_toArray, List.set_cons_succ, List.set_cons_zero, List.getD_cons_succ, List.getD_cons_zero]
              rw [HSP.out] at hown
              have hk1 : Keep (fun q => q = y11.heap.size) W1 (W1.setCell ⟨y11.heap.size, 3, none⟩ (.slice A (k + 1) cp)) := Keep.setCell _ _ _ _ rfl
              have HO2 := hide (own_base (own_kept hown hk1 (fun b hb hS => by omega)) (show y11.heap.size + 1 ≤ vb.heap.size by omega))
              have HK2 := hide ((((HKP.out.trans (Keep.of_below' HBN.out _))).trans (Keep.of_below' hb1 _)).trans hk1)
              have HB2 := hide ((BG2.out.below hb1 zg).store 3 (.slice A (k + 1) cp))
              clear hk1 hown hb1 pg fg zg HRW
              generalize (W1.setCell ⟨y11.heap.size, 3, none⟩ (.slice A (k + 1) cp)) = w2 at *
              go_wp2_with fail
              go_roundw
              case rel => exact ⟨k + 1, A, cp, by omega, by go_num, HK2.out, hide HB2.out, hide HO2.out⟩
              case measure => simp [intOf] <;> omega
          · obtain rfl : k = f.papers.length := by omega
            have HOL := hide (own_kept HOL.out HKP.out (fun b hb hS => by omega))
            have HOP := HO
            have hgv2 : y11.heap.size < wa.heap.size := BG.out.lt
            have HB2 := hide (HB1.out.trans (HKP.out.below (B := y11.heap.size) (fun q h => by omega) (by omega)))
            obtain ⟨APp, hAPp⟩ : ∃ z, z = AX := ⟨_, rfl⟩
            obtain ⟨cPp, hcPp⟩ : ∃ z, z = cX := ⟨_, rfl⟩
            subst hAPp hcPp
            clear HO HKP
            obtain ⟨v2, rfl⟩ : ∃ v2 : World, v2 = wa := ⟨_, rfl⟩
            go_wp2_with fail
            clear hlt K zK cK1 cK2 cK3 cK4 cK5
            go_loopw [8, 9] (fun v8 _ wr => ∃ (k : Nat) (A : Option Addr) (c : Nat), k ≤ f.claims.length ∧ v8 = .int .i64 k ∧ Keep (fun q => q = y11.heap.size) v2 wr ∧ Hid (Blk wr y11.heap.size 28 #[Value.slice fa.A1 f.parties.length fa.c1, Value.slice fa.A2 f.untils.length fa.c2, .slice AO f.lots.length cO, .slice APp f.papers.length cPp, .slice A k c]) ∧ Hid (wr.ownsRow (y11.heap.size + 1) 52 3 (.slice A k c) k ((List.range (k * 3)).map (claimsF (backF f).claims)))) (fun v8 _ _ => f.claims.length - (intOf v8).toNat)
            case atStart => exact ⟨0, none, 0, Nat.zero_le _, rfl, Keep.refl _ _, BG, hide (by simpa using World.ownsRow_nil _ _ _ _)⟩
            case round =>
              obtain ⟨k, AX, cX, hk, rfl, hKp, BG, HO⟩ := hrel
              obtain ⟨wa, rfl⟩ : ∃ wa : World, wa = wr := ⟨_, rfl⟩
              have HKP := hide hKp
              clear hKp
              have hk0 : (0 : Int) ≤ (k : Int) := Int.natCast_nonneg _
              have K := hide (K0.out.next ((HB2.out).trans (HKP.out.below (B := y11.heap.size) (fun q h => by omega) (by omega))))
              obtain ⟨zK, cK1, cK2, cK3, cK4, cK5⟩ := K.out.cells
              by_cases hlt : k < f.claims.length
              · have hk1 : (k : Int) < ((f.claims.length : Nat) : Int) := by omega
                have hpp := HV.out.claim k hlt
                obtain ⟨bp, op, hA5, hbp, e0, e1, e2⟩ := K.out.v.claims.claims hlt
                rw [hA5] at cK5
                have HSN := hide (fun (s' : Claim) (h : backCc (lastL f) (nth f.claims k) = s') => claims_snocO hlt h)
                clear hA5 cK1 cK2 cK3 cK4
                generalize nth f.claims k = p at *
                obtain ⟨cl, ca, cd⟩ := p
                dsimp only at hpp e0 e1 e2
                have hpl0 := hpp.1
                have hpl3 : cl ≤ 3 := by have := hpp.2.1; omega
                have HSP := hide (HSN.out ⟨lastL f - cl, ca, cd⟩ rfl)
                clear hpp HSN
                go_upto_region 23 with (fail)
                clear e0 e1 e2 hbp zK cK5 K
                have hbn : Below wa.heap.size wa (wa.alloc (.cells #[.int .i64 (lastL f - cl), .int .i64 ca, .int .i64 cd] 52)) := (Below.refl _ _).alloc (Nat.le_refl _) _
                have BN : Blk (wa.alloc (.cells #[.int .i64 (lastL f - cl), .int .i64 ca, .int .i64 cd] 52)) wa.heap.size 52 #[.int .i64 (lastL f - cl), .int .i64 ca, .int .i64 cd] := Blk.made
                have HRW := hide (((row_fun HO.out).2.2.below hbn).more hbn.size)
                have BG2 := hide (BG.out.next hbn)
                generalize (wa.alloc (.cells #[.int .i64 (lastL f - cl), .int .i64 ca, .int .i64 cd] 52)) = vb at *
                have zg := BG2.out.lt
                have pg : vb.cell? ⟨y11.heap.size, 4, none⟩ = some (.slice AX k cX) := BG2.out.at_ 4
                have fg := BG2.out.free 4
                have zd := BN.lt
                have hgv : y11.heap.size < vb.heap.size := zg
                have d0 : vb.cell? ⟨wa.heap.size, 0, none⟩ = some (.int .i64 (lastL f - cl)) := BN.at_ 0
                have d1 : vb.cell? ⟨wa.heap.size, 1, none⟩ = some (.int .i64 ca) := BN.at_ 1
                have d2 : vb.cell? ⟨wa.heap.size, 2, none⟩ = some (.int .i64 cd) := BN.at_ 2
                have HBN := hide hbn
                clear hbn BN
                refine wp_post0 (fun act0 a W => ∃ vs : Nat → Value, a = { tmps := setAll (fun oi => [107, 108, 109, 110, 111, 112, 113, 114, 0].getD oi 0) vs [0, 1, 2, 3, 4, 5, 6, 7] act0.tmps, defers := act0.defers } ∧ ∃ (W1 : World) (A : Option Addr) (cp : Nat), W = W1.setCell ⟨y11.heap.size, 4, none⟩ (.slice A (k + 1) cp) ∧ Below vb.heap.size vb W1 ∧ W1.ownsRow vb.heap.size 52 3 (.slice A (k + 1) cp) (k + 1) ((List.range (k * 3)).map (claimsF (backF f).claims) ++ (List.range (1 * 3)).map (fun j => ([.int .i64 (lastL f - cl), .int .i64 ca, .int .i64 cd] : List Value).getD j undef))) ?regC ?impC
                case regC =>
                  have hST : Stab vb.heap.size (fun oi v W => match oi with | 0 => ∃ A cp, v = .slice A 0 cp ∧ W.ownsRow vb.heap.size 52 3 (.slice A 0 cp) 0 ([]) | 1 => v = .pointer (some ⟨y11.heap.size, 4, none⟩) | 2 => v = .slice AX k cX | 3 => ∃ A cp, v = .slice A k cp ∧ W.ownsRow vb.heap.size 52 3 (.slice A k cp) k ((List.range (k * 3)).map (claimsF (backF f).claims)) | 4 => v = .agg #[.int .i64 (lastL f - cl), .int .i64 ca, .int .i64 cd] | 5 => ∃ A cp, v = .slice A 1 cp ∧ W.ownsRow vb.heap.size 52 3 (.slice A 1 cp) 1 ([.int .i64 (lastL f - cl), .int .i64 ca, .int .i64 cd]) | 6 => ∃ A cp, v = .slice A (k + 1) cp ∧ W.ownsRow vb.heap.size 52 3 (.slice A (k + 1) cp) (k + 1) ((List.range (k * 3)).map (claimsF (backF f).claims) ++ (List.range (1 * 3)).map (fun j => ([.int .i64 (lastL f - cl), .int .i64 ca, .int .i64 cd] : List Value).getD j undef)) | _ => True) (fun oi v b => match oi with | 0 => v.ownBlock = some b | 3 => v.ownBlock = some b | 5 => v.ownBlock = some b | 6 => v.ownBlock = some b | _ => False) := by
                    intro oi v W W' h hbs hz hk
                    match oi, h, hk with
                    | 0, h, hk => obtain ⟨A, cp, rfl, h2⟩ := h; exact ⟨A, cp, rfl, own_stab h2 (fun b hb e => hk b hb (.inr e))⟩
                    | 1, h, hk => exact h
                    | 2, h, hk => exact h
                    | 3, h, hk => obtain ⟨A, cp, rfl, h2⟩ := h; exact ⟨A, cp, rfl, own_stab h2 (fun b hb e => hk b hb (.inr e))⟩
                    | 4, h, hk => exact h
                    | 5, h, hk => obtain ⟨A, cp, rfl, h2⟩ := h; exact ⟨A, cp, rfl, own_stab h2 (fun b hb e => hk b hb (.inr e))⟩
                    | 6, h, hk => obtain ⟨A, cp, rfl, h2⟩ := h; exact ⟨A, cp, rfl, own_stab h2 (fun b hb e => hk b hb (.inr e))⟩
                    | oi + 7, h, hk => exact trivial
                  refine wp_region_inv (dst := fun oi => [107, 108, 109, 110, 111, 112, 113, 114, 0].getD oi 0) (mono := fun oi => decide (oi < 7)) (pre := fun oi => decide (oi < 7)) (G := Loose 9 vb.heap.size (fun oi => match oi with | 0 => 3 | 3 => 6 | _ => 9) (fun oi v W => match oi with | 0 => ∃ A cp, v = .slice A 0 cp ∧ W.ownsRow vb.heap.size 52 3 (.slice A 0 cp) 0 ([]) | 1 => v = .pointer (some ⟨y11.heap.size, 4, none⟩) | 2 => v = .slice AX k cX | 3 => ∃ A cp, v = .slice A k cp ∧ W.ownsRow vb.heap.size 52 3 (.slice A k cp) k ((List.range (k * 3)).map (claimsF (backF f).claims)) | 4 => v = .agg #[.int .i64 (lastL f - cl), .int .i64 ca, .int .i64 cd] | 5 => ∃ A cp, v = .slice A 1 cp ∧ W.ownsRow vb.heap.size 52 3 (.slice A 1 cp) 1 ([.int .i64 (lastL f - cl), .int .i64 ca, .int .i64 cd]) | 6 => ∃ A cp, v = .slice A (k + 1) cp ∧ W.ownsRow vb.heap.size 52 3 (.slice A (k + 1) cp) (k + 1) ((List.range (k * 3)).map (claimsF (backF f).claims) ++ (List.range (1 * 3)).map (fun j => ([.int .i64 (lastL f - cl), .int .i64 ca, .int .i64 cd] : List Value).getD j undef)) | _ => True) (fun oi v b => match oi with | 0 => v.ownBlock = some b | 3 => v.ownBlock = some b | 5 => v.ownBlock = some b | 6 => v.ownBlock = some b | _ => False)) (by kernel_rfl) (by kernel_rfl) (Loose.start (Nat.le_refl _)) ?hstepC ?hendC
                  case hstepC =>
                    intro oi hoi hom listed vs a W hU hsz hG hcl hl haft K hK
                    have hb := ((Below.refl vb.heap.size vb).drew).trans hU.below
                    have hF := Loose.stepF hU hG hST hoi hK
                    match oi, hoi, hom with
                    | 0, hoi, hom =>
                      refine wpOp_value (v := .slice (some ⟨W.heap.size, 0, none⟩) 0 0) (W' := (W.alloc (.cells #[] 52))) rfl rfl ?_ (hF _ _ ((Below.refl _ _).alloc (Nat.le_refl _) _) (own_lit hG.base #[] 0 rfl (by simp [maxLen])) (fun b h => by rw [← own_new h]; exact ⟨by simp, .inl (Nat.le_refl _)⟩))
                      go_simp
                    | 1, hoi, hom =>
                      have z4 : a.tmps[4]?.getD undef = .pointer (some ⟨y11.heap.size, 0, none⟩) := hU.same 4 (by decide)
                      refine wpOp_value (v := .pointer (some ⟨y11.heap.size, 4, none⟩)) (W' := W) rfl rfl ?_ (hF _ _ (Below.refl _ _) rfl (fun _ h => False.elim h))
                      go_simp
                    | 2, hoi, hom =>
                      have l1 := haft _ rfl { on := 1, ground := .data } (by simp) rfl
                      have p1 := hG.pv 1 (by decide) (live_end hsz rfl l1)
                      have s1 : a.tmps[108]?.getD undef = vs 1 := hU.slot 1 (by decide) l1
                      have hv1 : vs 1 = .pointer (some ⟨y11.heap.size, 4, none⟩) := p1
                      rw [hv1] at s1
                      have y0 := (hb.cell (p := ⟨y11.heap.size, 4, none⟩) (zg)).trans (pg)
                      refine wpOp_value (v := .slice AX k cX) (W' := W) rfl rfl ?_ (hF _ _ (Below.refl _ _) rfl (fun _ h => False.elim h))
                      go_simp
                    | 3, hoi, hom =>
                      have l0 := haft _ rfl { on := 0, ground := .data } (by simp) rfl
                      have p0 := hG.pv 0 (by decide) (⟨l0, hl⟩)
                      have s0 : a.tmps[107]?.getD undef = vs 0 := hU.slot 0 (by decide) l0
                      obtain ⟨PA0, kp0, hv0, hi0⟩ := p0
                      rw [hv0] at s0
                      have l2 := haft _ rfl { on := 2, ground := .data } (by simp) rfl
                      have p2 := hG.pv 2 (by decide) (live_end hsz rfl l2)
                      have s2 : a.tmps[109]?.getD undef = vs 2 := hU.slot 2 (by decide) l2
                      have hv2 : vs 2 = .slice AX k cX := p2
                      rw [hv2] at s2
                      have hA := Loose.stepA (p := 0) hU hG rfl hST hoi hK (by decide) (by decide) rfl ⟨l0, hl⟩ (fun b h => h) (by rw [hv0]; exact hi0)
                      obtain ⟨v', W', hrun, hown', hg, hblk⟩ := run_app_row (P := Try.prog) W vb.heap.size 26 26 52 io2 (.agg #[.int .i64 0, .int .i64 0, .int .i64 0]) 3 24 Try.underlying26 hI2 hz20 hz21 hz22 rfl (by decide) hi0 (HRW.out.below hb) (fun j h => claims_oneO _ j) (by simp only [maxLen]; omega) (by omega) hG.base
                      rw [Nat.zero_add, List.nil_append] at hown'
                      exact wpOp_append (s := 107) (x := 109) (v' := v') (W' := W') rfl rfl rfl s0 s2 hrun (hA _ _ _ _ (by rw [hv0]; exact hg) hown' (by rw [hv0]; exact hblk) (own_ex hown') (fun b h => h))
                    | 4, hoi, hom =>
                      have z9 : a.tmps[9]?.getD undef = .pointer (some ⟨wa.heap.size, 0, none⟩) := hU.same 9 (by decide)
                      have y0 := (hb.cell (p := ⟨wa.heap.size, 0, none⟩) (zd)).trans (d0)
                      have y1 := (hb.cell (p := ⟨wa.heap.size, 1, none⟩) (zd)).trans (d1)
                      have y2 := (hb.cell (p := ⟨wa.heap.size, 2, none⟩) (zd)).trans (d2)
                      refine wpOp_value (v := .agg #[.int .i64 (lastL f - cl), .int .i64 ca, .int .i64 cd]) (W' := W) rfl rfl ?_ (hF _ _ (Below.refl _ _) rfl (fun _ h => False.elim h))
                      go_simp
                    | 5, hoi, hom =>
                      have l4 := haft _ rfl { on := 4, ground := .data } (by simp) rfl
                      have p4 := hG.pv 4 (by decide) (live_end hsz rfl l4)
                      have s4 : a.tmps[111]?.getD undef = vs 4 := hU.slot 4 (by decide) l4
                      have hv4 : vs 4 = .agg #[.int .i64 (lastL f - cl), .int .i64 ca, .int .i64 cd] := p4
                      rw [hv4] at s4
                      refine wpOp_value (v := .slice (some ⟨W.heap.size, 0, none⟩) 1 1) (W' := (W.alloc (.cells #[.int .i64 (lastL f - cl), .int .i64 ca, .int .i64 cd] 52))) rfl rfl ?_ (hF _ _ ((Below.refl _ _).alloc (Nat.le_refl _) _) (own_lit hG.base #[.int .i64 (lastL f - cl), .int .i64 ca, .int .i64 cd] 1 rfl (by simp [maxLen])) (fun b h => by rw [← own_new h]; exact ⟨by simp, .inl (Nat.le_refl _)⟩))
                      go_simp
                    | 6, hoi, hom =>
                      have l3 := haft _ rfl { on := 3, ground := .data } (by simp) rfl
                      have p3 := hG.pv 3 (by decide) (⟨l3, hl⟩)
                      have s3 : a.tmps[110]?.getD undef = vs 3 := hU.slot 3 (by decide) l3
                      obtain ⟨PA3, kp3, hv3, hi3⟩ := p3
                      rw [hv3] at s3
                      have l5 := haft _ rfl { on := 5, ground := .data } (by simp) rfl
                      have p5 := hG.pv 5 (by decide) (live_end hsz rfl l5)
                      have s5 : a.tmps[112]?.getD undef = vs 5 := hU.slot 5 (by decide) l5
                      obtain ⟨PA5, kp5, hv5, hi5⟩ := p5
                      rw [hv5] at s5
                      obtain ⟨_, _, e5, _, _, hr5⟩ := row_own hi5
                      obtain ⟨rfl, rfl⟩ : _ = PA5 ∧ _ = kp5 := by simp only [Value.slice.injEq, true_and] at e5; exact ⟨e5.1.symm, e5.2.symm⟩
                      have hA := Loose.stepA (p := 3) hU hG rfl hST hoi hK (by decide) (by decide) rfl ⟨l3, hl⟩ (fun b h => h) (by rw [hv3]; exact hi3)
                      obtain ⟨v', W', hrun, hown', hg, hblk⟩ := run_app_row (P := Try.prog) W vb.heap.size 26 26 52 io2 (.agg #[.int .i64 0, .int .i64 0, .int .i64 0]) 3 24 Try.underlying26 hI2 hz20 hz21 hz22 rfl (by decide) hi3 hr5 (one3O _ _ _) (by simp only [maxLen]; omega) (by omega) hG.base
                      exact wpOp_append (s := 110) (x := 112) (v' := v') (W' := W') rfl rfl rfl s3 s5 hrun (hA _ _ _ _ (by rw [hv3]; exact hg) hown' (by rw [hv3]; exact hblk) (own_ex hown') (fun b h => h))
                    | oi + 7, hoi, hom => exact absurd (of_decide_eq_true hom) (by omega)
                  case hendC =>
                    intro listed vs a W hG0 hG hpre
                    have hb := ((Below.refl vb.heap.size vb).drew).trans hG0.below
                    have hact := hG0.act
                    have hT := hG0.lst hpre 0 #[true, true, true, true, true, true, true, false, false] rfl (by kernel_rfl) (hpre 0 (by decide) (by decide))
                    rw [hG0.ix hT (l := [0, 1, 2, 3, 4, 5, 6]) (by kernel_rfl)] at hact
                    rw [hG0.lo hT (k := 2) (by kernel_rfl)]
                    have p6 := hG.pv 6 (by decide) (live_end hG.size rfl (hpre 6 (by decide) (by decide)))
                    clear hpre hG hST
                    obtain rfl : a = _ := hact
                    subst hT
                    obtain ⟨A, cp, hv6, hi6⟩ := p6
                    have y4 := (hb.cell (p := ⟨y11.heap.size, 4, none⟩) zg).trans pg
                    have f4 := (hb.frozen (p := ⟨y11.heap.size, 4, none⟩) zg).trans fg
                    simp only [setAll, List.setIfInBounds_toArray, List.set_cons_succ, List.set_cons_zero, List.getD_cons_succ, List.getD_cons_zero]
                    refine wpAny_all (rs := [7]) (by kernel_rfl) (by simp) ?_
                    intro i2 hi2
                    obtain rfl : i2 = 7 := by simpa using hi2
                    refine wpOp_value (v := .pointer (some ⟨y11.heap.size, 4, none⟩)) (W' := W) rfl rfl ?_ ?_
                    · go_simp
                    refine wpAny_all (rs := [8]) (by kernel_rfl) (by simp) ?_
                    intro i2 hi2
                    obtain rfl : i2 = 8 := by simpa using hi2
                    refine wpOp_skip (W' := W.setCell ⟨y11.heap.size, 4, none⟩ (.slice A (k + 1) cp)) rfl rfl ?_ ?_
                    · rw [hv6]; go_simp
                    refine wpAny_done (by kernel_rfl) ?_ _
                    exact ⟨rfl, fun q => if q = 7 then .pointer (some ⟨y11.heap.size, 4, none⟩) else vs q, rfl, W, A, cp, rfl, hb, hi6⟩
                case impC =>
                rintro a9 w2 ⟨vs, rfl, W1, A, cp, rfl, hb1, hown⟩
                simp only [setAll, List.setIfInBounds_toArray, List.set_cons_succ, List.set_cons_zero, List.getD_cons_succ, List.getD_cons_zero]
                rw [HSP.out] at hown
                have hk1 : Keep (fun q => q = y11.heap.size) W1 (W1.setCell ⟨y11.heap.size, 4, none⟩ (.slice A (k + 1) cp)) := Keep.setCell _ _ _ _ rfl
                have HO2 := hide (own_base (own_kept hown hk1 (fun b hb hS => by omega)) (show y11.heap.size + 1 ≤ vb.heap.size by omega))
                have HK2 := hide ((((HKP.out.trans (Keep.of_below' HBN.out _))).trans (Keep.of_below' hb1 _)).trans hk1)
                have HB2 := hide ((BG2.out.below hb1 zg).store 4 (.slice A (k + 1) cp))
                clear hk1 hown hb1 pg fg zg HRW
                generalize (W1.setCell ⟨y11.heap.size, 4, none⟩ (.slice A (k + 1) cp)) = w2 at *
                go_wp2_with fail
                go_roundw
                case rel => exact ⟨k + 1, A, cp, by omega, by go_num, HK2.out, hide HB2.out, hide HO2.out⟩
                case measure => simp [intOf] <;> omega
              · obtain rfl : k = f.claims.length := by omega
                have hol := own_kept HOL.out HKP.out (fun b hb hS => by omega)
                have hop := own_kept HOP.out HKP.out (fun b hb hS => by omega)
                have hB3 := HB2.out.trans (HKP.out.below (B := y11.heap.size) (fun q h => by omega) (by omega))
                clear K
                have K := hide (K0.out.next hB3)
                have HB := hide (HBA.out.trans (hB3.mono hwg))
                have hvv := K.out.v
                obtain ⟨m3, m3', r3⟩ := row_fun hol
                obtain ⟨m4, m4', r4⟩ := row_fun hop
                obtain ⟨m5, m5', r5⟩ := row_fun HO.out
                have bz := BG.out
                have Z : Hid (BoxF wa y11.heap.size (backF f) ⟨fa.A1, fa.A2, AO, APp, AX, fa.c1, fa.c2, cO, cPp, cX, backR f fa, backK f fa⟩) := hide ⟨⟨hvv.parties, hvv.untils, by rw [backF_lots]; exact r3, by rw [backF_papers]; exact r4, by rw [backF_claims]; exact r5, fun j hj => by
                  rw [backF_lots] at hj
                  rw [show nth (backF f).lots j = nth f.lots (f.lots.length - 1 - j) from nth_rev' hj]
                  exact hvv.routes _ (by omega), hvv.small, fun j hj => by
                  rw [backF_lots] at hj
                  rw [show nth (backF f).lots j = nth f.lots (f.lots.length - 1 - j) from nth_rev' hj]
                  exact hvv.fit _ (by omega), hvv.m1, hvv.m2, by rw [backF_lots]; exact ⟨m3, m3'⟩, by rw [backF_papers]; exact ⟨m4, m4'⟩, by rw [backF_claims]; exact ⟨m5, m5'⟩⟩, by rw [show fileCells (backF f) ⟨fa.A1, fa.A2, AO, APp, AX, fa.c1, fa.c2, cO, cPp, cX, backR f fa, backK f fa⟩ = #[Value.slice fa.A1 f.parties.length fa.c1, Value.slice fa.A2 f.untils.length fa.c2, .slice AO f.lots.length cO, .slice APp f.papers.length cPp, .slice AX f.claims.length cX] by simp [fileCells, backF]]; exact bz⟩
                clear hvv bz hol hop hB3 r3 r4 r5 m3 m3' m4 m4' m5 m5' BG HO HOL HOP HB1 HB2 HBA HBB K0 HKP hI0 hz00 hz01 hz02 hI1 hz10 hz11 hz12 hI2 hz20 hz21 hz22
                generalize backF f = zf at *
                generalize (⟨fa.A1, fa.A2, AO, APp, AX, fa.c1, fa.c2, cO, cPp, cX, backR f fa, backK f fa⟩ : FA) = fb at *
                go_wp2_with fail
                clear hlt zK cK1 cK2 cK3 cK4 cK5
                have hc := held_any K.out.v
                generalize hh : heldV f = hx at *
                obtain ⟨hA, hE⟩ := hx
                try dsimp only at hc
                obtain ⟨zK, cK1, cK2, cK3, cK4, cK5⟩ := K.out.cells
                obtain ⟨zZ, cZ1, cZ2, cZ3, cZ4, cZ5⟩ := Z.out.cells
                refine (hc).mono ?_
                rintro e y31 ⟨A31, q31, rfl, hi, hb⟩
                clear zK cK1 cK2 cK3 cK4 cK5 zZ cZ1 cZ2 cZ3 cZ4 cZ5
                have K := hide (K.out.next hb)
                have Z := hide (Z.out.next hb)
                have HB := hide (HB.out.trans (hb.mono HB.out.size))
                clear hb
                have J1 := hide hi
                clear hi
                obtain ⟨zK, cK1, cK2, cK3, cK4, cK5⟩ := K.out.cells
                obtain ⟨zZ, cZ1, cZ2, cZ3, cZ4, cZ5⟩ := Z.out.cells
                have hc := held_any Z.out.v
                rw [H1.out] at hc
                try dsimp only at hc
                go_wp2_with fail
                refine (hc).mono ?_
                rintro e y32 ⟨A32, q32, rfl, hi, hb⟩
                clear zK cK1 cK2 cK3 cK4 cK5 zZ cZ1 cZ2 cZ3 cZ4 cZ5
                have K := hide (K.out.next hb)
                have Z := hide (Z.out.next hb)
                have J1 := hide (J1.out.next hb)
                have HB := hide (HB.out.trans (hb.mono HB.out.size))
                clear hb
                have J2 := hide hi
                clear hi
                obtain ⟨zK, cK1, cK2, cK3, cK4, cK5⟩ := K.out.cells
                obtain ⟨zZ, cZ1, cZ2, cZ3, cZ4, cZ5⟩ := Z.out.cells
                have hc := wrong_any K.out.v
                generalize hh2 : wrongV f = hx at *
                obtain ⟨wA, wE⟩ := hx
                try dsimp only at hc
                go_wp2_with fail
                refine (hc).mono ?_
                rintro e y33 ⟨A33, q33, rfl, hi, hb⟩
                clear zK cK1 cK2 cK3 cK4 cK5 zZ cZ1 cZ2 cZ3 cZ4 cZ5
                have K := hide (K.out.next hb)
                have Z := hide (Z.out.next hb)
                have J1 := hide (J1.out.next hb)
                have J2 := hide (J2.out.next hb)
                have HB := hide (HB.out.trans (hb.mono HB.out.size))
                clear hb
                have J3 := hide hi
                clear hi
                obtain ⟨zK, cK1, cK2, cK3, cK4, cK5⟩ := K.out.cells
                obtain ⟨zZ, cZ1, cZ2, cZ3, cZ4, cZ5⟩ := Z.out.cells
                have hc := wrong_any Z.out.v
                rw [H2.out] at hc
                try dsimp only at hc
                go_wp2_with fail
                refine (hc).mono ?_
                rintro e y34 ⟨A34, q34, rfl, hi, hb⟩
                clear zK cK1 cK2 cK3 cK4 cK5 zZ cZ1 cZ2 cZ3 cZ4 cZ5
                have K := hide (K.out.next hb)
                have Z := hide (Z.out.next hb)
                have J1 := hide (J1.out.next hb)
                have J2 := hide (J2.out.next hb)
                have J3 := hide (J3.out.next hb)
                have HB := hide (HB.out.trans (hb.mono HB.out.size))
                clear hb
                have J4 := hide hi
                clear hi
                obtain ⟨zK, cK1, cK2, cK3, cK4, cK5⟩ := K.out.cells
                obtain ⟨zZ, cZ1, cZ2, cZ3, cZ4, cZ5⟩ := Z.out.cells
                clear hh hh2
                have hne1 : (hE != hE) = false := by simp
                have hne2 : (wE != wE) = false := by simp
                go_wp2_with fail
                refine (ints_any J1.out J2.out).mono ?_
                rintro e y35 ⟨rfl, hd⟩
                have hb := hd.below y34.heap.size
                clear hd
                clear zK cK1 cK2 cK3 cK4 cK5 zZ cZ1 cZ2 cZ3 cZ4 cZ5
                have K := hide (K.out.next hb)
                have Z := hide (Z.out.next hb)
                have J1 := hide (J1.out.next hb)
                have J2 := hide (J2.out.next hb)
                have J3 := hide (J3.out.next hb)
                have J4 := hide (J4.out.next hb)
                have HB := hide (HB.out.trans (hb.mono HB.out.size))
                clear hb
                obtain ⟨zK, cK1, cK2, cK3, cK4, cK5⟩ := K.out.cells
                obtain ⟨zZ, cZ1, cZ2, cZ3, cZ4, cZ5⟩ := Z.out.cells
                rw [intsB_refl]
                go_wp2_with fail
                refine (ints_any J3.out J4.out).mono ?_
                rintro e y36 ⟨rfl, hd⟩
                have hb := hd.below y35.heap.size
                clear hd
                clear zK cK1 cK2 cK3 cK4 cK5 zZ cZ1 cZ2 cZ3 cZ4 cZ5
                have K := hide (K.out.next hb)
                have Z := hide (Z.out.next hb)
                have J1 := hide (J1.out.next hb)
                have J2 := hide (J2.out.next hb)
                have J3 := hide (J3.out.next hb)
                have J4 := hide (J4.out.next hb)
                have HB := hide (HB.out.trans (hb.mono HB.out.size))
                clear hb
                obtain ⟨zK, cK1, cK2, cK3, cK4, cK5⟩ := K.out.cells
                obtain ⟨zZ, cZ1, cZ2, cZ3, cZ4, cZ5⟩ := Z.out.cells
                rw [intsB_refl]
                go_wp2_with fail
                go_loopw [18, 19, 20, 21, 22] (fun v18 _ _ _ _ wr => ∃ j1 : Nat, j1 ≤ f.lots.length ∧ v18 = .int .i64 j1 ∧ Below y36.heap.size y36 wr) (fun v18 _ _ _ _ _ => f.lots.length - (intOf v18).toNat)
                case atStart => exact ⟨0, Nat.zero_le _, rfl, Below.refl _ _⟩
                case round =>
                  obtain ⟨j1, hj1, rfl, hB⟩ := hrel
                  obtain ⟨w1, rfl⟩ : ∃ w1 : World, w1 = wr := ⟨_, rfl⟩
                  have hj10 : (0 : Int) ≤ (j1 : Int) := Int.natCast_nonneg _
                  have HL1 := hide hB
                  clear zK cK1 cK2 cK3 cK4 cK5 zZ cZ1 cZ2 cZ3 cZ4 cZ5
                  have K := hide (K.out.next hB)
                  have Z := hide (Z.out.next hB)
                  have J1 := hide (J1.out.next hB)
                  have J2 := hide (J2.out.next hB)
                  have J3 := hide (J3.out.next hB)
                  have J4 := hide (J4.out.next hB)
                  have HB := hide (HB.out.trans (hB.mono HB.out.size))
                  clear hB
                  by_cases hlt1 : j1 < f.lots.length
                  · have hj11 : (j1 : Int) < ((f.lots.length : Nat) : Int) := by omega
                    obtain ⟨zK, cK1, cK2, cK3, cK4, cK5⟩ := K.out.cells
                    obtain ⟨zZ, cZ1, cZ2, cZ3, cZ4, cZ5⟩ := Z.out.cells
                    have HW3 := hide (H3.out j1 hlt1)
                    have hjl : ((j1 : Nat) : Int) ≤ lastL f := by have := HLA.out; omega
                    have hc := who_any K.out.v ((j1 : Nat) : Int)
                    generalize whoV f ((j1 : Nat) : Int) = hx at *
                    obtain ⟨hA1, hE1⟩ := hx
                    try dsimp only at hc
                    go_wp2_with fail
                    refine (hc).mono ?_
                    rintro e y37 ⟨A37, q37, rfl, hi, hb⟩
                    clear zK cK1 cK2 cK3 cK4 cK5 zZ cZ1 cZ2 cZ3 cZ4 cZ5
                    have K := hide (K.out.next hb)
                    have Z := hide (Z.out.next hb)
                    have J1 := hide (J1.out.next hb)
                    have J2 := hide (J2.out.next hb)
                    have J3 := hide (J3.out.next hb)
                    have J4 := hide (J4.out.next hb)
                    have HB := hide (HB.out.trans (hb.mono HB.out.size))
                    have HL1 := hide (HL1.out.trans (hb.mono HL1.out.size))
                    clear hb
                    have I1 := hide hi
                    clear hi
                    obtain ⟨zK, cK1, cK2, cK3, cK4, cK5⟩ := K.out.cells
                    obtain ⟨zZ, cZ1, cZ2, cZ3, cZ4, cZ5⟩ := Z.out.cells
                    have hc := who_any Z.out.v (lastL f - ((j1 : Nat) : Int))
                    rw [HW3.out] at hc
                    try dsimp only at hc
                    go_wp2_with fail
                    refine (hc).mono ?_
                    rintro e y38 ⟨A38, q38, rfl, hi, hb⟩
                    clear zK cK1 cK2 cK3 cK4 cK5 zZ cZ1 cZ2 cZ3 cZ4 cZ5
                    have K := hide (K.out.next hb)
                    have Z := hide (Z.out.next hb)
                    have J1 := hide (J1.out.next hb)
                    have J2 := hide (J2.out.next hb)
                    have J3 := hide (J3.out.next hb)
                    have J4 := hide (J4.out.next hb)
                    have I1 := hide (I1.out.next hb)
                    have HB := hide (HB.out.trans (hb.mono HB.out.size))
                    have HL1 := hide (HL1.out.trans (hb.mono HL1.out.size))
                    clear hb
                    have I2 := hide hi
                    clear hi
                    obtain ⟨zK, cK1, cK2, cK3, cK4, cK5⟩ := K.out.cells
                    obtain ⟨zZ, cZ1, cZ2, cZ3, cZ4, cZ5⟩ := Z.out.cells
                    have hne3 : (hE1 != hE1) = false := by simp
                    go_wp2_with fail
                    refine (ints_any I1.out I2.out).mono ?_
                    rintro e y39 ⟨rfl, hd⟩
                    have hb := hd.below y38.heap.size
                    clear hd
                    clear zK cK1 cK2 cK3 cK4 cK5 zZ cZ1 cZ2 cZ3 cZ4 cZ5
                    have K := hide (K.out.next hb)
                    have Z := hide (Z.out.next hb)
                    have J1 := hide (J1.out.next hb)
                    have J2 := hide (J2.out.next hb)
                    have J3 := hide (J3.out.next hb)
                    have J4 := hide (J4.out.next hb)
                    have I1 := hide (I1.out.next hb)
                    have I2 := hide (I2.out.next hb)
                    have HB := hide (HB.out.trans (hb.mono HB.out.size))
                    have HL1 := hide (HL1.out.trans (hb.mono HL1.out.size))
                    clear hb
                    obtain ⟨zK, cK1, cK2, cK3, cK4, cK5⟩ := K.out.cells
                    obtain ⟨zZ, cZ1, cZ2, cZ3, cZ4, cZ5⟩ := Z.out.cells
                    rw [intsB_refl]
                    go_wp2_with fail
                    go_roundw
                    case rel => exact ⟨j1 + 1, by omega, by go_num, HL1.out⟩
                    case measure => simp [intOf]; omega
                  · have hx1 := hide (show j1 = f.lots.length by omega)
                    obtain ⟨zK, cK1, cK2, cK3, cK4, cK5⟩ := K.out.cells
                    obtain ⟨zZ, cZ1, cZ2, cZ3, cZ4, cZ5⟩ := Z.out.cells
                    have hjl : ¬ ((j1 : Nat) : Int) ≤ lastL f := by have := HLA.out; have := hx1.out; omega
                    go_wp2_with fail
                    go_loopw [23, 24, 25, 26, 27] (fun v23 _ _ _ _ wr => ∃ j2 : Nat, j2 ≤ f.parties.length ∧ v23 = .int .i64 j2 ∧ Below w1.heap.size w1 wr) (fun v23 _ _ _ _ _ => f.parties.length - (intOf v23).toNat)
                    case atStart => exact ⟨0, Nat.zero_le _, rfl, Below.refl _ _⟩
                    case round =>
                      obtain ⟨j2, hj2, rfl, hB⟩ := hrel
                      obtain ⟨w2, rfl⟩ : ∃ w2 : World, w2 = wr := ⟨_, rfl⟩
                      have hj20 : (0 : Int) ≤ (j2 : Int) := Int.natCast_nonneg _
                      have HL2 := hide hB
                      clear zK cK1 cK2 cK3 cK4 cK5 zZ cZ1 cZ2 cZ3 cZ4 cZ5
                      have K := hide (K.out.next hB)
                      have Z := hide (Z.out.next hB)
                      have J1 := hide (J1.out.next hB)
                      have J2 := hide (J2.out.next hB)
                      have J3 := hide (J3.out.next hB)
                      have J4 := hide (J4.out.next hB)
                      have HB := hide (HB.out.trans (hB.mono HB.out.size))
                      clear hB
                      by_cases hlt2 : j2 < f.parties.length
                      · have hj21 : (j2 : Int) < ((f.parties.length : Nat) : Int) := by omega
                        obtain ⟨zK, cK1, cK2, cK3, cK4, cK5⟩ := K.out.cells
                        obtain ⟨zZ, cZ1, cZ2, cZ3, cZ4, cZ5⟩ := Z.out.cells
                        have HW4 := hide (H4.out j2 hlt2)
                        generalize hox : owesV f ((j2 : Nat) : Int) = ox at *
                        obtain ⟨⟨a, b⟩, oE⟩ := ox
                        have hc := owesX K.out.v ((j2 : Nat) : Int) hox
                        have HOX := hide hox
                        clear hox
                        go_upto_region 41 with (go_at_call 18; refine (hc).mono ?_; rintro e y37 ⟨rfl, hb⟩)
                        clear zK cK1 cK2 cK3 cK4 cK5 zZ cZ1 cZ2 cZ3 cZ4 cZ5
                        have K := hide (K.out.next hb)
                        have Z := hide (Z.out.next hb)
                        have J1 := hide (J1.out.next hb)
                        have J2 := hide (J2.out.next hb)
                        have J3 := hide (J3.out.next hb)
                        have J4 := hide (J4.out.next hb)
                        have HB := hide (HB.out.trans (hb.mono HB.out.size))
                        have HL2 := hide (HL2.out.trans (hb.mono HL2.out.size))
                        clear hb
                        obtain ⟨zK, cK1, cK2, cK3, cK4, cK5⟩ := K.out.cells
                        obtain ⟨zZ, cZ1, cZ2, cZ3, cZ4, cZ5⟩ := Z.out.cells
                        clear zK cK1 cK2 cK3 cK4 cK5 zZ cZ1 cZ2 cZ3 cZ4 cZ5
                        have hb : Below y37.heap.size y37 (y37.alloc (.cells #[.int .i64 a, .int .i64 b] 43)) := (Below.refl _ _).alloc (Nat.le_refl _) _
                        have S1 : Hid (Blk (y37.alloc (.cells #[.int .i64 a, .int .i64 b] 43)) y37.heap.size 43 #[.int .i64 a, .int .i64 b]) := hide Blk.made
                        have K := hide (K.out.next hb)
                        have Z := hide (Z.out.next hb)
                        have J1 := hide (J1.out.next hb)
                        have J2 := hide (J2.out.next hb)
                        have J3 := hide (J3.out.next hb)
                        have J4 := hide (J4.out.next hb)
                        have HB := hide (HB.out.trans (hb.mono HB.out.size))
                        have HL2 := hide (HL2.out.trans (hb.mono HL2.out.size))
                        clear hb
                        generalize (y37.alloc (.cells #[.int .i64 a, .int .i64 b] 43)) = y38 at *
                        obtain ⟨zK, cK1, cK2, cK3, cK4, cK5⟩ := K.out.cells
                        obtain ⟨zZ, cZ1, cZ2, cZ3, cZ4, cZ5⟩ := Z.out.cells
                        have zS1 := S1.out.lt
                        have cS10 := S1.out.at_ 0
                        have cS11 := S1.out.at_ 1
                        simp only [List.getElem?_toArray, List.getElem?_cons_zero, List.getElem?_cons_succ] at cS10 cS11
                        have hc := owesX Z.out.v ((j2 : Nat) : Int) HW4.out
                        go_upto_region 42 with (go_at_call 18; refine (hc).mono ?_; rintro e y39 ⟨rfl, hb⟩)
                        clear zK cK1 cK2 cK3 cK4 cK5 zZ cZ1 cZ2 cZ3 cZ4 cZ5 zS1 cS10 cS11
                        have K := hide (K.out.next hb)
                        have Z := hide (Z.out.next hb)
                        have J1 := hide (J1.out.next hb)
                        have J2 := hide (J2.out.next hb)
                        have J3 := hide (J3.out.next hb)
                        have J4 := hide (J4.out.next hb)
                        have S1 := hide (S1.out.next hb)
                        have HB := hide (HB.out.trans (hb.mono HB.out.size))
                        have HL2 := hide (HL2.out.trans (hb.mono HL2.out.size))
                        clear hb
                        obtain ⟨zK, cK1, cK2, cK3, cK4, cK5⟩ := K.out.cells
                        obtain ⟨zZ, cZ1, cZ2, cZ3, cZ4, cZ5⟩ := Z.out.cells
                        have zS1 := S1.out.lt
                        have cS10 := S1.out.at_ 0
                        have cS11 := S1.out.at_ 1
                        simp only [List.getElem?_toArray, List.getElem?_cons_zero, List.getElem?_cons_succ] at cS10 cS11
                        clear zK cK1 cK2 cK3 cK4 cK5 zZ cZ1 cZ2 cZ3 cZ4 cZ5 zS1 cS10 cS11
                        have hb : Below y39.heap.size y39 (y39.alloc (.cells #[.int .i64 a, .int .i64 b] 43)) := (Below.refl _ _).alloc (Nat.le_refl _) _
                        have S2 : Hid (Blk (y39.alloc (.cells #[.int .i64 a, .int .i64 b] 43)) y39.heap.size 43 #[.int .i64 a, .int .i64 b]) := hide Blk.made
                        have K := hide (K.out.next hb)
                        have Z := hide (Z.out.next hb)
                        have J1 := hide (J1.out.next hb)
                        have J2 := hide (J2.out.next hb)
                        have J3 := hide (J3.out.next hb)
                        have J4 := hide (J4.out.next hb)
                        have S1 := hide (S1.out.next hb)
                        have HB := hide (HB.out.trans (hb.mono HB.out.size))
                        have HL2 := hide (HL2.out.trans (hb.mono HL2.out.size))
                        clear hb
                        generalize (y39.alloc (.cells #[.int .i64 a, .int .i64 b] 43)) = y40 at *
                        obtain ⟨zK, cK1, cK2, cK3, cK4, cK5⟩ := K.out.cells
                        obtain ⟨zZ, cZ1, cZ2, cZ3, cZ4, cZ5⟩ := Z.out.cells
                        have zS1 := S1.out.lt
                        have cS10 := S1.out.at_ 0
                        have cS11 := S1.out.at_ 1
                        simp only [List.getElem?_toArray, List.getElem?_cons_zero, List.getElem?_cons_succ] at cS10 cS11
                        have zS2 := S2.out.lt
                        have cS20 := S2.out.at_ 0
                        have cS21 := S2.out.at_ 1
                        simp only [List.getElem?_toArray, List.getElem?_cons_zero, List.getElem?_cons_succ] at cS20 cS21
                        have hne4 : (oE != oE) = false := by simp
                        have hgt : Try.prog.eqGuardType Try.prog.depth 43 = false := by kernel_rfl
                        go_wp2_with fail
                        go_roundw
                        case rel => exact ⟨j2 + 1, by omega, by go_num, HL2.out⟩
                        case measure => simp [intOf]; omega
                      · have hx2 := hide (show j2 = f.parties.length by omega)
                        obtain ⟨zK, cK1, cK2, cK3, cK4, cK5⟩ := K.out.cells
                        obtain ⟨zZ, cZ1, cZ2, cZ3, cZ4, cZ5⟩ := Z.out.cells
                        go_wp2_with fail
                        refine (awake_any _).mono ?_
                        rintro e yz ⟨rfl, hb⟩
                        go_wp2_with fail
                        go_ret
                        exact ⟨rfl, HB.out.trans (hb.mono HB.out.size)⟩
end Go.Proofs.Ytllmahcanipcpaa
