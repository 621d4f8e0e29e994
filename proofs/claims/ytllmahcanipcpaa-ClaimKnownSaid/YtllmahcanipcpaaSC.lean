/- The contract of the reference's Places. -/
import Derived.Test.YtllmahcanipcpaaVL
import Derived.OwnWalkIn
import Derived.TacticsInMore
import Derived.Deep.DeepCutAuto
set_option linter.unusedVariables false
set_option linter.unusedSimpArgs false
namespace Go.Proofs.Ytllmahcanipcpaa
open Go.RowKit
attribute [local go_sem ↓] Go.wp_at_zero Go.wp_at_succ
attribute [local go_sem] Oper.semAt_some

theorem flat_take {α β : Type} [Inhabited α] (G : List α) (f : α → List β) {k : Nat} (hk : k < G.length) : (G.take (k + 1)).flatMap f = (G.take k).flatMap f ++ f (nth G k) := by
  rw [take_nth hk, List.flatMap_append]; simp
theorem flat_len {α β : Type} (l : List α) (f : α → List β) (n : Nat) (h : ∀ g ∈ l, (f g).length ≤ n) : (l.flatMap f).length ≤ l.length * n := by
  induction l with
  | nil => simp
  | cons x l ih =>
    have h1 := h x (by simp)
    have h2 := ih (fun g hg => h g (by simp [hg]))
    simp only [List.flatMap_cons, List.length_append, List.length_cons, Nat.add_mul, Nat.one_mul]
    omega
def nextP (f : File) (i : Nat) (g : List Int) : List (List Int) := (spanVals (nth f.lots i).turned).map fun x => g ++ [x]
theorem allTo_succ (f : File) (i : Nat) : allTo f (i + 1) = (allTo f i).flatMap (nextP f i) := rfl
theorem nextP_len {f : File} (hv : Valid f) {i : Nat} (hi : i < f.lots.length) (g : List Int) : (nextP f i g).length ≤ 4 := by
  have h1 := hv.lot i hi
  have h2 := hv.route i hi
  simp [nextP, spanVals]; omega
theorem allTo_facts {f : File} (hv : Valid f) : ∀ i, i ≤ f.lots.length → (allTo f i).length ≤ 4 ^ i ∧ ∀ g ∈ allTo f i, g.length = i
  | 0, _ => by simp [allTo]
  | i + 1, h => by
    obtain ⟨h1, h2⟩ := allTo_facts hv i (by omega)
    refine ⟨?_, fun g hg => ?_⟩
    · rw [allTo_succ, Nat.pow_succ]
      exact Nat.le_trans (flat_len _ _ 4 (fun g _ => nextP_len hv (by omega) g)) (Nat.mul_le_mul_right _ h1)
    · rw [allTo_succ, List.mem_flatMap] at hg
      obtain ⟨g', hg', hx⟩ := hg
      simp only [nextP, List.mem_map] at hx
      obtain ⟨x, _, rfl⟩ := hx
      simp [h2 g' hg']
theorem allTo_256 {f : File} (hv : Valid f) {i : Nat} (hi : i ≤ f.lots.length) : (allTo f i).length ≤ 256 := by
  have := (allTo_facts hv i hi).1
  have h4 := hv.lots
  exact Nat.le_trans this (Nat.le_trans (Nat.pow_le_pow_right (by omega) (by omega : i ≤ 4)) (by decide))
set_option maxHeartbeats 4000000 in
set_option maxRecDepth 100000 in
theorem places_any {f : File} {fa : FA} {w : World} (h : FileV w w.heap.size f fa) (hv : Valid f) :
    Calls Try.prog 82 #[fileVal f fa] w fun e w' =>
      ∃ A c', e = .returned (.slice A (allP f).length c') ∧ ListsS w' w'.heap.size A (allP f).length c' (allP f) ∧ Below w.heap.size w w' := by
  obtain ⟨i1, gi, gz0, gz1, gz2⟩ := info_parts Try.infoInts
  have HBX := hide (BoxF.made h)
  have HB0 : Hid (Below w.heap.size w (w.alloc (.cells (fileCells f fa) 28))) := hide ((Below.refl _ _).alloc (Nat.le_refl _) _)
  have hm3 := h.m3
  unfold maxLen at hm3
  have HV := hide hv
  have hll := hv.lots
  clear h hv
  go_enter Try.func82, Try.ntmps82
  go_upto_region 1 with (fail)
  generalize (w.alloc (.cells (fileCells f fa) 28)) = w0 at *
  have hO0 : OwnLists (w0.alloc (.cells #[.slice none 0 0] 23)) w0.heap.size (.slice (some ⟨w0.heap.size, 0, none⟩) 1 1) [[]] :=
    ⟨[.slice none 0 0], by simpa using World.ownsRow_lit (base := w0.heap.size) (e := 23) (size := 1) w0 #[.slice none 0 0] 1 (by simp) (by simp [maxLen]) rfl,
      fun j hj => by obtain rfl : j = 0 := by simpa using hj
                     exact ⟨_, rfl, World.ownsRow_nil _ _ _ _⟩⟩
  obtain ⟨A0, cc0, e0, hL0⟩ := hO0.lists
  simp only [Value.slice.injEq, List.length_singleton, true_and] at e0
  obtain ⟨rfl, rfl⟩ := e0
  have hba : Below w0.heap.size w0 (w0.alloc (.cells #[.slice none 0 0] 23)) := (Below.refl _ _).alloc (Nat.le_refl _) _
  have HB1 := hide (HB0.out.trans (hba.mono HB0.out.size))
  have HBX1 := hide (HBX.out.next hba)
  have HL0 := hide hL0
  clear hO0 hL0 hba
  go_wp2_with fail
  generalize (w0.alloc (.cells #[.slice none 0 0] 23)) = w1 at *
  go_loopw [3, 4, 5, 6, 7] (fun v3 v4 _ _ _ wr => ∃ (i : Nat) (A : Option Addr) (cc : Nat), i ≤ f.lots.length ∧ v4 = .int .i64 i ∧ v3 = .slice A (allTo f i).length cc ∧ Below w1.heap.size w1 wr ∧
     ListsS wr wr.heap.size A (allTo f i).length cc (allTo f i)) (fun _ v4 _ _ _ _ => f.lots.length - (intOf v4).toNat)
  case atStart => exact ⟨0, _, _, Nat.zero_le _, rfl, rfl, Below.refl _ _, HL0.out⟩
  case round =>
    obtain ⟨i, A, cc, hi', rfl, rfl, hB, hL⟩ := hrel
    obtain ⟨wa, rfl⟩ : ∃ wa : World, wa = wr := ⟨_, rfl⟩
    have hi0 : (0 : Int) ≤ (i : Int) := Int.natCast_nonneg _
    have qb := HBX1.out.next hB
    obtain ⟨hz, p0, p1, p2, p3, p4⟩ := qb.cells
    by_cases hlt : i < f.lots.length
    · have hj1 : (i : Int) < (f.lots.length : Int) := by omega
      obtain ⟨bl, ol, hA3, hbl, y0, y1, y2, y3⟩ := qb.v.lots.lots hlt
      rw [hA3] at p2
      have HSU := hide (allTo_succ f i)
      have HGL := hide (allTo_256 HV.out (show i ≤ f.lots.length by omega))
      have HGF := hide (allTo_facts HV.out i (show i ≤ f.lots.length by omega)).2
      have HNX := hide (fun g => nextP_len HV.out hlt g)
      have HTL := hide (HV.out.lot i hlt)
      have HNP := hide (fun g => show nextP f i g = (spanVals (nth f.lots i).turned).map fun x => g ++ [x] from rfl)
      generalize (nth f.lots i).turned = ts at *
      obtain ⟨lo, hi⟩ := ts
      dsimp only at y1 y2
      have hlo0 := HTL.out.1
      have hlohi := HTL.out.2.1
      have hhi4 : hi < 4 := by have := HTL.out.2.2.1; have := (HV.out.route i hlt).1; dsimp only at *; omega
      dsimp only at hlo0 hlohi
      have HBA := hide qb
      clear p0 p1 p3 p4 y0 y3 hA3 qb
      generalize hGG : allTo f i = G at *
      have HGG := hide hGG
      have hGl := HGL.out
      clear hGG
      go_wp2_with fail
      go_loopw [5, 6, 7] (fun v5 v6 _ w2 => ∃ k : Nat, k ≤ G.length ∧ v6 = .int .i64 k ∧ Below wa.heap.size wa w2 ∧ OwnLists w2 wa.heap.size v5 ((G.take k).flatMap (nextP f i))) (fun _ v6 _ _ => G.length - (intOf v6).toNat)
      case atStart => exact ⟨0, Nat.zero_le _, rfl, Below.refl _ _, OwnLists.nil_⟩
      case round =>
        obtain ⟨k, hk, rfl, hB2, hO⟩ := hrel
        have hk0 : (0 : Int) ≤ (k : Int) := Int.natCast_nonneg _
        have hz2 := hB2.size
        have p2 := (hB2.cell (p := ⟨w.heap.size, 2, none⟩) hz).trans p2
        have y1 := (hB2.cell (p := ⟨bl, ol + i * 4 + 1, none⟩) hbl).trans y1
        have y2 := (hB2.cell (p := ⟨bl, ol + i * 4 + 2, none⟩) hbl).trans y2
        by_cases hlt2 : k < G.length
        · obtain ⟨wb, rfl⟩ : ∃ wb : World, wb = wr := ⟨_, rfl⟩
          obtain ⟨bg, og, Ag, cg, rfl, hbg, hgc, hgi⟩ := hL.at_ hlt2
          have hk1 : (k : Int) < (G.length : Int) := by omega
          have hgl2 := HGF.out (nth G k) (by rw [nth_eq hlt2]; exact List.getElem_mem hlt2)
          have HGL2 := hide hgl2
          have HFT := hide (flat_take G (nextP f i) hlt2)
          have HNC := hide (HNP.out (nth G k))
          have hbz : bg < wb.heap.size := by omega
          have hblz : bl < wb.heap.size := by omega
          have hwz : w.heap.size < wb.heap.size := by omega
          have hBwb := hB2
          clear hgl2
          go_wp2_with fail
          go_loopw [5, 7] (fun v5 v7 w3 => ∃ m : Nat, (m : Int) ≤ hi - lo + 1 ∧ v7 = .int .i64 (lo + m) ∧ Below wa.heap.size wa w3 ∧
             OwnLists w3 wa.heap.size v5 ((G.take k).flatMap (nextP f i) ++ ((spanVals ⟨lo, hi⟩).take m).map fun x => nth G k ++ [x])) (fun _ v7 _ => (hi + 1 - intOf v7).toNat)
          case atStart => exact ⟨0, by omega, by simp, hB2, by simpa using hO⟩
          case round =>
            clear hB2 hO
            obtain ⟨m, hm, rfl, hB3, hO⟩ := hrel
            have hz3 := hB3.size
            have p2 := (hB3.cell (p := ⟨w.heap.size, 2, none⟩) hz).trans ((hBwb.cell (p := ⟨w.heap.size, 2, none⟩) hz).symm.trans p2)
            have y1 := (hB3.cell (p := ⟨bl, ol + i * 4 + 1, none⟩) hbl).trans ((hBwb.cell (p := ⟨bl, ol + i * 4 + 1, none⟩) hbl).symm.trans y1)
            have y2 := (hB3.cell (p := ⟨bl, ol + i * 4 + 2, none⟩) hbl).trans ((hBwb.cell (p := ⟨bl, ol + i * 4 + 2, none⟩) hbl).symm.trans y2)
            have hgc := (hB3.cell (p := ⟨bg, og + k, none⟩) hbg).trans hgc
            have hblz : bl < wr.heap.size := by omega
            have hwz : w.heap.size < wr.heap.size := by omega
            by_cases hle : (m : Int) ≤ hi - lo
            · have hgiw := hgi.below hB3
              have hq3 : lo + (m : Int) ≤ hi := by omega
              have hbgz : bg < wr.heap.size := by omega
              have HLEN : Hid (((G.take k).flatMap (nextP f i) ++ ((spanVals ⟨lo, hi⟩).take m).map fun x => nth G k ++ [x]).length ≤ 100000) := by
                have h1 := flat_len (G.take k) (nextP f i) 4 (fun g _ => HNX.out g)
                have h2 : (((spanVals ⟨lo, hi⟩).take m).map fun x => nth G k ++ [x]).length ≤ 4 := by rw [List.length_map]; have := List.length_take_le m (spanVals ⟨lo, hi⟩); omega
                have h3 : (G.take k).length ≤ G.length := by simp; omega
                show _ ≤ _
                rw [List.length_append]
                omega
              go_wp2_with (first
                | (at_builtin
                   refine wpList_app_ints _ rfl (.tmp 41) (.tmp 45) rfl wr.heap.size (.slice (some ⟨wr.heap.size, 0, none⟩) 0 0) 0 [] rfl (World.ownsRow_lit _ #[] 0 (Nat.le_refl _) (by simp [maxLen]) rfl) Ag _ cg _ _ rfl (hgiw.below ((Below.refl _ _).alloc (by omega) _)) (by have := HGL2.out; omega) (by simp) ?_
                   intro v1 w4 hown1 hg1 hat1
                   have hbA : Below wr.heap.size wr w4 := ((Below.refl _ wr).alloc (Nat.le_refl _) (.cells #[] 3)).grown hg1 (by simp) (fun k hk => by simp [Value.ownBlock] at hk; omega)
                   have hzA := hbA.size
                   clear hg1 hat1)
                | (at_builtin
                   refine wpList_app_ints _ rfl (.tmp 46) (.tmp 48) rfl wr.heap.size v1 _ _ rfl (hown1.alloc _) (some ⟨w4.heap.size, 0, none⟩) 1 1 _ [lo + m] rfl (IntsS.lit1 rfl _) (by have := HGL2.out; omega) (by simp; omega) ?_
                   intro v2 w5 hown2 hg2 hat2
                   have hbB := hbA.trans (app_below hzA hown1 hg2)
                   have hown2' : w5.ownsRow wr.heap.size 3 1 v2 ((nth G k).length + 1) ((nth G k ++ [lo + (m : Int)]).map (Value.int .i64)) := by simpa using hown2
                   obtain ⟨A2', c2', rfl, hs2⟩ := IntsS.of_own hown2'
                   have HOWN2 := hide (show w5.ownsRow wa.heap.size 3 1 (.slice A2' ((nth G k).length + 1) c2') (nth G k ++ [lo + (m : Int)]).length ((nth G k ++ [lo + (m : Int)]).map (Value.int .i64)) by rw [List.length_append]; exact own_base hown2' hz3)
                   obtain ⟨vs, hv1, hv2⟩ := hO.below hbB
                   have hzB := hbB.size
                   clear hg2 hat2 hown2 hown2' hs2 hown1)
                | (at_builtin
                   refine wpList_append_own _ rfl (.tmp 40) (.tmp 50) _ rfl wa.heap.size 23 i1 (.slice none 0 0) 1 24 Try.underlying89 gi gz0 gz1 gz2 rfl (by decide) _ _ vs rfl (hv1.alloc _) ⟨w5.heap.size, 0, none⟩ 1 1 [.slice A2' ((nth G k).length + 1) c2'] rfl rfl ?c1 ?c2 ?c3 ?c4 ?c5 ?_
                   case c1 => exact cell_one_new _ _ _
                   case c2 => simp [Value.oneCell']
                   case c3 => simp only [maxLen]; have := HLEN.out; omega
                   case c4 => have := HLEN.out; omega
                   case c5 => simp; omega
                   intro v' w6 hown6 hg6 _
                   have hbC := app_below (show wa.heap.size ≤ w5.heap.size by omega) hv1 hg6
                   have hOO := OwnLists.snoc hv1 hv2 HOWN2.out hown6 hg6
                   clear hg6 hown6))
              go_roundw
              case rel =>
                exact ⟨m + 1, by omega, by go_num, hB3.trans ((hbB.mono hz3).trans hbC), by rw [take_map_range ⟨lo, hi⟩ hle]; simpa using hOO⟩
              case measure => simp [intOf]; omega
            · have hq3 : ¬ lo + (m : Int) ≤ hi := by omega
              go_wp2
              go_roundw
              case rel => exact ⟨k + 1, by omega, by go_num, hB3, by rw [HFT.out, HNC.out]; rw [spanVals_take ⟨lo, hi⟩ (show hi - lo < m by omega)] at hO; exact hO⟩
              case measure => simp [intOf]; omega
        · have hkk : k = G.length := by omega
          rw [hkk, List.take_length, ← HSU.out] at hO
          clear hkk
          obtain ⟨A', c', rfl, hL'⟩ := hO.lists
          go_wp2
          go_roundw
          case rel => exact ⟨i + 1, A', c', by omega, by go_num, rfl, hB.trans (hB2.mono hB.size), hL'⟩
          case measure => simp [intOf]; omega
    · obtain rfl : i = f.lots.length := by omega
      go_wp2
      go_ret
      exact ⟨A, cc, rfl, hL, HB1.out.trans (hB.mono HB1.out.size)⟩
end Go.Proofs.Ytllmahcanipcpaa
