/- The contract of the reference's Choices, of at most five. -/
import Derived.Test.YtllmahcanipcpaaGreatSQ
import Derived.Test.YtllmahcanipcpaaGreatHJ
import Derived.OwnWalkIn
import Derived.TacticsInMore
set_option linter.unusedVariables false
set_option linter.unusedSimpArgs false
namespace Go.Proofs.YtllmahcanipcpaaGreat
open Go.RowKit
attribute [local go_sem ↓] Go.wp_at_zero Go.wp_at_succ

set_option maxHeartbeats 2000000 in
set_option maxRecDepth 100000 in
theorem choices_any {n many : Nat} (hn : n ≤ 5) (hmn : many ≤ 5) (w : World) :
    Calls Tryz.prog 66 #[.int .i64 n, .int .i64 many] w fun e w' =>
      ∃ A c', e = .returned (.slice A (chTo n many).length c') ∧ ListsS w' w'.heap.size A (chTo n many).length c' (chTo n many) ∧ Below w.heap.size w w' := by
  obtain ⟨i1, gi, gz0, gz1, gz2⟩ := info_parts Tryz.infoInts
  have hB0 : Below w.heap.size w (w.alloc (.cells #[.slice none 0 0] 23)) := (Below.refl _ _).alloc (Nat.le_refl _) _
  have hO0 : OwnLists (w.alloc (.cells #[.slice none 0 0] 23)) w.heap.size (.slice (some ⟨w.heap.size, 0, none⟩) 1 1) [[]] :=
    ⟨[.slice none 0 0], by simpa using World.ownsRow_lit (base := w.heap.size) (e := 23) (size := 1) w #[.slice none 0 0] 1 (by simp) (by simp [maxLen]) rfl,
      fun j hj => by obtain rfl : j = 0 := by simpa using hj
                     exact ⟨_, rfl, World.ownsRow_nil _ _ _ _⟩⟩
  obtain ⟨A0, cc0, e0, hL0⟩ := hO0.lists
  simp only [Value.slice.injEq, List.length_singleton, true_and] at e0
  obtain ⟨rfl, rfl⟩ := e0
  have HB0 := hide hB0
  have HL0 := hide hL0
  clear hB0 hO0 hL0
  go_enter Tryz.func66, Tryz.ntmps66
  go_wp2_with fail
  go_loopw [5, 6, 7, 8, 9, 10] (fun v5 v6 _ _ _ _ wr => ∃ (i : Nat) (A : Option Addr) (cc : Nat), i ≤ many ∧ v6 = .int .i64 i ∧ v5 = .slice A (chTo n i).length cc ∧ Below w.heap.size w wr ∧
     ListsS wr wr.heap.size A (chTo n i).length cc (chTo n i)) (fun _ v6 _ _ _ _ _ => many - (intOf v6).toNat)
  case atStart => exact ⟨0, _, _, Nat.zero_le _, rfl, rfl, HB0.out, HL0.out⟩
  case round =>
    obtain ⟨i, A, cc, hi', rfl, rfl, hB, hL⟩ := hrel
    obtain ⟨wa, rfl⟩ : ∃ wa : World, wa = wr := ⟨_, rfl⟩
    have hi0 : (0 : Int) ≤ (i : Int) := Int.natCast_nonneg _
    by_cases hlt : i < many
    · have hj1 : (i : Int) < (many : Int) := by omega
      have HSU := hide (show chTo n (i + 1) = (chTo n i).flatMap (nextC n i) from rfl)
      obtain ⟨hGl, hgf⟩ := ch_facts hn (show i ≤ 5 by omega)
      have HGF := hide hgf
      have HNX : Hid (∀ g ∈ chTo n i, (nextC n i g).length ≤ 5) := hide (fun g hg => by rw [nextC, List.length_map]; exact (HGF.out g hg).2.2.2.2)
      clear hgf
      go_wp2_with fail
      generalize hGG : chTo n i = G at *
      have HGG := hide hGG
      clear hGG
      go_loopw [7, 8, 9, 10] (fun v7 v8 _ _ w2 => ∃ k : Nat, k ≤ G.length ∧ v8 = .int .i64 k ∧ Below wa.heap.size wa w2 ∧ OwnLists w2 wa.heap.size v7 ((G.take k).flatMap (nextC n i))) (fun _ v8 _ _ _ => G.length - (intOf v8).toNat)
      case atStart => exact ⟨0, Nat.zero_le _, rfl, Below.refl _ _, OwnLists.nil_⟩
      case round =>
          obtain ⟨k, hk, rfl, hB2, hO⟩ := hrel
          obtain ⟨k2, f2⟩ := bcell hB2
          have hk0 : (0 : Int) ≤ (k : Int) := Int.natCast_nonneg _
          by_cases hlt2 : k < G.length
          · obtain ⟨wb, rfl⟩ : ∃ wb : World, wb = wr := ⟨_, rfl⟩
            obtain ⟨bg, og, Ag, cg, rfl, hbg, hgc, hgi⟩ := hL.at_ hlt2
            have hk1 : (k : Int) < (G.length : Int) := by omega
            have hz2 := hB2.size
            have hbz : bg < wb.heap.size := by omega
            obtain ⟨hgl2, hgx, hl1, hl2, hl3⟩ := HGF.out (nth G k) (by rw [nth_eq hlt2]; exact List.getElem_mem hlt2)
            have HGL2 := hide hgl2
            have HFT := hide (flat_take G (nextC n i) hlt2)
            by_cases hz : i = 0
            · subst hz
              have HNC := hide (show nextC n 0 (nth G k) = (spanVals ⟨0, (n : Int) - 1⟩).map fun x => nth G k ++ [x] from rfl)
              have hl3 : (spanVals ⟨0, (n : Int) - 1⟩).length ≤ 5 := hl3
              clear hgl2 hgx hl1 hl2
              go_wp2_with fail
              go_loopw [7, 10] (fun v7 v10 w3 => ∃ m : Nat, (m : Int) ≤ (n : Int) - ((0 : Int)) ∧ v10 = .int .i64 ((0 : Int) + m) ∧ Below wa.heap.size wa w3 ∧
                 OwnLists w3 wa.heap.size v7 ((G.take k).flatMap (nextC n 0) ++ ((spanVals ⟨(0 : Int), (n : Int) - 1⟩).take m).map fun x => nth G k ++ [x])) (fun _ v10 _ => ((n : Int) - intOf v10).toNat)
              case atStart => exact ⟨0, by omega, by simp, hB2, by simpa using hO⟩
              case round =>
                clear hB2 hO k2 f2
                obtain ⟨m, hm, rfl, hB3, hO⟩ := hrel
                obtain ⟨k2, f2⟩ := bcell hB3
                by_cases hle : (m : Int) ≤ (n : Int) - 1 - ((0 : Int))
                · have hgiw := hgi.below hB3
                  have hq3 : (0 : Int) + (m : Int) < (n : Int) := by omega
                  have hq4 : ¬ (n : Int) ≤ (0 : Int) + (m : Int) := by omega
                  have hq5 : m < n := by omega
                  have hz3 := hB3.size
                  have hbgz : bg < wr.heap.size := by omega
                  have HLEN : Hid (((G.take k).flatMap (nextC n 0) ++ ((spanVals ⟨(0 : Int), (n : Int) - 1⟩).take m).map fun x => nth G k ++ [x]).length ≤ 100000) := by
                    have h1 := flat_len (G.take k) (nextC n 0) 5 (fun g hg => HNX.out g (List.mem_of_mem_take hg))
                    have h2 : (((spanVals ⟨(0 : Int), (n : Int) - 1⟩).take m).map fun x => nth G k ++ [x]).length ≤ 5 := by rw [List.length_map]; have := List.length_take_le m (spanVals ⟨(0 : Int), (n : Int) - 1⟩); omega
                    have h3 : (G.take k).length ≤ G.length := by simp; omega
                    show _ ≤ _
                    rw [List.length_append]
                    omega
                  go_wp2_with (first
                    | (at_builtin
                       refine wpList_app_ints _ rfl (.tmp 41) (.tmp 45) rfl wr.heap.size (.slice (some ⟨wr.heap.size, 0, none⟩) 0 0) 0 [] rfl (World.ownsRow_lit _ #[] 0 (Nat.le_refl _) (by simp [maxLen]) rfl) Ag _ cg _ _ rfl (hgiw.below ((Below.refl _ _).alloc (by omega) _)) (by have := HGL2.out; omega) (by simp) ?_
                       intro v1 w4 hown1 hg1 hat1
                       have hbA : Below wr.heap.size wr w4 := ((Below.refl _ wr).alloc (Nat.le_refl _) (.cells #[] 3)).grown hg1 (by simp) (fun k hk => by simp [Value.ownBlock] at hk; omega)
                       have hzA := hbA.size
                       clear hg1 hat1)
                    | (at_builtin
                       refine wpList_app_ints _ rfl (.tmp 46) (.tmp 48) rfl wr.heap.size v1 _ _ rfl (hown1.alloc _) (some ⟨w4.heap.size, 0, none⟩) 1 1 _ [(m : Int)] rfl (IntsS.lit1 rfl _) (by have := HGL2.out; omega) (by simp; omega) ?_
                       intro v2 w5 hown2 hg2 hat2
                       have hbB := hbA.trans (app_below hzA hown1 hg2)
                       have hown2' : w5.ownsRow wr.heap.size 3 1 v2 ((nth G k).length + 1) ((nth G k ++ [(m : Int)]).map (Value.int .i64)) := by simpa using hown2
                       obtain ⟨A2', c2', rfl, hs2⟩ := IntsS.of_own hown2'
                       have HOWN2 := hide (show w5.ownsRow wa.heap.size 3 1 (.slice A2' ((nth G k).length + 1) c2') (nth G k ++ [(m : Int)]).length ((nth G k ++ [(m : Int)]).map (Value.int .i64)) by rw [List.length_append]; exact own_base hown2' hz3)
                       obtain ⟨vs, hv1, hv2⟩ := hO.below hbB
                       have hzB := hbB.size
                       clear hg2 hat2 hown2 hown2' hs2 hown1)
                    | (at_builtin
                       refine wpList_append_own _ rfl (.tmp 40) (.tmp 50) _ rfl wa.heap.size 23 i1 (.slice none 0 0) 1 24 Tryz.underlying56 gi gz0 gz1 gz2 rfl (by decide) _ _ vs rfl (hv1.alloc _) ⟨w5.heap.size, 0, none⟩ 1 1 [.slice A2' ((nth G k).length + 1) c2'] rfl rfl ?c1 ?c2 ?c3 ?c4 ?c5 ?_
                       case c1 => exact cell_one_new _ _ _
                       case c2 => simp [Value.oneCell']
                       case c3 => simp only [maxLen]; have := HLEN.out; omega
                       case c4 => have := HLEN.out; omega
                       case c5 => simp; omega
                       intro v' w6 hown6 hg6 _
                       have hbC := app_below (show wa.heap.size ≤ w5.heap.size by omega) hv1 hg6
                       have hOO := OwnLists.snoc hv1 hv2 HOWN2.out hown6 hg6
                       clear hg6 hown6))
                  go_roundw
                  case rel =>
                    exact ⟨m + 1, by omega, by go_num, hB3.trans ((hbB.mono hz3).trans hbC), by rw [← List.map_take, take_map_range ⟨(0 : Int), (n : Int) - 1⟩ hle]; simpa using hOO⟩
                  case measure => simp [intOf]; omega
                · have hq3 : ¬ (0 : Int) + (m : Int) < (n : Int) := by omega
                  have hq4 : (n : Int) ≤ (0 : Int) + (m : Int) := by omega
                  have hq5 : ¬ m < n := by omega
                  go_wp2
                  go_roundw
                  case rel => exact ⟨k + 1, by omega, by go_num, hB3, by rw [HFT.out, HNC.out]; rw [spanVals_take ⟨(0 : Int), (n : Int) - 1⟩ (show (n : Int) - 1 - ((0 : Int)) < m by omega)] at hO; exact hO⟩
                  case measure => simp [intOf]; omega
            · obtain ⟨q, hq⟩ : ∃ q : Nat, i = q + 1 := ⟨i - 1, by omega⟩
              have hq1 : (i : Int) - 1 = (q : Int) := by omega
              have hq2 : (i : Int) > 0 := by omega
              have hq0 : (0 : Int) ≤ (q : Int) := Int.natCast_nonneg _
              have hlc : leastC i (nth G k) = nth (nth G k) q + 1 := by rw [leastC, if_neg hz, show i - 1 = q by omega]
              have HNC := hide (show nextC n i (nth G k) = (spanVals ⟨nth (nth G k) q + 1, (n : Int) - 1⟩).map fun x => nth G k ++ [x] by rw [nextC, hlc])
              rw [hlc] at hl1 hl2 hl3
              have hqn : q < (nth G k).length := by omega
              have hqi : (q : Int) < ((nth G k).length : Int) := by omega
              obtain ⟨bh, oh, eA, hbh, hch⟩ := hgi.row.ints hqn
              subst eA
              have hbh2 : bh < wb.heap.size := by omega
              have hx := hgx (nth (nth G k) q) (by rw [nth_eq hqn]; exact List.getElem_mem hqn)
              clear hgl2 hgx hlc hz hq
              generalize hX : nth (nth G k) q = x at *
              have HX := hide hX
              clear hX
              obtain ⟨hx0, hx1⟩ := hx
              go_wp2_with fail
              go_loopw [7, 10] (fun v7 v10 w3 => ∃ m : Nat, (m : Int) ≤ (n : Int) - (x + 1) ∧ v10 = .int .i64 (x + 1 + m) ∧ Below wa.heap.size wa w3 ∧
                 OwnLists w3 wa.heap.size v7 ((G.take k).flatMap (nextC n i) ++ ((spanVals ⟨x + 1, (n : Int) - 1⟩).take m).map fun x => nth G k ++ [x])) (fun _ v10 _ => ((n : Int) - intOf v10).toNat)
              case atStart => exact ⟨0, by omega, by simp, hB2, by simpa using hO⟩
              case round =>
                clear hB2 hO k2 f2
                obtain ⟨m, hm, rfl, hB3, hO⟩ := hrel
                obtain ⟨k2, f2⟩ := bcell hB3
                by_cases hle : (m : Int) ≤ (n : Int) - 1 - (x + 1)
                · have hgiw := hgi.below hB3
                  have hq3 : x + 1 + (m : Int) < (n : Int) := by omega
                  have hq4 : ¬ (n : Int) ≤ x + 1 + (m : Int) := by omega
                  have hz3 := hB3.size
                  have hbgz : bg < wr.heap.size := by omega
                  have HLEN : Hid (((G.take k).flatMap (nextC n i) ++ ((spanVals ⟨x + 1, (n : Int) - 1⟩).take m).map fun x => nth G k ++ [x]).length ≤ 100000) := by
                    have h1 := flat_len (G.take k) (nextC n i) 5 (fun g hg => HNX.out g (List.mem_of_mem_take hg))
                    have h2 : (((spanVals ⟨x + 1, (n : Int) - 1⟩).take m).map fun x => nth G k ++ [x]).length ≤ 5 := by rw [List.length_map]; have := List.length_take_le m (spanVals ⟨x + 1, (n : Int) - 1⟩); omega
                    have h3 : (G.take k).length ≤ G.length := by simp; omega
                    show _ ≤ _
                    rw [List.length_append]
                    omega
                  go_wp2_with (first
                    | (at_builtin
                       refine wpList_app_ints _ rfl (.tmp 41) (.tmp 45) rfl wr.heap.size (.slice (some ⟨wr.heap.size, 0, none⟩) 0 0) 0 [] rfl (World.ownsRow_lit _ #[] 0 (Nat.le_refl _) (by simp [maxLen]) rfl) (some ⟨bh, oh, none⟩) _ cg _ _ rfl (hgiw.below ((Below.refl _ _).alloc (by omega) _)) (by have := HGL2.out; omega) (by simp) ?_
                       intro v1 w4 hown1 hg1 hat1
                       have hbA : Below wr.heap.size wr w4 := ((Below.refl _ wr).alloc (Nat.le_refl _) (.cells #[] 3)).grown hg1 (by simp) (fun k hk => by simp [Value.ownBlock] at hk; omega)
                       have hzA := hbA.size
                       clear hg1 hat1)
                    | (at_builtin
                       refine wpList_app_ints _ rfl (.tmp 46) (.tmp 48) rfl wr.heap.size v1 _ _ rfl (hown1.alloc _) (some ⟨w4.heap.size, 0, none⟩) 1 1 _ [x + 1 + m] rfl (IntsS.lit1 rfl _) (by have := HGL2.out; omega) (by simp; omega) ?_
                       intro v2 w5 hown2 hg2 hat2
                       have hbB := hbA.trans (app_below hzA hown1 hg2)
                       have hown2' : w5.ownsRow wr.heap.size 3 1 v2 ((nth G k).length + 1) ((nth G k ++ [x + 1 + (m : Int)]).map (Value.int .i64)) := by simpa using hown2
                       obtain ⟨A2', c2', rfl, hs2⟩ := IntsS.of_own hown2'
                       have HOWN2 := hide (show w5.ownsRow wa.heap.size 3 1 (.slice A2' ((nth G k).length + 1) c2') (nth G k ++ [x + 1 + (m : Int)]).length ((nth G k ++ [x + 1 + (m : Int)]).map (Value.int .i64)) by rw [List.length_append]; exact own_base hown2' hz3)
                       obtain ⟨vs, hv1, hv2⟩ := hO.below hbB
                       have hzB := hbB.size
                       clear hg2 hat2 hown2 hown2' hs2 hown1)
                    | (at_builtin
                       refine wpList_append_own _ rfl (.tmp 40) (.tmp 50) _ rfl wa.heap.size 23 i1 (.slice none 0 0) 1 24 Tryz.underlying56 gi gz0 gz1 gz2 rfl (by decide) _ _ vs rfl (hv1.alloc _) ⟨w5.heap.size, 0, none⟩ 1 1 [.slice A2' ((nth G k).length + 1) c2'] rfl rfl ?c1 ?c2 ?c3 ?c4 ?c5 ?_
                       case c1 => exact cell_one_new _ _ _
                       case c2 => simp [Value.oneCell']
                       case c3 => simp only [maxLen]; have := HLEN.out; omega
                       case c4 => have := HLEN.out; omega
                       case c5 => simp; omega
                       intro v' w6 hown6 hg6 _
                       have hbC := app_below (show wa.heap.size ≤ w5.heap.size by omega) hv1 hg6
                       have hOO := OwnLists.snoc hv1 hv2 HOWN2.out hown6 hg6
                       clear hg6 hown6))
                  go_roundw
                  case rel =>
                    exact ⟨m + 1, by omega, by go_num, hB3.trans ((hbB.mono hz3).trans hbC), by rw [← List.map_take, take_map_range ⟨x + 1, (n : Int) - 1⟩ hle]; simpa using hOO⟩
                  case measure => simp [intOf]; omega
                · have hq3 : ¬ x + 1 + (m : Int) < (n : Int) := by omega
                  have hq4 : (n : Int) ≤ x + 1 + (m : Int) := by omega
                  go_wp2
                  go_roundw
                  case rel => exact ⟨k + 1, by omega, by go_num, hB3, by rw [HFT.out, HNC.out]; rw [spanVals_take ⟨x + 1, (n : Int) - 1⟩ (show (n : Int) - 1 - (x + 1) < m by omega)] at hO; exact hO⟩
                  case measure => simp [intOf]; omega
          · have hkk : k = G.length := by omega
            rw [hkk, List.take_length, ← HSU.out] at hO
            clear hkk
            obtain ⟨A', c', rfl, hL'⟩ := hO.lists
            go_wp2
            go_roundw
            case rel => exact ⟨i + 1, A', c', by omega, by go_num, rfl, hB.trans (hB2.mono hB.size), hL'⟩
            case measure => simp [intOf]; omega
    · obtain rfl : i = many := by omega
      go_wp2
      go_ret
      exact ⟨A, cc, rfl, hL, hB⟩
end Go.Proofs.YtllmahcanipcpaaGreat
