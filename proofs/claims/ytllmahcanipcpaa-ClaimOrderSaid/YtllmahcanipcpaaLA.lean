/- The law's span and files of the examples. -/
import Derived.Test.YtllmahcanipcpaaJA
import Derived.OwnWalkIn
import Derived.TacticsInMore
import Derived.Deep.DeepCutAuto
set_option linter.unusedVariables false
set_option linter.unusedSimpArgs false
namespace Go.Proofs.Ytllmahcanipcpaa
open Go.RowKit
attribute [local go_sem ↓] Go.wp_at_zero Go.wp_at_succ
attribute [local go_sem] Oper.semAt_some

theorem span_any (lo hi : Int) (w : World) : Calls Try.prog 21 #[.int .i64 lo, .int .i64 hi] w fun e w' => e = .returned (.agg #[.int .i64 lo, .int .i64 hi]) ∧ Below w.heap.size w w' := by
  go_enter Try.func21, Try.ntmps21
  go_wp2
  exact bodyPost_ret (v := .agg #[.int .i64 lo, .int .i64 hi]) (by simp [results, Try.results21, go_sem]) rfl ⟨rfl, (Below.refl _ _).alloc (Nat.le_refl _) _⟩
/-- The file F of the examples, with more papers. -/
def lawF (ps : List Paper) : File := ⟨[⟨#[102, 97, 114, 109]⟩, ⟨#[108, 105, 110, 101]⟩, ⟨#[115, 104, 105, 112]⟩, ⟨#[104, 111, 117, 115, 101]⟩], [10, 12, 20, 30], [⟨[0, 1, 2, 3], ⟨1, 3⟩, 40⟩, ⟨[1, 2], ⟨0, 1⟩, 25⟩], ⟨0, 0, 2⟩ :: ps, [⟨0, 2, 15⟩, ⟨0, 3, 15⟩, ⟨1, 1, 14⟩, ⟨1, 2, 20⟩, ⟨0, 2, 12⟩]⟩
theorem blk_row {w : World} {g B n : Nat} {T : TypeId} {vs : Array Value} {f : Nat → Value} (h : Blk w g T vs) (hB : g < B) (hf : ∀ j, j < n → vs[j]? = some (f j)) : Row w B (some ⟨g, 0, none⟩) n f := fun _ =>
  ⟨_, _, rfl, hB, fun j hj => by rw [Nat.zero_add, h.at_ j]; exact hf j hj⟩
theorem blk_ints {w : World} {g B n : Nat} {vs : Array Value} {xs : List Int} (h : Blk w g 3 vs) (hB : g < B) (hl : xs.length = n) (hm : n ≤ 1000) (hf : ∀ j, j < n → vs[j]? = some (.int .i64 (nth xs j))) : IntsS w B (some ⟨g, 0, none⟩) n n xs :=
  ⟨hl, Nat.le_refl _, by simp only [maxLen]; omega, fun _ => ⟨_, _, rfl, hB, fun j hj => by rw [Nat.zero_add, h.at_ j]; exact hf j hj⟩⟩
theorem row_keep1 {w w' : World} {B b off m : Nat} {f : Nat → Value} (h : Row w B (some ⟨b, off, none⟩) m f) (hk : ∀ o, w'.cell? ⟨b, o, none⟩ = w.cell? ⟨b, o, none⟩) : Row w' B (some ⟨b, off, none⟩) m f := fun hm => by
  obtain ⟨b', o', e, h1, h2⟩ := h hm
  cases e
  exact ⟨b, off, rfl, h1, fun j hj => (hk _).trans (h2 j hj)⟩
theorem row_congr {w : World} {B n : Nat} {A : Option Addr} {f g : Nat → Value} (h : Row w B A n f) (hf : ∀ j, j < n → f j = g j) : Row w B A n g := fun hn => by
  obtain ⟨b, off, e, hb, hc⟩ := h hn
  exact ⟨b, off, e, hb, fun j hj => by rw [hc j hj, hf j hj]⟩
theorem Try.infoPaper : (Try.prog.info? 48).map (fun i => (i.zero, i.size, i.bytes)) = some (some (.agg #[.int .i64 0, .int .i64 0, .int .i64 0]), 3, 24) := by kernel_rfl
theorem papers_cons (ps : List Paper) (j : Nat) (hj : j < (1 + ps.length) * 3) : (([.int .i64 0, .int .i64 0, .int .i64 2] : List Value) ++ (List.range (ps.length * 3)).map (papersF ps)).getD j undef = papersF (⟨0, 0, 2⟩ :: ps) j := by
  rcases Nat.lt_or_ge j 3 with h | h
  · match j, h with
    | 0, _ | 1, _ | 2, _ => rfl
  · obtain ⟨k, rfl⟩ : ∃ k, j = k + 3 := ⟨j - 3, by omega⟩
    have hk : k < ps.length * 3 := by omega
    rw [List.getD_eq_getElem?_getD, List.getElem?_append_right (by simp)]
    simp only [List.length_cons, List.length_nil, Nat.reduceAdd, Nat.add_sub_cancel]
    rw [List.getElem?_map, List.getElem?_range hk]
    simp only [Option.map_some, Option.getD_some]
    have h3 : (k + 3) % 3 = k % 3 := by omega
    have h4 : (k + 3) / 3 = k / 3 + 1 := by omega
    have h5 : nth (⟨0, 0, 2⟩ :: ps) (k / 3 + 1) = nth ps (k / 3) := by simp [nth]
    rw [papersF, papersF, h3, h4, h5]
set_option maxHeartbeats 1600000 in
set_option maxRecDepth 100000 in
theorem file_any {A : Option Addr} {B c : Nat} {ps : List Paper} {w : World} (h : Row w B A (ps.length * 3) (papersF ps)) (hB : B ≤ w.heap.size) (hn : ps.length ≤ 1000) :
    Calls Try.prog 14 #[.slice A ps.length c] w fun e w' => ∃ fa, e = .returned (fileVal (lawF ps) fa) ∧ (∀ w2, Keep (fun q => q < w.heap.size) w' w2 → FileV w2 w2.heap.size (lawF ps) fa) ∧ Below w.heap.size w w' := by
  obtain ⟨i0, hI0, hz00, hz01, hz02⟩ := info_parts Try.infoPaper
  have HH := hide h
  clear h
  go_enter Try.func14, Try.ntmps14
  go_wp2_with fail
  have HB : Hid (Below w.heap.size w ((((w.alloc (.cells #[.slice none 0 0, .slice none 0 0, .slice none 0 0, .slice none 0 0, .slice none 0 0] 28)).alloc (.cells #[.string ⟨#[102, 97, 114, 109]⟩, .string ⟨#[108, 105, 110, 101]⟩, .string ⟨#[115, 104, 105, 112]⟩, .string ⟨#[104, 111, 117, 115, 101]⟩] 9)).alloc (.cells #[.int .i64 10, .int .i64 12, .int .i64 20, .int .i64 30] 3)).alloc (.cells #[.int .i64 0, .int .i64 1, .int .i64 2, .int .i64 3] 3))) := hide (((((Below.refl _ _).alloc (Nat.le_refl _) _).alloc (by simp) _).alloc (by simp; omega) _).alloc (by simp; omega) _)
  have B0 : Hid (Blk ((((w.alloc (.cells #[.slice none 0 0, .slice none 0 0, .slice none 0 0, .slice none 0 0, .slice none 0 0] 28)).alloc (.cells #[.string ⟨#[102, 97, 114, 109]⟩, .string ⟨#[108, 105, 110, 101]⟩, .string ⟨#[115, 104, 105, 112]⟩, .string ⟨#[104, 111, 117, 115, 101]⟩] 9)).alloc (.cells #[.int .i64 10, .int .i64 12, .int .i64 20, .int .i64 30] 3)).alloc (.cells #[.int .i64 0, .int .i64 1, .int .i64 2, .int .i64 3] 3)) w.heap.size 28 #[.slice none 0 0, .slice none 0 0, .slice none 0 0, .slice none 0 0, .slice none 0 0]) := hide (((Blk.made.alloc _).alloc _).alloc _)
  have B1 : Hid (Blk ((((w.alloc (.cells #[.slice none 0 0, .slice none 0 0, .slice none 0 0, .slice none 0 0, .slice none 0 0] 28)).alloc (.cells #[.string ⟨#[102, 97, 114, 109]⟩, .string ⟨#[108, 105, 110, 101]⟩, .string ⟨#[115, 104, 105, 112]⟩, .string ⟨#[104, 111, 117, 115, 101]⟩] 9)).alloc (.cells #[.int .i64 10, .int .i64 12, .int .i64 20, .int .i64 30] 3)).alloc (.cells #[.int .i64 0, .int .i64 1, .int .i64 2, .int .i64 3] 3)) (w.heap.size + 1) 9 #[.string ⟨#[102, 97, 114, 109]⟩, .string ⟨#[108, 105, 110, 101]⟩, .string ⟨#[115, 104, 105, 112]⟩, .string ⟨#[104, 111, 117, 115, 101]⟩]) := hide (((Blk.made' (by simp)).alloc _).alloc _)
  have B2 : Hid (Blk ((((w.alloc (.cells #[.slice none 0 0, .slice none 0 0, .slice none 0 0, .slice none 0 0, .slice none 0 0] 28)).alloc (.cells #[.string ⟨#[102, 97, 114, 109]⟩, .string ⟨#[108, 105, 110, 101]⟩, .string ⟨#[115, 104, 105, 112]⟩, .string ⟨#[104, 111, 117, 115, 101]⟩] 9)).alloc (.cells #[.int .i64 10, .int .i64 12, .int .i64 20, .int .i64 30] 3)).alloc (.cells #[.int .i64 0, .int .i64 1, .int .i64 2, .int .i64 3] 3)) (w.heap.size + 1 + 1) 3 #[.int .i64 10, .int .i64 12, .int .i64 20, .int .i64 30]) := hide ((Blk.made' (by simp)).alloc _)
  have B3 : Hid (Blk ((((w.alloc (.cells #[.slice none 0 0, .slice none 0 0, .slice none 0 0, .slice none 0 0, .slice none 0 0] 28)).alloc (.cells #[.string ⟨#[102, 97, 114, 109]⟩, .string ⟨#[108, 105, 110, 101]⟩, .string ⟨#[115, 104, 105, 112]⟩, .string ⟨#[104, 111, 117, 115, 101]⟩] 9)).alloc (.cells #[.int .i64 10, .int .i64 12, .int .i64 20, .int .i64 30] 3)).alloc (.cells #[.int .i64 0, .int .i64 1, .int .i64 2, .int .i64 3] 3)) (w.heap.size + 1 + 1 + 1) 3 #[.int .i64 0, .int .i64 1, .int .i64 2, .int .i64 3]) := hide (Blk.made' (by simp))
  generalize ((((w.alloc (.cells #[.slice none 0 0, .slice none 0 0, .slice none 0 0, .slice none 0 0, .slice none 0 0] 28)).alloc (.cells #[.string ⟨#[102, 97, 114, 109]⟩, .string ⟨#[108, 105, 110, 101]⟩, .string ⟨#[115, 104, 105, 112]⟩, .string ⟨#[104, 111, 117, 115, 101]⟩] 9)).alloc (.cells #[.int .i64 10, .int .i64 12, .int .i64 20, .int .i64 30] 3)).alloc (.cells #[.int .i64 0, .int .i64 1, .int .i64 2, .int .i64 3] 3)) = k1 at *
  refine (span_any 1 3 _).mono ?_
  rintro e k2 ⟨rfl, hb⟩
  have B0 := hide (B0.out.next hb)
  have B1 := hide (B1.out.next hb)
  have B2 := hide (B2.out.next hb)
  have B3 := hide (B3.out.next hb)
  have HB := hide (HB.out.trans (hb.mono HB.out.size))
  clear hb
  have hl2 := B0.out.lt
  go_wp2_with fail
  have hb : Below k2.heap.size k2 (k2.alloc (.cells #[.int .i64 1, .int .i64 2] 3)) := (Below.refl _ _).alloc (Nat.le_refl _) _
  have B4 : Hid (Blk (k2.alloc (.cells #[.int .i64 1, .int .i64 2] 3)) k2.heap.size 3 #[.int .i64 1, .int .i64 2]) := hide Blk.made
  have B0 := hide (B0.out.next hb)
  have B1 := hide (B1.out.next hb)
  have B2 := hide (B2.out.next hb)
  have B3 := hide (B3.out.next hb)
  have HB := hide (HB.out.trans (hb.mono HB.out.size))
  clear hb
  generalize (k2.alloc (.cells #[.int .i64 1, .int .i64 2] 3)) = k3 at *
  refine (span_any 0 1 _).mono ?_
  rintro e k4 ⟨rfl, hb⟩
  have B0 := hide (B0.out.next hb)
  have B1 := hide (B1.out.next hb)
  have B2 := hide (B2.out.next hb)
  have B3 := hide (B3.out.next hb)
  have B4 := hide (B4.out.next hb)
  have HB := hide (HB.out.trans (hb.mono HB.out.size))
  clear hb
  have hl4 := B0.out.lt
  have hb : Below k4.heap.size k4 (k4.alloc (.cells #[.slice (some ⟨w.heap.size + 1 + 1 + 1, 0, none⟩) 4 4, .int .i64 1, .int .i64 3, .int .i64 40, .slice (some ⟨k2.heap.size, 0, none⟩) 2 2, .int .i64 0, .int .i64 1, .int .i64 25] 56)) := (Below.refl _ _).alloc (Nat.le_refl _) _
  have B5 : Hid (Blk (k4.alloc (.cells #[.slice (some ⟨w.heap.size + 1 + 1 + 1, 0, none⟩) 4 4, .int .i64 1, .int .i64 3, .int .i64 40, .slice (some ⟨k2.heap.size, 0, none⟩) 2 2, .int .i64 0, .int .i64 1, .int .i64 25] 56)) k4.heap.size 56 #[.slice (some ⟨w.heap.size + 1 + 1 + 1, 0, none⟩) 4 4, .int .i64 1, .int .i64 3, .int .i64 40, .slice (some ⟨k2.heap.size, 0, none⟩) 2 2, .int .i64 0, .int .i64 1, .int .i64 25]) := hide Blk.made
  have B0 := hide (B0.out.next hb)
  have B1 := hide (B1.out.next hb)
  have B2 := hide (B2.out.next hb)
  have B3 := hide (B3.out.next hb)
  have B4 := hide (B4.out.next hb)
  have HB := hide (HB.out.trans (hb.mono HB.out.size))
  clear hb
  have hz5 : (k4.alloc (.cells #[.slice (some ⟨w.heap.size + 1 + 1 + 1, 0, none⟩) 4 4, .int .i64 1, .int .i64 3, .int .i64 40, .slice (some ⟨k2.heap.size, 0, none⟩) 2 2, .int .i64 0, .int .i64 1, .int .i64 25] 56)).heap.size = k4.heap.size + 1 := by simp
  have HS := hide HB.out.size
  obtain ⟨k5, hk5⟩ : ∃ k5, k5 = (k4.alloc (.cells #[.slice (some ⟨w.heap.size + 1 + 1 + 1, 0, none⟩) 4 4, .int .i64 1, .int .i64 3, .int .i64 40, .slice (some ⟨k2.heap.size, 0, none⟩) 2 2, .int .i64 0, .int .i64 1, .int .i64 25] 56)) := ⟨_, rfl⟩
  rw [← hk5] at HB B0 B1 B2 B3 B4 B5 HS hz5
  go_wp2_with (first
    | (at_builtin
       rw [← hk5]
       have hown : (k5.alloc (.cells #[.int .i64 0, .int .i64 0, .int .i64 2] 48)).ownsRow k5.heap.size 48 3 (.slice (some ⟨k5.heap.size, 0, none⟩) 1 1) 1 [.int .i64 0, .int .i64 0, .int .i64 2] := World.ownsRow_lit _ #[.int .i64 0, .int .i64 0, .int .i64 2] 1 (by simp) (by simp [maxLen]) rfl
       refine wpList_app_row _ rfl (.tmp 13) (.tmp 14) 25 rfl k5.heap.size 48 i0 (.agg #[.int .i64 0, .int .i64 0, .int .i64 0]) 3 24 Try.underlying25 hI0 hz00 hz01 hz02 rfl (by decide) (.slice (some ⟨k5.heap.size, 0, none⟩) 1 1) 1 _ (by rw [hz5]; rfl) hown A ps.length c B (papersF ps) rfl (HH.out.below (((HB.out.alloc (by have := HS.out; omega) _)).mono hB)) (fun _ _ => rfl) (by simp only [maxLen]; omega) (by omega) (by simp) ?_
       intro v' k6 hown6 hg6 _
       have hb : Below k5.heap.size k5 k6 := ((Below.refl _ k5).alloc (Nat.le_refl _) (.cells #[.int .i64 0, .int .i64 0, .int .i64 2] 48)).grown hg6 (by simp) (fun k hk => by simp [Value.ownBlock] at hk; omega)
       obtain ⟨AP, cP, rfl, hP1, hP2, hrow⟩ := row_own hown6
       obtain ⟨gP, rfl, hgP, _⟩ := own_addr hown6 (by omega)
       have HP := hide (row_congr hrow (papers_cons ps))
       clear hown6 hg6 hrow hown
       have B0 := hide (B0.out.next hb)
       have B1 := hide (B1.out.next hb)
       have B2 := hide (B2.out.next hb)
       have B3 := hide (B3.out.next hb)
       have B4 := hide (B4.out.next hb)
       have B5 := hide (B5.out.next hb)
       have HB := hide (HB.out.trans (hb.mono HB.out.size))
       clear hb
       have HS := hide HB.out.size
       have c0 := B0.out.at_ 0
       have f0 := B0.out.free 0
       have c1 := B0.out.at_ 1
       have f1 := B0.out.free 1
       have c2 := B0.out.at_ 2
       have f2 := B0.out.free 2
       have c3 := B0.out.at_ 3
       have f3 := B0.out.free 3
       have c4 := B0.out.at_ 4
       have f4 := B0.out.free 4
       simp only [List.getElem?_toArray, List.getElem?_cons_succ, List.getElem?_cons_zero] at c0 c1 c2 c3 c4
       have hzz := B0.out.lt))
  have hkS : Keep (fun q => q = w.heap.size) k6 (((((k6.setCell ⟨w.heap.size, 0, none⟩ (.slice (some ⟨w.heap.size + 1, 0, none⟩) 4 4)).setCell ⟨w.heap.size, 1, none⟩ (.slice (some ⟨w.heap.size + 1 + 1, 0, none⟩) 4 4)).setCell ⟨w.heap.size, 2, none⟩ (.slice (some ⟨k4.heap.size, 0, none⟩) 2 2)).setCell ⟨w.heap.size, 3, none⟩ (.slice (some ⟨gP, 0, none⟩) (1 + ps.length) cP)).setCell ⟨w.heap.size, 4, none⟩ (.slice (some ⟨k6.heap.size, 0, none⟩) 5 5)) := ((((Keep.setCell _ _ _ (fun q => q = w.heap.size) rfl).trans (Keep.setCell _ _ _ (fun q => q = w.heap.size) rfl)).trans (Keep.setCell _ _ _ (fun q => q = w.heap.size) rfl)).trans (Keep.setCell _ _ _ (fun q => q = w.heap.size) rfl)).trans (Keep.setCell _ _ _ (fun q => q = w.heap.size) rfl)
  have hzS : (((((k6.setCell ⟨w.heap.size, 0, none⟩ (.slice (some ⟨w.heap.size + 1, 0, none⟩) 4 4)).setCell ⟨w.heap.size, 1, none⟩ (.slice (some ⟨w.heap.size + 1 + 1, 0, none⟩) 4 4)).setCell ⟨w.heap.size, 2, none⟩ (.slice (some ⟨k4.heap.size, 0, none⟩) 2 2)).setCell ⟨w.heap.size, 3, none⟩ (.slice (some ⟨gP, 0, none⟩) (1 + ps.length) cP)).setCell ⟨w.heap.size, 4, none⟩ (.slice (some ⟨k6.heap.size, 0, none⟩) 5 5)).heap.size = k6.heap.size := by simp
  have b0 : Blk (((((k6.setCell ⟨w.heap.size, 0, none⟩ (.slice (some ⟨w.heap.size + 1, 0, none⟩) 4 4)).setCell ⟨w.heap.size, 1, none⟩ (.slice (some ⟨w.heap.size + 1 + 1, 0, none⟩) 4 4)).setCell ⟨w.heap.size, 2, none⟩ (.slice (some ⟨k4.heap.size, 0, none⟩) 2 2)).setCell ⟨w.heap.size, 3, none⟩ (.slice (some ⟨gP, 0, none⟩) (1 + ps.length) cP)).setCell ⟨w.heap.size, 4, none⟩ (.slice (some ⟨k6.heap.size, 0, none⟩) 5 5)) w.heap.size 28 #[.slice (some ⟨w.heap.size + 1, 0, none⟩) 4 4, .slice (some ⟨w.heap.size + 1 + 1, 0, none⟩) 4 4, .slice (some ⟨k4.heap.size, 0, none⟩) 2 2, .slice (some ⟨gP, 0, none⟩) (1 + ps.length) cP, .slice (some ⟨k6.heap.size, 0, none⟩) 5 5] := ((((B0.out.store 0 _).store 1 _).store 2 _).store 3 _).store 4 _
  have hkF : Keep (fun q => q = w.heap.size) k6 ((((((k6.setCell ⟨w.heap.size, 0, none⟩ (.slice (some ⟨w.heap.size + 1, 0, none⟩) 4 4)).setCell ⟨w.heap.size, 1, none⟩ (.slice (some ⟨w.heap.size + 1 + 1, 0, none⟩) 4 4)).setCell ⟨w.heap.size, 2, none⟩ (.slice (some ⟨k4.heap.size, 0, none⟩) 2 2)).setCell ⟨w.heap.size, 3, none⟩ (.slice (some ⟨gP, 0, none⟩) (1 + ps.length) cP)).setCell ⟨w.heap.size, 4, none⟩ (.slice (some ⟨k6.heap.size, 0, none⟩) 5 5)).alloc (.cells #[.int .i64 0, .int .i64 2, .int .i64 15, .int .i64 0, .int .i64 3, .int .i64 15, .int .i64 1, .int .i64 1, .int .i64 14, .int .i64 1, .int .i64 2, .int .i64 20, .int .i64 0, .int .i64 2, .int .i64 12] 52)) := hkS.trans (Keep.alloc _ _ _)
  have b0 : Blk ((((((k6.setCell ⟨w.heap.size, 0, none⟩ (.slice (some ⟨w.heap.size + 1, 0, none⟩) 4 4)).setCell ⟨w.heap.size, 1, none⟩ (.slice (some ⟨w.heap.size + 1 + 1, 0, none⟩) 4 4)).setCell ⟨w.heap.size, 2, none⟩ (.slice (some ⟨k4.heap.size, 0, none⟩) 2 2)).setCell ⟨w.heap.size, 3, none⟩ (.slice (some ⟨gP, 0, none⟩) (1 + ps.length) cP)).setCell ⟨w.heap.size, 4, none⟩ (.slice (some ⟨k6.heap.size, 0, none⟩) 5 5)).alloc (.cells #[.int .i64 0, .int .i64 2, .int .i64 15, .int .i64 0, .int .i64 3, .int .i64 15, .int .i64 1, .int .i64 1, .int .i64 14, .int .i64 1, .int .i64 2, .int .i64 20, .int .i64 0, .int .i64 2, .int .i64 12] 52)) w.heap.size 28 #[.slice (some ⟨w.heap.size + 1, 0, none⟩) 4 4, .slice (some ⟨w.heap.size + 1 + 1, 0, none⟩) 4 4, .slice (some ⟨k4.heap.size, 0, none⟩) 2 2, .slice (some ⟨gP, 0, none⟩) (1 + ps.length) cP, .slice (some ⟨k6.heap.size, 0, none⟩) 5 5] := b0.alloc _
  have b1 := B1.out.keep hkF (by omega)
  have b2 := B2.out.keep hkF (by omega)
  have b3 := B3.out.keep hkF (by omega)
  have b4 := B4.out.keep hkF (by omega)
  have b5 := B5.out.keep hkF (by omega)
  have b6 : Blk ((((((k6.setCell ⟨w.heap.size, 0, none⟩ (.slice (some ⟨w.heap.size + 1, 0, none⟩) 4 4)).setCell ⟨w.heap.size, 1, none⟩ (.slice (some ⟨w.heap.size + 1 + 1, 0, none⟩) 4 4)).setCell ⟨w.heap.size, 2, none⟩ (.slice (some ⟨k4.heap.size, 0, none⟩) 2 2)).setCell ⟨w.heap.size, 3, none⟩ (.slice (some ⟨gP, 0, none⟩) (1 + ps.length) cP)).setCell ⟨w.heap.size, 4, none⟩ (.slice (some ⟨k6.heap.size, 0, none⟩) 5 5)).alloc (.cells #[.int .i64 0, .int .i64 2, .int .i64 15, .int .i64 0, .int .i64 3, .int .i64 15, .int .i64 1, .int .i64 1, .int .i64 14, .int .i64 1, .int .i64 2, .int .i64 20, .int .i64 0, .int .i64 2, .int .i64 12] 52)) k6.heap.size 52 #[.int .i64 0, .int .i64 2, .int .i64 15, .int .i64 0, .int .i64 3, .int .i64 15, .int .i64 1, .int .i64 1, .int .i64 14, .int .i64 1, .int .i64 2, .int .i64 20, .int .i64 0, .int .i64 2, .int .i64 12] := Blk.made' hzS
  have hlt5 : k4.heap.size < k5.heap.size := by omega
  have bP := row_keep1 HP.out (fun o => hkF.cell (by obtain ⟨_, _, e, hl, _⟩ := HP.out (by omega); cases e; exact hl) (by omega))
  have hBF := HB.out.trans (hkF.below (B := w.heap.size) (fun k h => by omega) (by omega))
  generalize ((((((k6.setCell ⟨w.heap.size, 0, none⟩ (.slice (some ⟨w.heap.size + 1, 0, none⟩) 4 4)).setCell ⟨w.heap.size, 1, none⟩ (.slice (some ⟨w.heap.size + 1 + 1, 0, none⟩) 4 4)).setCell ⟨w.heap.size, 2, none⟩ (.slice (some ⟨k4.heap.size, 0, none⟩) 2 2)).setCell ⟨w.heap.size, 3, none⟩ (.slice (some ⟨gP, 0, none⟩) (1 + ps.length) cP)).setCell ⟨w.heap.size, 4, none⟩ (.slice (some ⟨k6.heap.size, 0, none⟩) 5 5)).alloc (.cells #[.int .i64 0, .int .i64 2, .int .i64 15, .int .i64 0, .int .i64 3, .int .i64 15, .int .i64 1, .int .i64 1, .int .i64 14, .int .i64 1, .int .i64 2, .int .i64 20, .int .i64 0, .int .i64 2, .int .i64 12] 52)) = X at *
  have g0 := b0.at_ 0
  have g1 := b0.at_ 1
  have g2 := b0.at_ 2
  have g3 := b0.at_ 3
  have g4 := b0.at_ 4
  simp only [List.getElem?_toArray, List.getElem?_cons_succ, List.getElem?_cons_zero] at g0 g1 g2 g3 g4
  refine bodyPost_ret (v := .agg #[.slice (some ⟨w.heap.size + 1, 0, none⟩) 4 4, .slice (some ⟨w.heap.size + 1 + 1, 0, none⟩) 4 4, .slice (some ⟨k4.heap.size, 0, none⟩) 2 2, .slice (some ⟨gP, 0, none⟩) (1 + ps.length) cP, .slice (some ⟨k6.heap.size, 0, none⟩) 5 5]) ?_ rfl ?_
  · simp [results, Try.results14, go_sem, g0, g1, g2, g3, g4]
  · refine ⟨⟨some ⟨w.heap.size + 1, 0, none⟩, some ⟨w.heap.size + 1 + 1, 0, none⟩, some ⟨k4.heap.size, 0, none⟩, some ⟨gP, 0, none⟩, some ⟨k6.heap.size, 0, none⟩, 4, 4, 2, cP, 5, fun j => if j = 0 then some ⟨w.heap.size + 1 + 1 + 1, 0, none⟩ else some ⟨k2.heap.size, 0, none⟩, fun j => if j = 0 then 4 else 2⟩, ?_, fun w2 hk2 => ?_, hBF⟩
    · simp [lawF, Nat.add_comm]
    have hzX := hk2.size
    have z1 : w.heap.size + 1 < w2.heap.size := by have := b1.lt; omega
    have b1 := b1.keep hk2 (by omega)
    have b2 := b2.keep hk2 (by omega)
    have b3 := b3.keep hk2 (by omega)
    have b4 := b4.keep hk2 (by omega)
    have b5 := b5.keep hk2 (by omega)
    have b6 := b6.keep hk2 (by omega)
    have z2 := b2.lt
    have z3 := b3.lt
    have z4 := b4.lt
    have z5 := b5.lt
    have z6 := b6.lt
    have bP := row_keep1 bP (fun o => hk2.cell (by obtain ⟨_, _, e, hl, _⟩ := bP (by omega); cases e; exact Nat.lt_of_lt_of_le hl hkF.size) (by omega))
    refine ⟨?_, ?_, ?_, ?_, ?_, ?_, ?_, ?_, ⟨Nat.le_refl 4, by simp [maxLen]⟩, ⟨Nat.le_refl 4, by simp [maxLen]⟩, ⟨Nat.le_refl 2, by simp [maxLen]⟩, ?_, ⟨Nat.le_refl 5, by simp [maxLen]⟩⟩
    · exact blk_row b1 z1 (fun j hj => by
        match j, hj with
        | 0, _ => rfl
        | 1, _ => rfl
        | 2, _ => rfl
        | 3, _ => rfl)
    · exact blk_row b2 z2 (fun j hj => by
        match j, hj with
        | 0, _ => rfl
        | 1, _ => rfl
        | 2, _ => rfl
        | 3, _ => rfl)
    · exact blk_row b5 z5 (fun j hj => by
        match j, hj with
        | 0, _ => rfl
        | 1, _ => rfl
        | 2, _ => rfl
        | 3, _ => rfl
        | 4, _ => rfl
        | 5, _ => rfl
        | 6, _ => rfl
        | 7, _ => rfl)
    · simp only [lawF, List.length_cons]; rw [Nat.add_comm ps.length 1]; exact bP.more (Nat.le_trans hkF.size hzX)
    · exact blk_row b6 z6 (fun j hj => by
        match j, hj with
        | 0, _ => rfl
        | 1, _ => rfl
        | 2, _ => rfl
        | 3, _ => rfl
        | 4, _ => rfl
        | 5, _ => rfl
        | 6, _ => rfl
        | 7, _ => rfl
        | 8, _ => rfl
        | 9, _ => rfl
        | 10, _ => rfl
        | 11, _ => rfl
        | 12, _ => rfl
        | 13, _ => rfl
        | 14, _ => rfl)
    · intro j hj
      match j, hj with
      | 0, _ => exact blk_ints b3 z3 rfl (by simp [lawF, nth]) (fun j hj => by
          match j, hj with
          | 0, _ => rfl
          | 1, _ => rfl
          | 2, _ => rfl
          | 3, _ => rfl)
      | 1, _ => exact blk_ints b4 z4 rfl (by simp [lawF, nth]) (fun j hj => by
          match j, hj with
          | 0, _ => rfl
          | 1, _ => rfl)
    · intro j hj
      match j, hj with
      | 0, _ | 1, _ | 2, _ | 3, _ => simp [lawF, nth, maxLen, ByteArray.size]
    · intro j hj
      match j, hj with
      | 0, _ | 1, _ => simp [lawF, nth]
    · exact ⟨by simp only [lawF, List.length_cons]; omega, hP2⟩
set_option maxHeartbeats 800000 in
set_option maxRecDepth 100000 in
theorem bothF_any (w : World) : Calls Try.prog 15 #[] w fun e w' => ∃ fa, e = .returned (fileVal (lawF [⟨2, 0, 1⟩]) fa) ∧ FileV w' w'.heap.size (lawF [⟨2, 0, 1⟩]) fa ∧ Below w.heap.size w w' := by
  go_enter Try.func15, Try.ntmps15
  go_wp2_with fail
  have HB : Hid (Below w.heap.size w ((w.alloc (.cells #[.slice none 0 0, .slice none 0 0, .slice none 0 0, .slice none 0 0, .slice none 0 0] 28)).alloc (.cells #[.int .i64 2, .int .i64 0, .int .i64 1] 48))) := hide (((Below.refl _ _).alloc (Nat.le_refl _) _).alloc (by simp) _)
  have B0 : Hid (Blk ((w.alloc (.cells #[.slice none 0 0, .slice none 0 0, .slice none 0 0, .slice none 0 0, .slice none 0 0] 28)).alloc (.cells #[.int .i64 2, .int .i64 0, .int .i64 1] 48)) w.heap.size 28 #[.slice none 0 0, .slice none 0 0, .slice none 0 0, .slice none 0 0, .slice none 0 0]) := hide (Blk.made.alloc _)
  have B1 : Hid (Blk ((w.alloc (.cells #[.slice none 0 0, .slice none 0 0, .slice none 0 0, .slice none 0 0, .slice none 0 0] 28)).alloc (.cells #[.int .i64 2, .int .i64 0, .int .i64 1] 48)) (w.heap.size + 1) 48 #[.int .i64 2, .int .i64 0, .int .i64 1]) := hide (Blk.made' (by simp))
  generalize ((w.alloc (.cells #[.slice none 0 0, .slice none 0 0, .slice none 0 0, .slice none 0 0, .slice none 0 0] 28)).alloc (.cells #[.int .i64 2, .int .i64 0, .int .i64 1] 48)) = k1 at *
  have hz := B1.out.lt
  refine (file_any (ps := [⟨2, 0, 1⟩]) (blk_row B1.out hz (fun j hj => by
    match j, hj with
    | 0, _ => rfl
    | 1, _ => rfl
    | 2, _ => rfl)) (Nat.le_refl _) (by simp)).mono ?_
  rintro e k2 ⟨fa, rfl, hF, hb⟩
  have hB2 := HB.out.trans (hb.mono HB.out.size)
  have b0 := B0.out.next hb
  have c0 := b0.at_ 0
  have c1 := b0.at_ 1
  have c2 := b0.at_ 2
  have c3 := b0.at_ 3
  have c4 := b0.at_ 4
  have f0 := b0.free 0
  have f1 := b0.free 1
  have f2 := b0.free 2
  have f3 := b0.free 3
  have f4 := b0.free 4
  simp only [List.getElem?_toArray, List.getElem?_cons_succ, List.getElem?_cons_zero] at c0 c1 c2 c3 c4
  have HF := hide hF
  have H2 := hide hB2
  have H0 := hide b0
  have HBB := hide (hb.block)
  have hzz := hb.size
  have hz0 := b0.lt
  clear hF hB2 b0 hb
  generalize hFD : lawF [⟨2, 0, 1⟩] = f at *
  have HFD := hide hFD
  clear hFD
  have hz1 := HB.out.size
  go_wp2_with fail
  have hkS : Keep (fun q => q = w.heap.size) k2 (((((k2.setCell ⟨w.heap.size, 0, none⟩ (.slice fa.A1 f.parties.length fa.c1)).setCell ⟨w.heap.size, 1, none⟩ (.slice fa.A2 f.untils.length fa.c2)).setCell ⟨w.heap.size, 2, none⟩ (.slice fa.A3 f.lots.length fa.c3)).setCell ⟨w.heap.size, 3, none⟩ (.slice fa.A4 f.papers.length fa.c4)).setCell ⟨w.heap.size, 4, none⟩ (.slice fa.A5 f.claims.length fa.c5)) := ((((Keep.setCell _ _ _ (fun q => q = w.heap.size) rfl).trans (Keep.setCell _ _ _ (fun q => q = w.heap.size) rfl)).trans (Keep.setCell _ _ _ (fun q => q = w.heap.size) rfl)).trans (Keep.setCell _ _ _ (fun q => q = w.heap.size) rfl)).trans (Keep.setCell _ _ _ (fun q => q = w.heap.size) rfl)
  have b0 : Blk (((((k2.setCell ⟨w.heap.size, 0, none⟩ (.slice fa.A1 f.parties.length fa.c1)).setCell ⟨w.heap.size, 1, none⟩ (.slice fa.A2 f.untils.length fa.c2)).setCell ⟨w.heap.size, 2, none⟩ (.slice fa.A3 f.lots.length fa.c3)).setCell ⟨w.heap.size, 3, none⟩ (.slice fa.A4 f.papers.length fa.c4)).setCell ⟨w.heap.size, 4, none⟩ (.slice fa.A5 f.claims.length fa.c5)) w.heap.size 28 (fileCells f fa) := ((((H0.out.store 0 _).store 1 _).store 2 _).store 3 _).store 4 _
  have hBF := H2.out.trans (hkS.below (B := w.heap.size) (fun k h => by omega) (by omega))
  generalize (((((k2.setCell ⟨w.heap.size, 0, none⟩ (.slice fa.A1 f.parties.length fa.c1)).setCell ⟨w.heap.size, 1, none⟩ (.slice fa.A2 f.untils.length fa.c2)).setCell ⟨w.heap.size, 2, none⟩ (.slice fa.A3 f.lots.length fa.c3)).setCell ⟨w.heap.size, 3, none⟩ (.slice fa.A4 f.papers.length fa.c4)).setCell ⟨w.heap.size, 4, none⟩ (.slice fa.A5 f.claims.length fa.c5)) = X at *
  have g0 := b0.at_ 0
  have g1 := b0.at_ 1
  have g2 := b0.at_ 2
  have g3 := b0.at_ 3
  have g4 := b0.at_ 4
  simp only [fileCells, List.getElem?_toArray, List.getElem?_cons_succ, List.getElem?_cons_zero] at g0 g1 g2 g3 g4
  refine bodyPost_ret (v := fileVal f fa) ?_ rfl ⟨fa, by rw [HFD.out], by rw [HFD.out]; exact HF.out _ (hkS.mono (fun q _ e => by omega)), hBF⟩
  simp [results, Try.results15, go_sem, g0, g1, g2, g3, g4]
set_option maxHeartbeats 800000 in
set_option maxRecDepth 100000 in
theorem wrongF_any (w : World) : Calls Try.prog 56 #[] w fun e w' => ∃ fa, e = .returned (fileVal (lawF [⟨1, 0, 1⟩]) fa) ∧ FileV w' w'.heap.size (lawF [⟨1, 0, 1⟩]) fa ∧ Below w.heap.size w w' := by
  go_enter Try.func56, Try.ntmps56
  go_wp2_with fail
  have HB : Hid (Below w.heap.size w ((w.alloc (.cells #[.slice none 0 0, .slice none 0 0, .slice none 0 0, .slice none 0 0, .slice none 0 0] 28)).alloc (.cells #[.int .i64 1, .int .i64 0, .int .i64 1] 48))) := hide (((Below.refl _ _).alloc (Nat.le_refl _) _).alloc (by simp) _)
  have B0 : Hid (Blk ((w.alloc (.cells #[.slice none 0 0, .slice none 0 0, .slice none 0 0, .slice none 0 0, .slice none 0 0] 28)).alloc (.cells #[.int .i64 1, .int .i64 0, .int .i64 1] 48)) w.heap.size 28 #[.slice none 0 0, .slice none 0 0, .slice none 0 0, .slice none 0 0, .slice none 0 0]) := hide (Blk.made.alloc _)
  have B1 : Hid (Blk ((w.alloc (.cells #[.slice none 0 0, .slice none 0 0, .slice none 0 0, .slice none 0 0, .slice none 0 0] 28)).alloc (.cells #[.int .i64 1, .int .i64 0, .int .i64 1] 48)) (w.heap.size + 1) 48 #[.int .i64 1, .int .i64 0, .int .i64 1]) := hide (Blk.made' (by simp))
  generalize ((w.alloc (.cells #[.slice none 0 0, .slice none 0 0, .slice none 0 0, .slice none 0 0, .slice none 0 0] 28)).alloc (.cells #[.int .i64 1, .int .i64 0, .int .i64 1] 48)) = k1 at *
  have hz := B1.out.lt
  refine (file_any (ps := [⟨1, 0, 1⟩]) (blk_row B1.out hz (fun j hj => by
    match j, hj with
    | 0, _ => rfl
    | 1, _ => rfl
    | 2, _ => rfl)) (Nat.le_refl _) (by simp)).mono ?_
  rintro e k2 ⟨fa, rfl, hF, hb⟩
  have hB2 := HB.out.trans (hb.mono HB.out.size)
  have b0 := B0.out.next hb
  have c0 := b0.at_ 0
  have c1 := b0.at_ 1
  have c2 := b0.at_ 2
  have c3 := b0.at_ 3
  have c4 := b0.at_ 4
  have f0 := b0.free 0
  have f1 := b0.free 1
  have f2 := b0.free 2
  have f3 := b0.free 3
  have f4 := b0.free 4
  simp only [List.getElem?_toArray, List.getElem?_cons_succ, List.getElem?_cons_zero] at c0 c1 c2 c3 c4
  have HF := hide hF
  have H2 := hide hB2
  have H0 := hide b0
  have HBB := hide (hb.block)
  have hzz := hb.size
  have hz0 := b0.lt
  clear hF hB2 b0 hb
  generalize hFD : lawF [⟨1, 0, 1⟩] = f at *
  have HFD := hide hFD
  clear hFD
  have hz1 := HB.out.size
  go_wp2_with fail
  have hkS : Keep (fun q => q = w.heap.size) k2 (((((k2.setCell ⟨w.heap.size, 0, none⟩ (.slice fa.A1 f.parties.length fa.c1)).setCell ⟨w.heap.size, 1, none⟩ (.slice fa.A2 f.untils.length fa.c2)).setCell ⟨w.heap.size, 2, none⟩ (.slice fa.A3 f.lots.length fa.c3)).setCell ⟨w.heap.size, 3, none⟩ (.slice fa.A4 f.papers.length fa.c4)).setCell ⟨w.heap.size, 4, none⟩ (.slice fa.A5 f.claims.length fa.c5)) := ((((Keep.setCell _ _ _ (fun q => q = w.heap.size) rfl).trans (Keep.setCell _ _ _ (fun q => q = w.heap.size) rfl)).trans (Keep.setCell _ _ _ (fun q => q = w.heap.size) rfl)).trans (Keep.setCell _ _ _ (fun q => q = w.heap.size) rfl)).trans (Keep.setCell _ _ _ (fun q => q = w.heap.size) rfl)
  have b0 : Blk (((((k2.setCell ⟨w.heap.size, 0, none⟩ (.slice fa.A1 f.parties.length fa.c1)).setCell ⟨w.heap.size, 1, none⟩ (.slice fa.A2 f.untils.length fa.c2)).setCell ⟨w.heap.size, 2, none⟩ (.slice fa.A3 f.lots.length fa.c3)).setCell ⟨w.heap.size, 3, none⟩ (.slice fa.A4 f.papers.length fa.c4)).setCell ⟨w.heap.size, 4, none⟩ (.slice fa.A5 f.claims.length fa.c5)) w.heap.size 28 (fileCells f fa) := ((((H0.out.store 0 _).store 1 _).store 2 _).store 3 _).store 4 _
  have hBF := H2.out.trans (hkS.below (B := w.heap.size) (fun k h => by omega) (by omega))
  generalize (((((k2.setCell ⟨w.heap.size, 0, none⟩ (.slice fa.A1 f.parties.length fa.c1)).setCell ⟨w.heap.size, 1, none⟩ (.slice fa.A2 f.untils.length fa.c2)).setCell ⟨w.heap.size, 2, none⟩ (.slice fa.A3 f.lots.length fa.c3)).setCell ⟨w.heap.size, 3, none⟩ (.slice fa.A4 f.papers.length fa.c4)).setCell ⟨w.heap.size, 4, none⟩ (.slice fa.A5 f.claims.length fa.c5)) = X at *
  have g0 := b0.at_ 0
  have g1 := b0.at_ 1
  have g2 := b0.at_ 2
  have g3 := b0.at_ 3
  have g4 := b0.at_ 4
  simp only [fileCells, List.getElem?_toArray, List.getElem?_cons_succ, List.getElem?_cons_zero] at g0 g1 g2 g3 g4
  refine bodyPost_ret (v := fileVal f fa) ?_ rfl ⟨fa, by rw [HFD.out], by rw [HFD.out]; exact HF.out _ (hkS.mono (fun q _ e => by omega)), hBF⟩
  simp [results, Try.results56, go_sem, g0, g1, g2, g3, g4]
end Go.Proofs.Ytllmahcanipcpaa
