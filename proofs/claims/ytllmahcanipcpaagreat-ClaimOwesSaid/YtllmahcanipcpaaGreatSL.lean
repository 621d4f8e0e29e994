/- The contract of the reference's Held. -/
import Derived.Test.YtllmahcanipcpaaGreatSK
import Derived.OwnWalkIn
import Derived.TacticsInMore
import Derived.Deep.DeepCutAuto
set_option linter.unusedVariables false
set_option linter.unusedSimpArgs false
namespace Go.Proofs.YtllmahcanipcpaaGreat
open Go.RowKit
attribute [local go_sem ↓] Go.wp_at_zero Go.wp_at_succ
attribute [local go_sem] Oper.semAt_some

def heldTo (f : File) (T : List (List Int)) (j : Nat) : List Nat := (List.range j).filter fun n => toldM f n T == 0
def heldR (f : File) : List Nat × Int := if errK f (checkM f).2.2 = 0 then (heldTo f (truthsM f []) f.claims.length, 0) else ([], errK f (checkM f).2.2)
theorem heldTo_succ (f : File) (T : List (List Int)) (j : Nat) : heldTo f T (j + 1) = heldTo f T j ++ if toldM f j T == 0 then [j] else [] := by
  simp only [heldTo, List.range_succ, List.filter_append, List.filter_cons, List.filter_nil]
theorem heldTo_le (f : File) (T : List (List Int)) (j : Nat) : (heldTo f T j).length ≤ j := by
  have := List.length_filter_le (fun n : Nat => toldM f n T == 0) (List.range j)
  simpa [heldTo] using this
set_option maxHeartbeats 4000000 in
set_option maxRecDepth 100000 in
theorem held7_any {f : File} {fa : FA} {w : World} (h : FileV w w.heap.size f fa) :
    Calls Tryz.prog 14 #[fileVal f fa] w fun e w' => ∃ A c, e = .returned (.tuple #[.slice A (heldR f).1.length c, .int .i64 (heldR f).2]) ∧ IntsS w' w'.heap.size A (heldR f).1.length c (natInts (heldR f).1) ∧ Below w.heap.size w w' := by
  obtain ⟨i0, hi, hz0, hz1, hz2'⟩ := info_parts Tryz.infoInt
  have HBX0 := hide (BoxF.made h)
  have HB0 : Hid (Below w.heap.size w (w.alloc (.cells (fileCells f fa) 28))) := hide ((Below.refl _ _).alloc (Nat.le_refl _) _)
  clear h
  go_enter Tryz.func14, Tryz.ntmps14
  go_upto_region 1 with (fail)
  generalize (w.alloc (.cells (fileCells f fa) 28)) = w0 at *
  obtain ⟨hz, e1, e2, e3, e4, e5⟩ := HBX0.out.cells
  go_upto_region 2 with (go_at_call 51; refine (check7_any HBX0.out.v).mono ?_; rintro e y1 ⟨rfl, hb⟩)
  have HBX1 := hide (HBX0.out.next hb)
  have HB1 := hide (HB0.out.trans (hb.mono HB0.out.size))
  clear hb hz e1 e2 e3 e4 e5
  obtain ⟨hz, e1, e2, e3, e4, e5⟩ := HBX1.out.cells
  go_upto_region 3 with (go_at_call 47; refine (known7_any HBX1.out.v _ valid_of).mono ?_; rintro e y2 ⟨AT, cT, rfl, hL, hb⟩)
  have HBX2 := hide (HBX1.out.next hb)
  have HB2 := hide (HB1.out.trans (hb.mono HB1.out.size))
  have HL2 := hide hL
  clear hb hL hz e1 e2 e3 e4 e5
  have HX := hide (show heldR f = if errK f (checkM f).2.2 = 0 then (heldTo f (truthsM f []) f.claims.length, 0) else ([], errK f (checkM f).2.2) from rfl)
  have HEI := hide (fun (hh : (checkM f).2.2 = 0) => valid_of hh)
  have HEK := hide (fun (hh : errK f (checkM f).2.2 = 0) => errK_zero hh)
  generalize hID : errK f (checkM f).2.2 = er at *
  generalize lstK f (checkM f).2.2 = T at *
  clear hID
  cases he : (er != 0) with
  | true =>
    have hne : ¬ er = 0 := by simpa using he
    have HY := hide (show heldR f = ([], er) by rw [HX.out, if_neg hne])
    clear hne
    go_wp2_with fail
    go_ret2
    rw [HY.out]
    exact ⟨_, _, rfl, IntsS.nil_, HB2.out⟩
  | false =>
    have hz' : er = 0 := by simpa using he
    obtain ⟨hE0, hTM, hT0⟩ := HEK.out hz'
    have hv := HEI.out hE0
    subst hTM
    have HY := hide (show heldR f = (heldTo f (truthsM f []) f.claims.length, 0) by rw [HX.out, if_pos hz'])
    subst hz'
    have HTL := hide (fun (W : World) (hF : FileV W W.heap.size f fa) (hL : ListsS W W.heap.size AT (truthsM f []).length cT (truthsM f [])) (n : Nat) (hn : n < f.claims.length) => told7_any hF hv hL (fun g hg => truthsM_pl hv hg) (truthsM_256 hv []) hn)
    have HSU := hide (heldTo_succ f (truthsM f []))
    have HLE := hide (heldTo_le f (truthsM f []))
    have hcl := hv.claims
    have HW0 := hide (show heldTo f (truthsM f []) 0 = [] from rfl)
    clear hE0 hv hT0 HX HEI HEK
    generalize truthsM f [] = T at *
    go_wp2_with fail
    go_loopw [8, 9] (fun v8 v9 wr => ∃ n : Nat, n ≤ f.claims.length ∧ v9 = .int .i64 n ∧ Below y2.heap.size y2 wr ∧ wr.ownsRow y2.heap.size 3 1 v8 (heldTo f T n).length ((heldTo f T n).map fun n : Nat => .int .i64 n)) (fun _ v9 _ => f.claims.length - (intOf v9).toNat)
    case atStart => exact ⟨0, Nat.zero_le _, rfl, Below.refl _ _, by rw [HW0.out]; exact World.ownsRow_nil _ _ _ _⟩
    case round =>
      obtain ⟨n, hn', rfl, hB, hown⟩ := hrel
      have hn0 : (0 : Int) ≤ (n : Int) := Int.natCast_nonneg _
      have HBXa := hide (HBX2.out.next hB)
      obtain ⟨hz, e1, e2, e3, e4, e5⟩ := HBXa.out.cells
      have hza := hB.size
      by_cases hlt : n < f.claims.length
      · have hn1 : (n : Int) < (f.claims.length : Int) := by omega
        have HS := hide (HSU.out n)
        have hle := HLE.out n
        have hct := HTL.out wr HBXa.out.v (HL2.out.next hB) n hlt
        generalize toldM f n T = tm at *
        cases ht : (tm == 0) with
        | true =>
          have HS2 := hide (show heldTo f T (n + 1) = heldTo f T n ++ [n] by rw [HS.out, ht]; rfl)
          have ht0 : tm = 0 := by simpa using ht
          subst ht0
          clear ht
          go_wp2_with (first
            | (go_at_call 49; refine hct.mono ?_; rintro e w3 ⟨rfl, hb3⟩; have hown3 := own_below hown hb3; have hB3 := hB.trans (hb3.mono hza); have hsz3 := hB3.size)
            | (at_builtin
               refine wpList_append_own _ rfl _ _ 23 rfl y2.heap.size 3 i0 (.int .i64 0) 1 8 Tryz.underlying23 hi hz0 hz1 hz2' rfl (by decide) _ _ _ rfl (hown3.alloc _) ⟨w3.heap.size, 0, none⟩ 1 1 [.int .i64 n] rfl rfl ?c1 ?c2 ?c3 ?c4 ?c5 ?_
               case c1 => exact cell_one_new _ _ _
               case c2 => simp [Value.oneCell']
               case c3 => simp [maxLen]; omega
               case c4 => omega
               case c5 => simp; omega
               intro v' w4 hown' hg _
               have hb4 := app_below hsz3 hown3 hg
               clear hg))
          go_roundw
          case rel => exact ⟨n + 1, by omega, by go_num, hB3.trans hb4, by rw [HS2.out]; simpa using hown'⟩
          case measure => simp [intOf]; omega
        | false =>
          have HS2 := hide (show heldTo f T (n + 1) = heldTo f T n by rw [HS.out, ht]; simp)
          go_wp2_with (go_at_call 49; refine hct.mono ?_; rintro e w3 ⟨rfl, hb3⟩)
          go_roundw
          case rel => exact ⟨n + 1, by omega, by go_num, hB.trans (hb3.mono hza), by rw [HS2.out]; exact own_below hown hb3⟩
          case measure => simp [intOf]; omega
      · have hpp : n = f.claims.length := by omega
        rw [hpp] at hown
        clear hpp
        obtain ⟨A', c', rfl, hs⟩ := IntsS.of_own (xs := natInts (heldTo f T f.claims.length)) (by rw [natInts_vals]; exact hown)
        go_wp2
        go_ret2
        rw [HY.out]
        exact ret_lst rfl hs (HB2.out.trans (hB.mono HB2.out.size))
end Go.Proofs.YtllmahcanipcpaaGreat
