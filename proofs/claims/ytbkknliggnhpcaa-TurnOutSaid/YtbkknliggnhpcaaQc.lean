/- The plain law of TurnOut: without the lots of Out all others last; without fewer some may not. -/
import Derived.Test.YtbkknliggnhpcaaQa
import Derived.Test.YtbkknliggnhpcaaPi
set_option linter.unusedVariables false
set_option linter.unusedSimpArgs false
namespace Go.Proofs.Ytbkknliggnhpcaa

/-- The lots of a hold that bits name. -/
def ownB (L : List Nat) (b : Int) (j : Nat) : List Int := ((List.range j).filter fun i => bitB i b).map fun i => ((nth L i : Nat) : Int)
theorem ownB_succ (L : List Nat) (b : Int) (j : Nat) : ownB L b (j + 1) = ownB L b j ++ if bitB j b then [((nth L j : Nat) : Int)] else [] := by
  simp only [ownB, List.range_succ, List.filter_append, List.filter_cons, List.filter_nil, List.map_append]
  cases bitB j b <;> rfl
theorem ownB_le (L : List Nat) (b : Int) (j : Nat) : (ownB L b j).length ≤ j := by
  have := List.length_filter_le (fun i => bitB i b) (List.range j)
  simpa [ownB] using this
def ownFact : Bool := (List.range 5).all fun n => (List.range (2 ^ n)).all fun a => (List.range 16).all fun b =>
  (List.range (2 ^ n)).any fun t => ownB (listN a n) b (listN a n).length == natInts (listN t n) && ((t &&& (31 - a)) == 0)
theorem ownFact_true : ownFact = true := by kernel_rfl
def modFact : Bool := (List.range 256).all fun b => (List.range 4).all fun i => bitB i (b : Nat) == bitB i ((b % 16 : Nat) : Int)
theorem modFact_true : modFact = true := by kernel_rfl
theorem ownB_list {n a : Nat} (hn : n ≤ 4) (ha : a < 2 ^ n) {b : Int} (h0 : 0 ≤ b) (hb : b ≤ 255) : ∃ t, t < 2 ^ n ∧ ownB (listN a n) b (listN a n).length = natInts (listN t n) ∧ ((t &&& (31 - a)) == 0) = true := by
  have hle := listN_le a n
  have hm := modFact_true
  rw [modFact, List.all_eq_true] at hm
  have hm1 := hm b.toNat (List.mem_range.2 (by omega))
  rw [List.all_eq_true] at hm1
  have e : ownB (listN a n) b (listN a n).length = ownB (listN a n) ((b.toNat % 16 : Nat) : Int) (listN a n).length := by
    rw [ownB, ownB]
    congr 1
    refine List.filter_congr fun i hi => ?_
    have := hm1 i (List.mem_range.2 (by have := List.mem_range.1 hi; omega))
    rw [beq_iff_eq] at this
    rw [← this, Int.toNat_of_nonneg h0]
  have h := ownFact_true
  rw [ownFact, List.all_eq_true] at h
  have h1 := h n (List.mem_range.2 (by omega))
  rw [List.all_eq_true] at h1
  have h2 := h1 a (List.mem_range.2 ha)
  rw [List.all_eq_true] at h2
  have h3 := h2 (b.toNat % 16) (List.mem_range.2 (Nat.mod_lt _ (by omega)))
  rw [List.any_eq_true] at h3
  obtain ⟨t, ht, h4⟩ := h3
  rw [Bool.and_eq_true, beq_iff_eq] at h4
  exact ⟨t, List.mem_range.1 ht, by rw [e]; exact h4.1, h4.2⟩
theorem mem_of_sub {c : Cargo} (hn : c.lots.length ≤ 4) {hd s : Nat} (hs : s < 2 ^ c.lots.length) (h : ((s &&& (31 - ofB c (hd : Int) c.lots.length)) == 0) = true) {q : Nat} (hq : q ∈ listN s c.lots.length) : q ∈ ofL c hd [] := by
  have h16 : 2 ^ c.lots.length ≤ 16 := Nat.pow_le_pow_right (by omega) hn
  have ha := ofB_lt c (hd : Int) c.lots.length
  rw [sub_zero (by omega) (by omega), List.all_eq_true] at h
  rw [listN, List.mem_filter, List.mem_range] at hq
  have h1 := h q (List.mem_range.2 (by omega))
  have hb : s.testBit q = true := by simpa using hq.2
  rw [hb] at h1
  rw [ofL_listN c hd hn, listN, List.mem_filter, List.mem_range]
  exact ⟨hq.1, by simpa using h1⟩
/-- The way that made the looks stays one. -/
theorem wayX_told (c : Cargo) (l : List Int) (h : Nat) : wayX (toldC c l) l h = wayX c l h := rfl
theorem outE_ok {c : Cargo} (hv : Valid c) (hs : someM c [] = true) {hd : Nat} (h : hd < c.holds.length) {un : Int} (hu : 0 ≤ un ∧ un ≤ c.heat.length) : outE7 c hd un = 0 := by
  have h1 : indexE c hd c.holds.length = 0 := by rw [indexE, if_pos (valid_check hv), offP_ok (by omega)]; rfl
  have h2 : hourE c un 0 = 0 := by rw [hourE, if_neg (fun h' => by rw [offP_ok hu] at h'; simp at h')]
  rw [outE7, h1, h2, truthE, if_neg (fun h' => by rw [hs] at h'; simp at h')]
structure OutAt (z : Cargo) (l : List Int) (hd : Nat) (un b : Int) : Prop where
  err : (outV z hd un).2 = 0
  rising : risingB (natInts (outV z hd un).1) (-1) z.lots.length = true
  own : ∀ j, j < (outV z hd un).1.length → hasInt (natInts (ofL z hd [])) (nth (natInts (outV z hd un).1) j) = true
  green : ∀ i, i < z.lots.length → (nth z.lots i).hold = hd → (nth z.lots i).frm ≤ un → un < nth (trulyM z l (natInts (outV z hd un).1)) i
  lasts : lastsR z hd un (natInts (outV z hd un).1) = true
  fewer : fewerB (ownB (ofL z hd []) b (ofL z hd []).length) (natInts (outV z hd un).1) = true → lastsR z hd un (ownB (ofL z hd []) b (ofL z hd []).length) = false
theorem holdT_way {c : Cargo} (hv : Valid c) (l ox : List Int) (hd : Nat) : timesM c (ofL c hd ox) (wayX c l hd).1 (wayX c l hd).2 = holdT c l ox hd := by
  rw [holdT]
  refine timesM_congr_in (fun i hi => ?_) (fun i hi => ?_) (fun i hi => ?_)
  · have := ofL_lt i hi; simpa [wayX] using this
  · rw [greensX_length]; exact ofL_lt i hi
  · have h1 := ofL_lt i hi
    have h2 := ofL_mem (c := c) (hold := (hd : Int)) (but := ox) (i := i)
    rw [List.contains_iff_mem.2 hi] at h2
    have h3 : (nth c.lots i).hold = hd := by
      have := h2.symm
      simp only [Bool.and_eq_true, beq_iff_eq] at this
      exact this.2.1
    rw [wayX, greensX]
    simp only
    rw [nth_map_range _ h1, nth_map_range _ h1, if_pos h3]
theorem out_at {c : Cargo} {l : List Int} (hv0 : Valid c) {hd : Nat} (hh : hd < c.holds.length) {un : Int} (hu : 0 ≤ un ∧ un ≤ c.heat.length) {b : Int} (hb0 : 0 ≤ b) (hb1 : b ≤ 255) : OutAt (toldC c l) l hd un b := by
  have hv := toldC_valid (l := l) hv0
  have hs := told_some (l := l) hv0
  have hw : wayX (toldC c l) l hd ∈ waysM (toldC c l) hd [] := wayX_ways hv0 hh
  have hh' : hd < (toldC c l).holds.length := hh
  have hu' : 0 ≤ un ∧ un ≤ (toldC c l).heat.length := hu
  generalize toldC c l = z at *
  have hn := hv.lots
  have h16 : 2 ^ z.lots.length ≤ 16 := Nat.pow_le_pow_right (by omega) hn
  have ha := ofB_lt z (hd : Int) z.lots.length
  have hE := outE_ok hv hs hh' hu'
  have hans := fun t (ht : t < 2 ^ z.lots.length) => outDo_eq hv hh' (s := t) (by omega) un
  have hL := ofL_listN z (hd : Int) hn
  have hV : outV z hd un = ((fwTo z.lots.length (outDo z un (ofB z hd z.lots.length) hd) (2 ^ z.lots.length)).getD [], 0) := by
    rw [outV, outE_eq, hE, if_neg (by simp), Int.toNat_natCast]
  have hl := fwTo_least (ans := outDo z un (ofB z (hd : Int) z.lots.length) hd) hn (2 ^ z.lots.length) (Nat.le_refl _)
  have ha2 : outDo z un (ofB z (hd : Int) z.lots.length) hd (ofB z (hd : Int) z.lots.length) = true := by
    rw [hans _ ha, ← hL, lasts_all z hd un, Bool.and_true]
    have : ∀ a : Fin 16, (((a : Nat) &&& (31 - (a : Nat))) == 0) = true := of_decide_eq_true (by kernel_rfl)
    exact this ⟨_, by omega⟩
  cases ho : fwTo z.lots.length (outDo z un (ofB z (hd : Int) z.lots.length) hd) (2 ^ z.lots.length) with
  | none => rw [ho] at hl; have := hl _ ha; rw [ha2] at this; cases this
  | some r =>
    rw [ho] at hl hV
    obtain ⟨s, hs2, hsa, rfl, hm⟩ := hl
    rw [hans s hs2, Bool.and_eq_true] at hsa
    have hV1 : (outV z hd un).1 = listN s z.lots.length := by rw [hV]; rfl
    have hlast : lastsR z hd un (natInts (listN s z.lots.length)) = true := hsa.2
    refine ⟨by rw [hV], ?_, fun j hj => ?_, fun i hi h1 h2 => ?_, by rw [hV1]; exact hlast, fun hf => ?_⟩
    · rw [hV1]; exact (ri_both hn (by omega)).1
    · rw [hV1] at hj ⊢
      have hq := mem_of_sub hn hs2 hsa.1 (q := nth (listN s z.lots.length) j) (by rw [nth_eq hj]; exact List.getElem_mem hj)
      rw [nth_natInts hj, hasInt, List.any_eq_true]
      exact ⟨_, List.mem_map.2 ⟨_, hq, rfl⟩, by simp⟩
    · rw [hV1]
      have hT : nth (trulyM z l (natInts (listN s z.lots.length))) i = nth (holdT z l (natInts (listN s z.lots.length)) hd) i := by
        rw [trulyM, trulyTo, nth_map_range _ hi, h1, if_pos (by omega), Int.toNat_natCast]
      rw [hT]
      by_cases hm2 : i ∈ ofL z hd (natInts (listN s z.lots.length))
      · rw [lastsR, List.all_eq_true] at hlast
        have h3 := hlast _ hw
        rw [List.all_eq_true] at h3
        have h4 := h3 i hm2
        rw [holdT_way hv, lastB, Bool.or_eq_true, decide_eq_true_eq, decide_eq_true_eq] at h4
        rcases h4 with h4 | h4
        · omega
        · exact h4
      · have hc : (ofL z (hd : Int) (natInts (listN s z.lots.length))).contains i = false := by simpa using hm2
        rw [holdT, timesM_out hc hi]; omega
    · rw [hV1] at hf
      obtain ⟨t, ht, e1, e2⟩ := ownB_list hn ha hb0 hb1
      rw [← hL] at e1
      rw [e1] at hf ⊢
      cases hlt : lastsR z hd un (natInts (listN t z.lots.length)) with
      | false => rfl
      | true =>
        have := hm t ht (by rw [hans t ht, e2, hlt]; rfl)
        rw [(rk_both hn ht hs2).2] at hf
        simp at hf
        omega
end Go.Proofs.Ytbkknliggnhpcaa
