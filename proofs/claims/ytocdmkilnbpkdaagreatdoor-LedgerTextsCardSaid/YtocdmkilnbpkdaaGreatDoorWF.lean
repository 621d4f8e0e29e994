/- The reader's map of steps; (*reader).step; slices.Clip; what a reader has in memory. -/
import Derived.Test.YtocdmkilnbpkdaaGreatDoorWB
import Derived.Test.YtocdmkilnbpkdaaGreatDoorZVP
import Derived.Test.YtocdmkilnbpkdaaGreatDoorZQ
import Derived.OwnWalkIn
import Derived.Laws.EntriesVeiled
import Derived.Maps.OwnOps
import Derived.Maps.Keyed
import Derived.ArgAppend
import Derived.TacticsInMore
import Derived.Deep.DeepCutAuto
set_option linter.unusedVariables false
set_option linter.unusedSimpArgs false
namespace Go.Proofs.YtocdmkilnbpkdaaGreatDoor
open Go.RowKit
attribute [local go_sem] Oper.semAt_some

theorem Tryz.keyedStr : Maps.Keyed Tryz.prog 9 := Maps.string_keyed Tryz.underlying9
theorem key_str {k : ByteArray} (hk : k.size ≤ maxLen) : ∃ l, keyOf Tryz.prog 9 (.string k) = some l := by
 have hu := Tryz.underlying9
 exact ⟨_, by unfold keyOf; rw [hu]; simp only [mapKey, hu]; exact if_pos hk⟩
theorem run_zeroInt (w : World) : (zeroValue 3).run Tryz.prog w = .ok (.int .i64 0) w := by kernel_rfl
/-- Block b is a map of just what f says. -/
def StrMap (w : World) (b : Nat) (f : ByteArray → Option Nat) : Prop :=
 ∃ es clock, w.heap[b]? = some (.map es clock) ∧ (∀ e ∈ es.toList, ∃ k n, e.key = .string k ∧ f k = some n ∧ e.val = .int .i64 (n : Nat) ∧ k.size ≤ maxLen) ∧ (∀ k n, f k = some n → ∃ e ∈ es.toList, e.key = .string k) ∧ (es.toList.map (·.key)).Nodup
section
variable {w w' : World} {b : Nat} {f : ByteArray → Option Nat}
theorem StrMap.lt (h : StrMap w b f) : b < w.heap.size := by
 obtain ⟨es, c, hb, _⟩ := h
 exact (Array.getElem?_eq_some_iff.1 hb).1
theorem StrMap.block (h : StrMap w b f) (hk : w'.heap[b]? = w.heap[b]?) : StrMap w' b f := by
 obtain ⟨es, c, hb, he⟩ := h
 exact ⟨es, c, hk.trans hb, he⟩
theorem StrMap.ext {g : ByteArray → Option Nat} (h : StrMap w b f) (e : ∀ k, f k = g k) : StrMap w b g := by
 rw [show g = f from funext fun k => (e k).symm]; exact h
theorem strMap_made (w : World) : StrMap (w.alloc (.map #[] 0)) w.heap.size (fun _ => none) := ⟨#[], 0, (MapKept.heap_alloc w _).1, by simp, (fun _ _ h => by cases h), by simp⟩
theorem str_entries {es : Array MapEntry} (he : ∀ e ∈ es.toList, ∃ k n, e.key = .string k ∧ f k = some n ∧ e.val = .int .i64 (n : Nat) ∧ k.size ≤ maxLen) : ∀ e ∈ es.toList, ∃ l, keyOf Tryz.prog 9 e.key = some l := fun e hm => by
 obtain ⟨k, n, h1, _, _, hk⟩ := he e hm
 rw [h1]
 exact key_str hk
/-- What a lookup finds. -/
def lookT (o : Option Nat) : Value := match o with | some n => .tuple #[.int .i64 (n : Nat), .bool true] | none => .tuple #[.int .i64 0, .bool false]
theorem StrMap.look (h : StrMap w b f) (k : ByteArray) (hks : k.size ≤ maxLen) : (Instr.lookup 111 (.map (some b)) (.string k) true).run Tryz.prog w = .ok (lookT (f k)) w := by
 obtain ⟨es, c, hb, he, hall, hnd⟩ := h
 obtain ⟨kl, hkl⟩ := key_str hks
 have K := Tryz.keyedStr
 have hck := K.check w es.isEmpty hkl
 rcases K.find w hkl es.toList (str_entries he) with ⟨h1, h2⟩ | ⟨j, e, h1, h2, h3⟩
 · have hn : f k = none := by
    cases hf : f k with
    | none => rfl
    | some n => obtain ⟨e, hm, hk⟩ := hall k n hf; exact absurd hk (h2 e hm)
   rw [hn, lookT]
   simp [Instr.lookup, run_underlying Tryz.underlying111, MapKept.run_getObj_map hb, hck, h1, run_zeroInt, Result.andThen]
 · obtain ⟨k', n, g1, g2, g3, g4⟩ := he e (List.mem_of_getElem? h2)
   have hkk : k' = k := by rw [g1] at h3; simpa using h3
   subst hkk
   rw [g2, lookT]
   simp [Instr.lookup, run_underlying Tryz.underlying111, MapKept.run_getObj_map hb, hck, h1, g3, Result.andThen]
theorem StrMap.store (h : StrMap w b f) (k : ByteArray) (n : Nat) (hks : k.size ≤ maxLen) : ∃ w', (Instr.mapUpdate 111 (.map (some b)) (.string k) (.int .i64 (n : Nat))).run Tryz.prog w = .ok () w' ∧ StrMap w' b (fun x => if k = x then some n else f x) ∧ w.grownBy w' (some b) := by
 obtain ⟨es, c, hb, he, hall, hnd⟩ := h
 obtain ⟨kl, hkl⟩ := key_str hks
 have K := Tryz.keyedStr
 have hck := K.check w false hkl
 rcases K.find w hkl es.toList (str_entries he) with ⟨h1, h2⟩ | ⟨j, e, h1, h2, h3⟩
 · refine ⟨ChangeMaps.setBlock w b (.map (es.push { key := .string k, val := .int .i64 (n : Nat), born := c }) (c + 1)), ?_, ⟨_, _, ChangeMaps.heap_setBlock_same hb _, ?_, ?_, ?_⟩, ⟨rfl, rfl, rfl, by simp [ChangeMaps.setBlock], fun i _ hi => ChangeMaps.heap_setBlock_other hb _ (fun e => hi (by rw [e]))⟩⟩
   · simp [Instr.mapUpdate, run_underlying Tryz.underlying111, MapKept.run_getObj_map hb, MapKept.run_setObj_map _ hb, hck, h1, ChangeMaps.setBlock, Result.andThen]
   · intro e hm
     simp only [Array.toList_push, List.mem_append, List.mem_singleton] at hm
     rcases hm with hm | rfl
     · obtain ⟨k', m, g1, g2, g3, g4⟩ := he e hm
       have hne : ¬ k = k' := fun h => h2 e hm (by rw [g1, h])
       exact ⟨k', m, g1, by show (if k = k' then some n else f k') = some m; rw [if_neg hne]; exact g2, g3, g4⟩
     · exact ⟨k, n, rfl, if_pos rfl, rfl, hks⟩
   · intro k' m hf
     simp only [Array.toList_push, List.mem_append, List.mem_singleton]
     by_cases hk : k = k'
     · exact ⟨_, .inr rfl, by rw [hk]⟩
     · replace hf : (if k = k' then some n else f k') = some m := hf
       rw [if_neg hk] at hf
       obtain ⟨e, hm, g⟩ := hall k' m hf
       exact ⟨e, .inl hm, g⟩
   · rw [Array.toList_push, List.map_append, List.nodup_append]
     refine ⟨hnd, by simp, fun a ha b hb => ?_⟩
     obtain ⟨e, hm, rfl⟩ := List.mem_map.1 ha
     simp only [List.map_cons, List.map_nil, List.mem_singleton] at hb
     rw [hb]
     exact h2 e hm
 · have hst := K.stays w hkl
   have h2' : es[j]? = some e := by simpa using h2
   have hmod : ∀ i : Nat, (es.modify j fun e => { e with key := .string k, val := .int .i64 (n : Nat) })[i]? = (es[i]?).map (fun e => if j = i then { e with key := .string k, val := .int .i64 (n : Nat) } else e) := fun i => by
    rw [Array.getElem?_modify]
    split
    · rename_i h; simp [h]
    · rename_i h; simp [h]
   have hinj : ∀ i1 i2 (e1 e2 : MapEntry), es.toList[i1]? = some e1 → es.toList[i2]? = some e2 → e1.key = e2.key → i1 = i2 := fun i1 i2 e1 e2 q1 q2 q3 => by
    have l1 := (List.getElem?_eq_some_iff.1 q1).1
    have m1 : (es.toList.map (·.key))[i1]? = some e1.key := by rw [List.getElem?_map, q1]; rfl
    have m2 : (es.toList.map (·.key))[i2]? = some e2.key := by rw [List.getElem?_map, q2]; rfl
    exact (List.getElem?_inj (by simpa using l1) hnd).1 (by rw [m1, m2, q3])
   refine ⟨ChangeMaps.setBlock w b (.map (es.modify j fun e => { e with key := .string k, val := .int .i64 (n : Nat) }) c), ?_, ⟨_, _, ChangeMaps.heap_setBlock_same hb _, ?_, ?_, ?_⟩, ⟨rfl, rfl, rfl, by simp [ChangeMaps.setBlock], fun i _ hi => ChangeMaps.heap_setBlock_other hb _ (fun e => hi (by rw [e]))⟩⟩
   · simp [Instr.mapUpdate, run_underlying Tryz.underlying111, MapKept.run_getObj_map hb, MapKept.run_setObj_map _ hb, hck, h1, h2', h3, hst, ChangeMaps.setBlock, Result.andThen]
   · intro e' hm
     obtain ⟨i, hi⟩ := List.mem_iff_getElem?.1 hm
     have hi' : (es.modify j fun e => { e with key := .string k, val := .int .i64 (n : Nat) })[i]? = some e' := by rw [← Array.getElem?_toList]; exact hi
     rw [hmod] at hi'
     obtain ⟨e0, h0, rfl⟩ := Option.map_eq_some_iff.1 hi'
     by_cases hj : j = i
     · exact ⟨k, n, by simp [hj], if_pos rfl, by simp [hj], hks⟩
     · obtain ⟨k', m, g1, g2, g3, g4⟩ := he e0 (List.mem_of_getElem? (by simpa using h0))
       have hk : ¬ k = k' := fun hk => hj (hinj j i e e0 h2 (by simpa using h0) (by rw [h3, g1, hk]))
       exact ⟨k', m, by simp [hj, g1], by show (if k = k' then some n else f k') = some m; rw [if_neg hk]; exact g2, by simp [hj, g3], g4⟩
   · intro k' m hf
     by_cases hk : k = k'
     · refine ⟨{ e with key := .string k, val := .int .i64 (n : Nat) }, List.mem_iff_getElem?.2 ⟨j, ?_⟩, by rw [hk]⟩
       rw [Array.getElem?_toList, hmod, h2']
       simp
     · replace hf : (if k = k' then some n else f k') = some m := hf
       rw [if_neg hk] at hf
       obtain ⟨e0, hm, g⟩ := hall k' m hf
       obtain ⟨i, hi⟩ := List.mem_iff_getElem?.1 hm
       have hji : ¬ j = i := fun h => hk (by
        rw [← h] at hi
        rw [hi] at h2
        have := Option.some.inj h2
        rw [this, h3] at g
        simpa using g)
       refine ⟨e0, List.mem_iff_getElem?.2 ⟨i, ?_⟩, g⟩
       rw [Array.getElem?_toList, hmod, ← Array.getElem?_toList, hi]
       simp [hji]
   · have hkeys : (es.modify j fun e => { e with key := .string k, val := .int .i64 (n : Nat) }).toList.map (·.key) = es.toList.map (·.key) := by
      apply List.ext_getElem?
      intro i
      rw [List.getElem?_map, List.getElem?_map, Array.getElem?_toList, hmod, ← Array.getElem?_toList]
      cases hi : es.toList[i]? with
      | none => rfl
      | some e0 =>
       by_cases hj : j = i
       · subst hj
         rw [h2] at hi
         obtain rfl := Option.some.inj hi
         simp [h3]
       · simp [hj]
     rw [hkeys]; exact hnd
end
set_option maxRecDepth 100000 in
theorem rstep_any {w : World} {rb mb : Nat} {r0 r1 : Value} {f : ByteArray → Option Nat} (hk : Blk w rb 113 #[r0, r1, .map (some mb)]) (hm : StrMap w mb f) (s : ByteArray) (hs : s.size ≤ maxLen) :
 Calls Tryz.prog 121 #[.pointer (some ⟨rb, 0, none⟩), .string s] w fun e w' => NumE (f s) e ∧ w' = w := by
 have x2 := hk.at_ 2
 have hl := hm.look s hs
 simp only [List.getElem?_toArray, List.getElem?_cons_zero, List.getElem?_cons_succ] at x2
 clear hk hm
 cases hf : f s with
 | some n =>
  rw [hf] at hl
  simp only [lookT] at hl
  clear hf
  go_enter Tryz.func121, Tryz.ntmps121
  go_wp2_with (go_at_call 84; refine (need_true _).mono ?_; rintro e w1 ⟨rfl, rfl⟩)
  go_ret
  exact ⟨rfl, rfl⟩
 | none =>
  rw [hf] at hl
  simp only [lookT] at hl
  clear hf
  go_enter Tryz.func121, Tryz.ntmps121
  go_wp2_with (go_at_call 84; refine (need_false _).mono ?_; rintro e w1 ⟨rfl, rfl⟩)
  exact ⟨rfl, rfl, rfl⟩
theorem clipS_any (A : Option Addr) (n c : Nat) (w : World) (h : n ≤ c ∧ c ≤ maxLen) (hA : A = none → n = 0) :
 Calls Tryz.prog 122 #[.slice A n c] w fun e w' => e = .returned (.slice A n n) ∧ w' = w := by
 unfold maxLen at h
 go_enter Tryz.func122, Tryz.ntmps122
 cases A with
 | none =>
  obtain rfl := hA rfl
  go_wp2
  go_ret
  exact ⟨rfl, rfl⟩
 | some p =>
  go_wp2
  go_ret
  exact ⟨rfl, rfl⟩
end Go.Proofs.YtocdmkilnbpkdaaGreatDoor
