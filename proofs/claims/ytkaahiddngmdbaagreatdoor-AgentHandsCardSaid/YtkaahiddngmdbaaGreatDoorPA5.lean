/- The row of AgentHands: for any two texts and two numbers the law returns true, and its arguments read as before. -/
import Derived.Test.YtkaahiddngmdbaaGreatDoorAL
import Derived.Test.YtkaahiddngmdbaaGreatDoorAX
import Derived.Test.YtkaahiddngmdbaaGreatDoorEG
set_option linter.unusedVariables false
set_option linter.unusedSimpArgs false
namespace Go.Proofs.YtkaahiddngmdbaaGreatDoor
open Go.ChangeShapes Go.WideShapes Go.ChangeAt Go.RowKit

theorem small_of {s : ByteArray} {n : Nat} (h : s.data.toList.length ≤ n) (hn : n < 2 ^ 47) : s.size ≤ 281474976710656 := by
 have e : s.data.toList.length = s.size := rfl
 omega
theorem u16_bd {a : Int} (h : (Lit.int .u16 a).wf = true) : 0 ≤ a ∧ a ≤ 65535 := by
 simp [Lit.wf, IntKind.min, IntKind.max, IntKind.signed, IntKind.bits] at h; omega
theorem at_of_take {cs : List Value} {o : Nat} {v : Value} (h : (cs.drop o).take 1 = [v]) : cs[o]? = some v := by
 have : (cs.drop o)[0]? = some v := by
  cases hd : cs.drop o with
  | nil => rw [hd] at h; simp at h
  | cons x l => rw [hd] at h; simp at h; simp [h]
 simpa using this
set_option maxRecDepth 100000 in
theorem u16x2_open {H : Type} {enc : TypeId × Value → H} {w : World} {spare : Nat → Bool} {held : Bool} {r : Go.Reach} {b0 : Nat} {v : Value} {d : DataW H} {p : List MemPlace} (hv : Value.okWide Tryz.prog w r b0 82 v) (h : DataW.Trod enc Tryz.prog w 0 spare held 82 v d p) : ∃ a b : Int, v = .agg #[.int .u16 a, .int .u16 b] ∧ (0 ≤ a ∧ a ≤ 65535) ∧ (0 ≤ b ∧ b ≤ 65535) := by
 have hcs : ∃ cs, v = .agg cs ∧ cs.size = Tryz.prog.cellsOf 82 := by
  simp only [Value.okWide, Tryz.underlying82] at hv
  obtain ⟨cs, h1, h2, _⟩ := hv
  exact ⟨cs, h1, h2⟩
 obtain ⟨cs, rfl, hsz⟩ := hcs
 have hc2 : Tryz.prog.cellsOf 82 = 2 := by kernel_rfl
 have hc1 : Tryz.prog.cellsOf 81 = 1 := by kernel_rfl
 obtain ⟨l⟩ := cs
 match l, hsz.trans hc2 with
 | [x, y], _ =>
  obtain ⟨fuel, hf⟩ := h
  obtain ⟨xs, m, _, _, hl, hx, hg⟩ := DataW.trod_array Tryz.underlying82 hf
  have g0 := hg 0 (by omega)
  have g1 := hg 1 (by omega)
  rw [hc1] at g0 g1
  match xs, hx with
  | [u0, u1], _ =>
   obtain ⟨a, e0, _, f0⟩ := DataW.trod_int Tryz.underlying81 g0
   obtain ⟨b, e1, _, f1⟩ := DataW.trod_int Tryz.underlying81 g1
   cases at_of_take (o := 0) e0
   cases at_of_take (o := 1) e1
   exact ⟨a, b, rfl, u16_bd f0, u16_bd f1⟩
theorem Tryz.ownAgentHands : ownKnob Tryz.prog.godebug = none := by kernel_rfl
set_option maxRecDepth 100000 in
theorem agentHands_lifted (os : Os) (started : os.Started) (H : Type) (enc : TypeId × Value → H) :
 ReturnsInHanded {} Tryz.checked os 4 .any (fun w args => (Rows.agentHandsSpec.pre enc Tryz.prog Tryz.f4 Rows.agentHandsRow.domain false w args ∧ laidMetH Tryz.prog Rows.agentHandsRow.laid w) ∧ sizedMet enc Tryz.prog Tryz.f4 (OpenSpec.ofChange Rows.agentHandsSpec) false w args) (Rows.agentHandsSpec.post enc Tryz.prog Tryz.f4 false true false false) := by
 refine handed_laid2 (C := Tryz.checked) (X := fun w _ => laidMetH Tryz.prog Rows.agentHandsRow.laid w) Tryz.ownAgentHands started (by kernel_rfl) Tryz.func4
  (ChangeSpec.witness_shaped (enc := enc) (C := Tryz.checked) (os := os) (X := fun w _ => laidMetH Tryz.prog Rows.agentHandsRow.laid w) false (World.laidAll Tryz.prog os Rows.agentHandsRow.laid) #[.string ⟨#[]⟩, .string ⟨#[]⟩, .agg #[.int .u16 0, .int .u16 0]] 8 (World.laidAll_os _ _ _)
   (World.shaped_of_ZipB (by kernel_rfl) (by kernel_rfl)) (by kernel_rfl) (by kernel_rfl) (by kernel_rfl)
   (by rw [MakeChecks.laidMetH_plain _ _ _ (by kernel_rfl)]; exact laidMet_laidAll _ (by kernel_rfl) (by kernel_rfl))) ?_
 intro W base args ds gs before hval0 hW hsz hshape hlaid0
 have hlaid : laidMet Tryz.prog Rows.agentHandsRow.laid W.memory := by rw [MakeChecks.laidMetH_plain _ _ _ (by kernel_rfl)] at hlaid0; exact hlaid0
 have hval : ∀ (j : Nat) t v, Tryz.f4.params[j]? = some t → args[j]? = some v → Value.okWide Tryz.prog W .any base t v := hval0
 have hW' := hW
 have hmx := Tryz.max_cells hshape
 have hpw : ∃ elem fr, W.heap[0]? = some (.cells ((List.range 20).map fun i => Value.int .u64 ((10 ^ i : Nat) : Int)).toArray elem fr) := Tryz.pow_cells (w := W.memory) (Lib.laidMet.reads hlaid (by simp [Rows.agentHandsRow]))
 have h2 : 2 ≤ W.heap.size := by
  obtain ⟨m, elem, fr, h⟩ := hmx
  have := (Array.getElem?_eq_some_iff.1 h).1
  omega
 obtain ⟨p, q, hA0, hV, rfl, hfz, hnd⟩ := hW
 have hA : DataW.TrodAll enc Tryz.prog W 0 (fun _ => true) true Tryz.f4.params.toList args.toList ds p := hA0
 have hK := hA0
 rw [Tryz.params4] at hA hval hsz
 obtain ⟨v0, v1, v2, d0, d1, d2, p0, p1, p2, rfl, rfl, rfl, h0, h1, h3⟩ := trodAll_three hA
 obtain ⟨rfl, rfl⟩ := trodVars_none hV
 obtain ⟨s0, rfl, rfl, rfl, hs0⟩ := ChangeMaps.open_string Tryz.underlying9 (hval 0 9 v0 rfl rfl) h0
 obtain ⟨s1, rfl, rfl, rfl, hs1⟩ := ChangeMaps.open_string Tryz.underlying9 (hval 1 9 v1 rfl rfl) h1
 obtain ⟨x0, x1, rfl, hx0, hx1⟩ := u16x2_open (hval 2 82 v2 rfl rfl) h3
 have hz0 := sized_string hsz (j := 0) rfl rfl
 have hz1 := sized_string hsz (j := 1) rfl rfl
 have hrb := reachBytes_lt
 clear hA0 hval0
 simp only [List.append_nil] at hW'
 have hlt := fun p hp => hW'.lt p hp
 refine (agentHands_any (a := s0) (b := s1) (small_of hz0 hrb) (small_of hz1 hrb) hx0 hx1 (Go.Ev.awakeOk h2 hpw hmx)).mono fun e W' ⟨he, hb⟩ => ?_
 subst he
 exact ⟨_, rfl, post_of_below (pa := _) (pv := []) hW' (fun _ _ _ => trodAll_cons_mk (shut_bool Tryz.underlying4 _) trodAll_mk0)
  (fun sp hsp => trodAll_stays Tryz.laidOut hb hK (fun p hp => hlt p (by simpa using hp)) (by kernel_rfl) (fun p hp => hsp p (by simpa using hp))) (fun _ _ => rfl) (by simp)
  hb (ok_one (by kernel_rfl) rfl (okWide_bool_mk Tryz.underlying4 _))⟩
end Go.Proofs.YtkaahiddngmdbaaGreatDoor
