/- text$1: a line of words is written. -/
import Derived.Test.YtocdmkilnbpkdaaGreatDoorZO
import Derived.OwnWalkIn
import Derived.TacticsInMore
import Derived.Deep.DeepCutAuto
set_option linter.unusedVariables false
set_option linter.unusedSimpArgs false
namespace Go.Proofs.YtocdmkilnbpkdaaGreatDoor
open Go.RowKit
attribute [local go_sem] Oper.semAt_some

/-- A line: its words, one blank between two, and its end. -/
def lineB (ws : List ByteArray) : ByteArray := ⟨(Lib.join (ws.map (fun x : ByteArray => x.data.toList)) [32] ++ [10]).toArray⟩
theorem builder_next {B b : Nat} {bs : List Value} {w w' : World} (h : Lib.IsBuilderF 145 5 B b bs w) (hb : Below w.heap.size w w') : Lib.IsBuilderF 145 5 B b bs w' := by
 have key : ∀ p, Lib.BuilderAtF 145 5 B b p bs w → Lib.BuilderAtF 145 5 B b p bs w' := by
  rintro p ⟨h1, v, h2, h3, h4⟩
  have k : Blk w b 145 #[p, v] := h2
  refine ⟨h1, v, k.next hb, ⟨h3.1, ?_⟩, h4⟩
  rcases h3.2 with h5 | ⟨g, cap, cur, fz, e1, e2, e3, r⟩
  · exact .inl h5
  · exact .inr ⟨g, cap, cur, fz, e1, e2, (hb.block g (Array.getElem?_eq_some_iff.1 e3).1).trans e3, r⟩
 exact h.imp (key _) (key _)
set_option maxHeartbeats 1000000 in
set_option maxRecDepth 100000 in
theorem line_any {B b q : Nat} {bs : List Value} {ws : List ByteArray} {c : Nat} {w : World} (h : Lib.IsBuilderF 145 5 B b bs w) (hc : ∀ (j : Nat) x, ws[j]? = some x → w.cell? ⟨q, 0 + j, none⟩ = some (.string x)) (hq : q < w.heap.size)
 (hl : ws.length ≤ c ∧ ws.length ≤ 100) (hs : (Lib.join (ws.map (·.data.toList)) [32]).length ≤ 1000) (hn : bs.length ≤ 100000) (hB : B ≤ w.heap.size) :
 Calls Tryz.prog 108 #[.slice (some ⟨q, 0, none⟩) ws.length c, .pointer (some ⟨b, 0, none⟩)] w fun e w' => e = .returned (.tuple #[]) ∧ Lib.BuilderAtF 145 5 B b (.pointer (some ⟨b, 0, none⟩)) (bs ++ Lib.strCells (lineB ws)) w' ∧ Below B w w' := by
 have HJ := hide (Tryz.strings_Join q 0 c ws ⟨#[32]⟩ w hc hq (by omega) hl.1 (by show (Lib.join (ws.map (·.data.toList)) [32]).length ≤ _; omega))
 go_enter Tryz.func108, Tryz.ntmps108
 go_wp2_with fail
 refine HJ.out.mono ?_
 rintro e w1 ⟨rfl, hb1⟩
 go_wp2_with fail
 have e : (⟨(Lib.join (ws.map (fun x : ByteArray => x.data.toList)) [32]).toArray⟩ : ByteArray) ++ ⟨#[10]⟩ = lineB ws := by
  apply ByteArray.ext
  simp [lineB, ByteArray.data_append]
 have e2 : (lineB ws).size = (Lib.join (ws.map (fun x : ByteArray => x.data.toList)) [32]).length + 1 := by simp [lineB, ByteArray.size]
 have hlen : bs.length + (lineB ws).size ≤ 140737488355328 := by omega
 rw [e]
 refine (writeString_any B b bs (lineB ws) w1 (builder_next h hb1) hlen (Nat.le_trans hB hb1.size)).mono ?_
 rintro e w2 ⟨rfl, h2, hb2⟩
 have H2 := hide h2
 have HB2 := hide ((hb1.mono hB).trans hb2)
 clear h2 hb2 h hc
 go_wp2_with fail
 go_end0
 exact ⟨rfl, H2.out, HB2.out⟩
end Go.Proofs.YtocdmkilnbpkdaaGreatDoor
