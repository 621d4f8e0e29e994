/- The plain law of texts: the text of a book; what is read in a text; both are each other's opposite. -/
import Derived.Test.YtocdmkilnbpkdaaGreatDoorZA
import Derived.Lib.Split
import Derived.Lib.Join
import Derived.Lib.ItoaNum
set_option linter.unusedVariables false
set_option linter.unusedSimpArgs false
namespace Go.Proofs.YtocdmkilnbpkdaaGreatDoor
open Go.RowKit

/-! ### Lines and words -/
def linesL : List UInt8 → List (List UInt8)
 | [] => []
 | c :: l => if c = 10 then [10] :: linesL l else match linesL l with | [] => [[c]] | x :: xs => (c :: x) :: xs
def splitL (c : UInt8) : List UInt8 → List (List UInt8)
 | [] => [[]]
 | x :: l => if x = c then [] :: splitL c l else match splitL c l with | [] => [[x]] | y :: ys => (x :: y) :: ys
theorem linesL_line {rest : List UInt8} : ∀ {x : List UInt8}, 10 ∉ x → linesL (x ++ 10 :: rest) = (x ++ [10]) :: linesL rest
 | [], _ => by simp [linesL]
 | c :: x, h => by
  have hc : ¬ c = 10 := fun e => h (by simp [e])
  rw [List.cons_append, linesL, if_neg hc, linesL_line (fun e => h (List.mem_cons_of_mem _ e))]
  rfl
theorem linesL_last : ∀ {x : List UInt8}, 10 ∉ x → x ≠ [] → linesL x = [x]
 | [], _, h => absurd rfl h
 | [c], h, _ => by
  have hc : ¬ c = 10 := fun e => h (by simp [e])
  rw [linesL, if_neg hc]; rfl
 | c :: d :: x, h, _ => by
  have hc : ¬ c = 10 := fun e => h (by simp [e])
  rw [linesL, if_neg hc, linesL_last (fun e => h (List.mem_cons_of_mem _ e)) (by simp)]
theorem splitL_ne (c : UInt8) : ∀ l, splitL c l ≠ []
 | [] => by simp [splitL]
 | x :: l => by
  rw [splitL]
  split
  · simp
  · split <;> simp
theorem splitL_none {c : UInt8} : ∀ {x : List UInt8}, c ∉ x → splitL c x = [x]
 | [], _ => rfl
 | d :: x, h => by
  have hc : ¬ d = c := fun e => h (by simp [e])
  rw [splitL, if_neg hc, splitL_none (fun e => h (List.mem_cons_of_mem _ e))]
theorem splitL_cut {c : UInt8} {rest : List UInt8} : ∀ {x : List UInt8}, c ∉ x → splitL c (x ++ c :: rest) = x :: splitL c rest
 | [], _ => by simp [splitL]
 | d :: x, h => by
  have hc : ¬ d = c := fun e => h (by simp [e])
  rw [List.cons_append, splitL, if_neg hc, splitL_cut (fun e => h (List.mem_cons_of_mem _ e))]
theorem join_two (x y : List UInt8) (r : List (List UInt8)) (sep : List UInt8) : Lib.join (x :: y :: r) sep = x ++ sep ++ Lib.join (y :: r) sep := by
 rw [Lib.join_cons, Lib.join_cons]
 simp [Lib.joinTail]
theorem splitL_join {c : UInt8} : ∀ {ws : List (List UInt8)}, ws ≠ [] → (∀ w ∈ ws, c ∉ w) → splitL c (Lib.join ws [c]) = ws
 | [], h, _ => absurd rfl h
 | [x], _, h => by rw [Lib.join_one]; exact splitL_none (h x (by simp))
 | x :: y :: r, _, h => by
  rw [join_two, List.append_assoc, List.singleton_append, splitL_cut (h x (by simp)), splitL_join (by simp) (fun w hw => h w (List.mem_cons_of_mem _ hw))]
theorem occ_one (s : List UInt8) (c : UInt8) (i : Nat) : Lib.occAt s [c] i = decide (s[i]? = some c) := by
 rw [Lib.occAt]
 by_cases h : i < s.length
 · rw [List.drop_eq_getElem_cons h, Bool.eq_iff_iff]
   simp [List.isPrefixOf, h]
   exact eq_comm
 · rw [List.drop_of_length_le (by omega)]
   simp [List.isPrefixOf, List.getElem?_eq_none (Nat.le_of_not_lt h)]
theorem mem_take {s : List UInt8} {c : UInt8} {i : Nat} (h : c ∈ s.take i) : ∃ j, j < i ∧ s[j]? = some c := by
 obtain ⟨j, hj⟩ := List.mem_iff_getElem?.1 h
 rw [List.getElem?_take] at hj
 split at hj
 · rename_i hlt; exact ⟨j, hlt, hj⟩
 · simp at hj
theorem split_one (c : UInt8) : ∀ (n : Nat) (s : List UInt8), s.length ≤ n → Lib.split s [c] = splitL c s := by
 intro n
 induction n with
 | zero =>
  intro s hs
  have : s = [] := List.length_eq_zero_iff.1 (by omega)
  subst this
  rfl
 | succ n ih =>
  intro s hs
  rcases Lib.index_spec s [c] with ⟨h1, h2⟩ | ⟨i, h1, h2, h3, h4⟩
  · rw [Lib.split, Lib.count_miss h1, Lib.splitK]
    refine (splitL_none fun hm => ?_).symm
    obtain ⟨j, hj⟩ := List.mem_iff_getElem?.1 hm
    have hl := (List.getElem?_eq_some_iff.1 hj).1
    have := h2 j (by omega)
    rw [occ_one] at this
    simp [hj] at this
  · rw [occ_one] at h3
    have hi : s[i]? = some c := by simpa using h3
    have hl := (List.getElem?_eq_some_iff.1 hi).1
    have he := (List.getElem?_eq_some_iff.1 hi).2
    have hcut : s = s.take i ++ c :: s.drop (i + 1) := by
     conv => lhs; rw [← List.take_append_drop i s, List.drop_eq_getElem_cons hl, he]
    have hno : c ∉ s.take i := fun hm => by
     obtain ⟨j, hj, h5⟩ := mem_take hm
     have := h4 j hj
     rw [occ_one] at this
     simp [h5] at this
    have hm : ¬ (Lib.index s [c] == -1) = true := fun e => by have := beq_iff_eq.1 e; omega
    have e : (Lib.index s [c]).toNat = i := by omega
    rw [Lib.split, Lib.count_hit (by simp) h1, Nat.add_comm, Lib.splitK, if_neg hm, e]
    conv => rhs; rw [hcut, splitL_cut hno]
    have := ih (s.drop (i + 1)) (by rw [List.length_drop]; omega)
    rw [Lib.split] at this
    simp only [Nat.add_zero, List.length_singleton]
    rw [this]
/-! ### The text of a book -/
def wStep : ByteArray := ⟨#[115, 116, 101, 112]⟩
def wTally : ByteArray := ⟨#[116, 97, 108, 108, 121]⟩
def wDash : ByteArray := ⟨#[45]⟩
def decB (n : Int) : ByteArray := ⟨(Lib.decDigits n.toNat).toArray⟩
def nameAt (b : Book) (i : Int) : ByteArray := (nth b.steps i.toNat).name
def fromB (b : Book) (i : Int) : ByteArray := if i = -1 then wDash else nameAt b i
def stepWs (b : Book) (s : Step) : List ByteArray := [wStep, s.name, fromB b s.from_, decB s.loss]
def tallyWs (b : Book) (t : Tally) : List ByteArray := [wTally, nameAt b t.step, decB t.hands, decB t.off]
def lineL (ws : List ByteArray) : List UInt8 := Lib.join (ws.map (fun x : ByteArray => x.data.toList)) [32] ++ [10]
def wordsOf (b : Book) : List (List ByteArray) := b.steps.map (stepWs b) ++ b.tallies.map (tallyWs b)
def textL (b : Book) : List UInt8 := (wordsOf b).flatMap lineL
/-- A word: neither a blank nor the end of a line in it. -/
def WordOk (w : ByteArray) : Prop := 32 ∉ w.data.toList ∧ 10 ∉ w.data.toList
theorem join_mem {c d : UInt8} (hcd : d ≠ c) : ∀ {ws : List (List UInt8)}, (∀ w ∈ ws, d ∉ w) → d ∉ Lib.join ws [c]
 | [], _ => by simp [Lib.join_nil]
 | [x], h => by rw [Lib.join_one]; exact h x (by simp)
 | x :: y :: r, h => by
  rw [join_two]
  intro hm
  rcases List.mem_append.1 hm with hm | hm
  · rcases List.mem_append.1 hm with hm | hm
    · exact h x (by simp) hm
    · exact hcd (by simpa using hm)
  · exact join_mem hcd (fun w hw => h w (List.mem_cons_of_mem _ hw)) hm
theorem lines_of {L : List (List ByteArray)} (h : ∀ ws ∈ L, ∀ w ∈ ws, WordOk w) : linesL (L.flatMap lineL) = L.map lineL := by
 induction L with
 | nil => rfl
 | cons ws L ih =>
  rw [List.flatMap_cons, lineL, List.append_assoc, List.singleton_append, linesL_line, ih fun x hx => h x (List.mem_cons_of_mem _ hx), List.map_cons]
  · rfl
  · refine join_mem (by decide) fun w hw => ?_
    obtain ⟨x, hx, rfl⟩ := List.mem_map.1 hw
    exact (h ws (by simp) x hx).2
/-- The words of a line, its end taken off. -/
def wordsB (line : List UInt8) : List ByteArray := (splitL 32 (Lib.trimSuffix line [10])).map fun l => ⟨l.toArray⟩
theorem trim_end (x : List UInt8) : Lib.trimSuffix (x ++ [10]) [10] = x := by
 rw [Lib.trimSuffix, Lib.hasSuffix, if_pos (by rw [List.isSuffixOf_iff_suffix]; exact List.suffix_append _ _)]
 simp
theorem words_line {ws : List ByteArray} (hne : ws ≠ []) (h : ∀ w ∈ ws, WordOk w) : wordsB (lineL ws) = ws := by
 rw [wordsB, lineL, trim_end, splitL_join (by simpa using hne)]
 · rw [List.map_map]
   conv => rhs; rw [← List.map_id ws]
   exact List.map_congr_left fun x _ => rfl
 · intro w hw
   obtain ⟨x, hx, rfl⟩ := List.mem_map.1 hw
   exact (h x hx).1
/-! ### Numbers -/
def digB (c : UInt8) : Bool := decide (48 ≤ c.toNat ∧ c.toNat ≤ 57)
def numL : List UInt8 → Nat → Option Nat
 | [], n => some n
 | c :: l, n => if digB c then numL l (10 * n + (c.toNat - 48)) else none
def numP (s : ByteArray) : Option Nat := if 1 ≤ s.size ∧ s.size < 4 then numL s.data.toList 0 else none
theorem dec_small : ∀ n : Fin 100, numP ⟨(Lib.decDigits n).toArray⟩ = some (n : Nat) ∧ (Lib.decDigits n).all digB = true := by
 intro n
 by_cases h : (n : Nat) < 10
 · have e : Lib.decDigits n = [UInt8.ofNat (48 + n)] := by rw [Lib.decDigits, dif_pos h]
   rw [e]
   have h2 : (UInt8.ofNat (48 + (n : Nat))).toNat = 48 + n := by rw [UInt8.toNat_ofNat']; omega
   have h3 : digB (UInt8.ofNat (48 + (n : Nat))) = true := by rw [digB, h2]; simp; omega
   refine ⟨?_, by rw [List.all_cons, h3]; rfl⟩
   rw [numP, if_pos (by show 1 ≤ 1 ∧ 1 < 4; omega)]
   show numL [_] 0 = _
   rw [numL, if_pos h3, numL, h2]
   congr 1; omega
 · have e : Lib.decDigits n = [UInt8.ofNat (48 + n / 10), UInt8.ofNat (48 + n % 10)] := by
    rw [Lib.decDigits, dif_neg h, Lib.decDigits, dif_pos (by have := n.2; omega)]; rfl
   rw [e]
   have h2 : (UInt8.ofNat (48 + (n : Nat) / 10)).toNat = 48 + n / 10 := by rw [UInt8.toNat_ofNat']; omega
   have h2' : (UInt8.ofNat (48 + (n : Nat) % 10)).toNat = 48 + n % 10 := by rw [UInt8.toNat_ofNat']; omega
   have h3 : digB (UInt8.ofNat (48 + (n : Nat) / 10)) = true := by rw [digB, h2]; simp; omega
   have h3' : digB (UInt8.ofNat (48 + (n : Nat) % 10)) = true := by rw [digB, h2']; simp; omega
   refine ⟨?_, by rw [List.all_cons, List.all_cons, h3, h3']; rfl⟩
   rw [numP, if_pos (by show 1 ≤ 2 ∧ 2 < 4; omega)]
   show numL [_, _] 0 = _
   rw [numL, if_pos h3, numL, if_pos h3', numL, h2, h2']
   congr 1; omega
theorem dec_num {n : Int} (h : 0 ≤ n ∧ n ≤ 99) : numP (decB n) = some n.toNat := (dec_small ⟨n.toNat, by omega⟩).1
theorem dec_word {n : Int} (h : 0 ≤ n ∧ n ≤ 99) : WordOk (decB n) := by
 have := (dec_small ⟨n.toNat, by omega⟩).2
 rw [List.all_eq_true] at this
 constructor <;> exact fun hm => by have := this _ hm; simp [digB] at this
/-! ### Names -/
theorem name_bytes {s : ByteArray} (h : nameB s = true) : ∀ c ∈ s.data.toList, (97 ≤ c.toNat ∧ c.toNat ≤ 122) ∨ c.toNat = 46 ∨ (48 ≤ c.toNat ∧ c.toNat ≤ 57) := by
 rw [nameB, Bool.and_eq_true, nameTo, List.all_eq_true] at h
 intro c hc
 obtain ⟨i, hi⟩ := List.mem_iff_getElem?.1 hc
 have hl := (List.getElem?_eq_some_iff.1 hi).1
 have := h.2 i (by rw [List.mem_range]; exact hl)
 have he : byteAt s i = c.toNat := by
  rw [byteAt, Array.getD_eq_getD_getElem?, ← Array.getElem?_toList, hi]; rfl
 rw [he, nameC] at this
 simp at this
 omega
theorem name_word {s : ByteArray} (h : nameB s = true) : WordOk s := by
 constructor
 · intro hm; have := name_bytes h _ hm; simp at this
 · intro hm; have := name_bytes h _ hm; simp at this
theorem name_dash {s : ByteArray} (h : nameB s = true) : s ≠ wDash := by
 rintro rfl
 have := name_bytes h 45 (by simp [wDash])
 simp at this
theorem valid_words {b : Book} (hv : Valid b) : ∀ ws ∈ wordsOf b, ws ≠ [] ∧ ∀ w ∈ ws, WordOk w := by
 intro ws hws
 rw [wordsOf, List.mem_append] at hws
 rcases hws with hws | hws
 · obtain ⟨s, hs, rfl⟩ := List.mem_map.1 hws
   obtain ⟨i, hi⟩ := List.mem_iff_getElem?.1 hs
   have hl := (List.getElem?_eq_some_iff.1 hi).1
   have he : nth b.steps i = s := by rw [nth, List.getD_eq_getElem?_getD, hi]; rfl
   refine ⟨by simp [stepWs], fun w hw => ?_⟩
   simp only [stepWs, List.mem_cons, List.not_mem_nil, or_false] at hw
   rcases hw with rfl | rfl | rfl | rfl
   · exact ⟨by decide, by decide⟩
   · rw [← he]; exact name_word (hv.name i hl)
   · rw [fromB]
     split
     · exact ⟨by decide, by decide⟩
     · rename_i hn
       refine name_word (hv.name _ ?_)
       by_cases h0 : i = 0
       · subst h0; exact absurd (by rw [← he]; exact hv.first) hn
       · have := hv.from_ i (by omega) hl
         rw [he] at this
         omega
   · have := hv.loss i hl
     rw [he] at this
     exact dec_word (by omega)
 · obtain ⟨t, ht, rfl⟩ := List.mem_map.1 hws
   obtain ⟨i, hi⟩ := List.mem_iff_getElem?.1 ht
   have hl := (List.getElem?_eq_some_iff.1 hi).1
   have he : nth b.tallies i = t := by rw [nth, List.getD_eq_getElem?_getD, hi]; rfl
   have h3 := hv.tally i hl
   rw [he] at h3
   refine ⟨by simp [tallyWs], fun w hw => ?_⟩
   simp only [tallyWs, List.mem_cons, List.not_mem_nil, or_false] at hw
   rcases hw with rfl | rfl | rfl | rfl
   · exact ⟨by decide, by decide⟩
   · exact name_word (hv.name _ (by omega))
   · exact dec_word h3.2.1
   · exact dec_word (by omega)
theorem text_words {b : Book} (hv : Valid b) : (linesL (textL b)).map wordsB = wordsOf b := by
 rw [textL, lines_of fun ws hws => (valid_words hv ws hws).2, List.map_map]
 conv => rhs; rw [← List.map_id (wordsOf b)]
 exact List.map_congr_left fun ws hws => words_line (valid_words hv ws hws).1 (valid_words hv ws hws).2
/-! ### What the program reads -/
/-- The last step of a name. -/
def ixOf (ss : List Step) (k : ByteArray) : Option Nat := (List.range ss.length).foldl (fun o i => if (nth ss i).name = k then some i else o) none
theorem fold_congr {α β : Type} {f g : β → α → β} : ∀ {l : List α} (x : β), (∀ a ∈ l, ∀ y, f y a = g y a) → l.foldl f x = l.foldl g x
 | [], _, _ => rfl
 | a :: l, x, h => by
  rw [List.foldl_cons, List.foldl_cons, h a (by simp)]
  exact fold_congr _ fun b hb => h b (List.mem_cons_of_mem _ hb)
theorem ixOf_snoc (ss : List Step) (s : Step) (k : ByteArray) : ixOf (ss ++ [s]) k = if s.name = k then some ss.length else ixOf ss k := by
 rw [ixOf, List.length_append, List.length_singleton, List.range_succ, List.foldl_append]
 have h1 : nth (ss ++ [s]) ss.length = s := by simp [nth]
 simp only [List.foldl_cons, List.foldl_nil, h1]
 congr 1
 exact fold_congr _ fun i hi y => by
  have : i < ss.length := List.mem_range.1 hi
  have h2 : nth (ss ++ [s]) i = nth ss i := by simp [nth, List.getElem?_append_left this]
  rw [h2]
theorem ixOf_lt : ∀ {ss : List Step} {k : ByteArray} {i : Nat}, ixOf ss k = some i → i < ss.length := by
 intro ss k i h
 have key : ∀ n, n ≤ ss.length → ∀ i, (List.range n).foldl (fun o i => if (nth ss i).name = k then some i else o) none = some i → i < n := by
  intro n
  induction n with
  | zero => intro _ i h; simp at h
  | succ n ih =>
   intro hn i h
   rw [List.range_succ, List.foldl_append] at h
   simp only [List.foldl_cons, List.foldl_nil] at h
   split at h
   · simp at h; omega
   · have := ih (by omega) i h; omega
 exact key _ (Nat.le_refl _) i h
theorem nth_take' {ss : List Step} {i n : Nat} (h : i < n) (hn : n ≤ ss.length) : nth (ss.take n) i = nth ss i := by
 simp [nth, List.getElem?_take, h]
theorem ixOf_take {b : Book} (hv : Valid b) {i : Nat} : ∀ {n : Nat}, n ≤ b.steps.length → i < n → ixOf (b.steps.take n) (nth b.steps i).name = some i
 | 0, _, h => by omega
 | n + 1, hn, hi => by
  rw [take_nth (by omega), ixOf_snoc]
  by_cases h : i = n
  · subst h
    rw [if_pos rfl, List.length_take, Nat.min_eq_left (by omega)]
  · rw [if_neg, ixOf_take hv (by omega) (by omega)]
    intro e
    have := hv.apart n (by omega)
    rw [List.any_eq_false] at this
    refine this (nth b.steps i) ?_ ?_
    · rw [nth_eq (by omega)]
      exact List.mem_iff_getElem?.2 ⟨i, by rw [List.getElem?_take, if_pos (by omega)]; simp⟩
    · rw [e]; simp [eqS]
def lineP (b : Book) (ws : List ByteArray) : Option Book :=
 match ws with
 | [w0, w1, w2, w3] =>
  if w0 = wStep then
   match numP w3 with
   | none => none
   | some n => if w2 = wDash then some { b with steps := b.steps ++ [⟨w1, -1, n⟩] } else match ixOf b.steps w2 with | none => none | some i => some { b with steps := b.steps ++ [⟨w1, i, n⟩] }
  else if w0 = wTally then
   match ixOf b.steps w1 with
   | none => none
   | some i => match numP w2 with | none => none | some n => match numP w3 with | none => none | some m => some { b with tallies := b.tallies ++ [⟨i, n, m⟩] }
  else none
 | _ => none
def parseP (b : Book) : List (List ByteArray) → Option Book
 | [] => some b
 | ws :: L => match lineP b ws with | none => none | some c => parseP c L
theorem parseP_app (L L' : List (List ByteArray)) : ∀ (b c : Book), parseP b L = some c → parseP b (L ++ L') = parseP c L' := by
 induction L with
 | nil => intro b c h; simp only [parseP, Option.some.injEq] at h; subst h; rfl
 | cons ws L ih =>
  intro b c h
  rw [List.cons_append]
  simp only [parseP] at h ⊢
  cases hl : lineP b ws with
  | none => rw [hl] at h; simp at h
  | some d => rw [hl] at h; exact ih d c h
/-- What the program reads in a text. -/
def readB (s : List UInt8) : Option Book := parseP ⟨[], []⟩ ((linesL s).map wordsB)
def okB (b : Book) (s : List UInt8) : Bool := decide ((checkM b).2.2 = 0) && decide (textL b = s)
def readV (s : List UInt8) : Option Book := match readB s with | none => none | some b => if okB b s then some b else none
theorem step_take {b : Book} (hv : Valid b) : ∀ n, n ≤ b.steps.length → parseP ⟨[], []⟩ ((b.steps.take n).map (stepWs b)) = some ⟨b.steps.take n, []⟩
 | 0, _ => rfl
 | n + 1, hn => by
  rw [take_nth (by omega), List.map_append, parseP_app _ _ _ _ (step_take hv n (by omega))]
  have hl : n < b.steps.length := by omega
  simp only [List.map_cons, List.map_nil, parseP, stepWs, lineP, if_true]
  have h1 := hv.loss n hl
  rw [dec_num (by omega)]
  simp only
  by_cases h0 : n = 0
  · subst h0
    have := hv.first
    rw [show fromB b (nth b.steps 0).from_ = wDash from if_pos this, if_pos rfl]
    simp only [Option.some.injEq, Book.mk.injEq, and_true]
    congr 2
    cases hs : nth b.steps 0 with
    | mk a c d => rw [hs] at this h1; simp only at this h1 ⊢; subst this; congr 1; omega
  · have h2 := hv.from_ n (by omega) hl
    have hf : fromB b (nth b.steps n).from_ = (nth b.steps (nth b.steps n).from_.toNat).name := if_neg (by omega)
    rw [hf, if_neg (name_dash (hv.name _ (by omega))), ixOf_take hv (by omega) (by omega)]
    simp only [Option.some.injEq, Book.mk.injEq, and_true]
    congr 2
    cases hs : nth b.steps n with
    | mk a c d => rw [hs] at h2 h1; simp only at h2 h1 ⊢; congr 1 <;> omega
theorem tally_take {b : Book} (hv : Valid b) : ∀ n, n ≤ b.tallies.length → parseP ⟨b.steps, []⟩ ((b.tallies.take n).map (tallyWs b)) = some ⟨b.steps, b.tallies.take n⟩
 | 0, _ => rfl
 | n + 1, hn => by
  rw [take_nth (by omega), List.map_append, parseP_app _ _ _ _ (tally_take hv n (by omega))]
  have hl : n < b.tallies.length := by omega
  have h3 := hv.tally n hl
  have hw : ¬ wTally = wStep := by decide
  have hx := ixOf_take hv (i := (nth b.tallies n).step.toNat) (n := b.steps.length) (Nat.le_refl _) (by omega)
  rw [List.take_length] at hx
  simp only [List.map_cons, List.map_nil, parseP, tallyWs, lineP, if_true, if_neg hw]
  rw [nameAt, hx, dec_num h3.2.1, dec_num (by omega)]
  simp only [Option.some.injEq, Book.mk.injEq, true_and]
  congr 2
  cases hs : nth b.tallies n with
  | mk a c d => rw [hs] at h3; simp only at h3 ⊢; congr 1 <;> omega
theorem read_text {b : Book} (hv : Valid b) : readB (textL b) = some b := by
 rw [readB, text_words hv, wordsOf]
 have h1 := step_take hv b.steps.length (Nat.le_refl _)
 rw [List.take_length] at h1
 rw [parseP_app _ _ _ _ h1]
 have h2 := tally_take hv b.tallies.length (Nat.le_refl _)
 rw [List.take_length] at h2
 exact h2
/-- THE LAW OF READ: it reads just what is the text of a valid book. -/
theorem readV_iff {s : List UInt8} {b : Book} : readV s = some b ↔ (checkM b).2.2 = 0 ∧ textL b = s := by
 constructor
 · intro h
   rw [readV] at h
   cases hr : readB s with
   | none => rw [hr] at h; simp at h
   | some c =>
    rw [hr] at h
    simp only at h
    split at h
    · rename_i ho
      obtain rfl : c = b := by simpa using h
      simpa [okB] using ho
    · simp at h
 · rintro ⟨h1, rfl⟩
   rw [readV, read_text (valid_of h1)]
   simp [okB, h1]
end Go.Proofs.YtocdmkilnbpkdaaGreatDoor
