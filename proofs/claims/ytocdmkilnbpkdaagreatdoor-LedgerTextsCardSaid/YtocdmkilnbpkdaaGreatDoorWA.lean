/- text and Write of the program. -/
import Derived.Test.YtocdmkilnbpkdaaGreatDoorZP
import Derived.Test.YtocdmkilnbpkdaaGreatDoorYF
import Derived.OwnWalkIn
import Derived.Laws.EntriesVeiled
import Derived.TacticsInMore
import Derived.Deep.DeepCutAuto
set_option linter.unusedVariables false
set_option linter.unusedSimpArgs false
namespace Go.Proofs.YtocdmkilnbpkdaaGreatDoor
open Go.RowKit
attribute [local go_sem] Oper.semAt_some

def textS (b : Book) (j : Nat) : List UInt8 := (b.steps.take j).flatMap fun s => lineL (stepWs b s)
def textT (b : Book) (j : Nat) : List UInt8 := (b.tallies.take j).flatMap fun t => lineL (tallyWs b t)
theorem textS_succ (b : Book) {j : Nat} (h : j < b.steps.length) : textS b (j + 1) = textS b j ++ lineL (stepWs b (nth b.steps j)) := by simp [textS, take_nth h, List.flatMap_append]
theorem textT_succ (b : Book) {j : Nat} (h : j < b.tallies.length) : textT b (j + 1) = textT b j ++ lineL (tallyWs b (nth b.tallies j)) := by simp [textT, take_nth h, List.flatMap_append]
theorem text_all (b : Book) : textL b = textS b b.steps.length ++ textT b b.tallies.length := by simp [textL, wordsOf, textS, textT, List.flatMap_append, List.flatMap_map]
theorem line_cells (l : List UInt8) (ws : List ByteArray) : Lib.byteCells l ++ Lib.strCells (lineB ws) = Lib.byteCells (l ++ lineL ws) := by
 rw [Lib.byteCells, Lib.byteCells, List.map_append]; rfl
theorem join4_len (a b c d : List UInt8) : (Lib.join [a, b, c, d] [32]).length = a.length + b.length + c.length + d.length + 3 := by
 rw [join_two, join_two, join_two, Lib.join_one]
 simp only [List.length_append, List.length_singleton]
 omega
theorem line4_len (a b c d : ByteArray) (h : a.size ≤ 16 ∧ b.size ≤ 16 ∧ c.size ≤ 16 ∧ d.size ≤ 16) : (lineL [a, b, c, d]).length ≤ 68 := by
 rw [lineL, List.length_append]
 have := join4_len a.data.toList b.data.toList c.data.toList d.data.toList
 have ea : a.data.toList.length = a.size := rfl
 have eb : b.data.toList.length = b.size := rfl
 have ec : c.data.toList.length = c.size := rfl
 have ed : d.data.toList.length = d.size := rfl
 simp only [List.map_cons, List.map_nil, List.length_singleton]
 omega
theorem dec_size (n : Nat) (h : n < 100) : (⟨(Lib.decDigits n).toArray⟩ : ByteArray).size ≤ 2 := by
 have hs : (⟨(Lib.decDigits n).toArray⟩ : ByteArray).size = (Lib.decDigits n).length := by simp [ByteArray.size]
 rw [hs]
 by_cases h1 : n < 10
 · rw [Lib.decDigits, dif_pos h1]; simp
 · rw [Lib.decDigits, dif_neg h1, Lib.decDigits, dif_pos (by omega)]; simp
theorem name_size {s : ByteArray} (h : nameB s = true) : s.size ≤ 16 := by
 rw [nameB, Bool.and_eq_true, decide_eq_true_eq] at h; omega
theorem step_from {b : Book} (hv : Valid b) {j : Nat} (h : j < b.steps.length) : ((nth b.steps j).from_ = -1 ∧ fromB b (nth b.steps j).from_ = wDash) ∨ ∃ m : Nat, m < j ∧ (nth b.steps j).from_ = m ∧ fromB b (nth b.steps j).from_ = (nth b.steps m).name := by
 by_cases h0 : j = 0
 · subst h0
   exact .inl ⟨hv.first, by rw [fromB, if_pos hv.first]⟩
 · have := hv.from_ j (by omega) h
   refine .inr ⟨(nth b.steps j).from_.toNat, by omega, by omega, ?_⟩
   rw [fromB, if_neg (by omega), nameAt]
theorem step_line {b : Book} (hv : Valid b) {j : Nat} (h : j < b.steps.length) : (lineL (stepWs b (nth b.steps j))).length ≤ 68 := by
 have h1 := name_size (hv.name j h)
 have h2 : (fromB b (nth b.steps j).from_).size ≤ 16 := by
  rcases step_from hv h with ⟨_, e⟩ | ⟨m, hm, _, e⟩
  · rw [e]; decide
  · rw [e]; exact name_size (hv.name m (by omega))
 have h3 := hv.loss j h
 exact line4_len _ _ _ _ ⟨by decide, h1, h2, Nat.le_trans (dec_size _ (by omega)) (by decide)⟩
theorem tally_line {b : Book} (hv : Valid b) {j : Nat} (h : j < b.tallies.length) : (lineL (tallyWs b (nth b.tallies j))).length ≤ 68 := by
 have h3 := hv.tally j h
 have h1 := name_size (hv.name (nth b.tallies j).step.toNat (by omega))
 exact line4_len _ _ _ _ ⟨by decide, h1, Nat.le_trans (dec_size _ (by omega)) (by decide), Nat.le_trans (dec_size _ (by omega)) (by decide)⟩
theorem textS_len {b : Book} (hv : Valid b) : ∀ j, j ≤ b.steps.length → (textS b j).length ≤ 68 * j
 | 0, _ => by simp [textS]
 | j + 1, h => by
  rw [textS_succ b (by omega), List.length_append]
  have := textS_len hv j (by omega)
  have := step_line hv (j := j) (by omega)
  omega
theorem textT_len {b : Book} (hv : Valid b) : ∀ j, j ≤ b.tallies.length → (textT b j).length ≤ 68 * j
 | 0, _ => by simp [textT]
 | j + 1, h => by
  rw [textT_succ b (by omega), List.length_append]
  have := textT_len hv j (by omega)
  have := tally_line hv (j := j) (by omega)
  omega
theorem text_len {b : Book} (hv : Valid b) : (textL b).length ≤ 816 := by
 rw [text_all, List.length_append]
 have := textS_len hv _ (Nat.le_refl _)
 have := textT_len hv _ (Nat.le_refl _)
 have := hv.steps
 have := hv.tallies
 omega
theorem join_line (ws : List ByteArray) (h : (lineL ws).length ≤ 68) : (Lib.join (ws.map (·.data.toList)) [32]).length ≤ 1000 := by
 rw [lineL, List.length_append] at h
 have : (Lib.join (ws.map (fun x : ByteArray => x.data.toList)) [32]).length ≤ 68 := by omega
 exact Nat.le_trans this (by decide)
set_option maxHeartbeats 4000000 in
set_option maxRecDepth 100000 in
theorem text_any {b : Book} {a : BA} {w : World} (h : BookV w w.heap.size b a) (hv : Valid b) :
 Calls Tryz.prog 78 #[bookVal b a] w fun e w' => e = .returned (.string ⟨(textL b).toArray⟩) ∧ Below w.heap.size w w' := by
 have HV := hide hv
 have hn6 := hv.steps
 have ht6 := hv.tallies
 have hpos := hv.pos
 have HX := hide (BoxB.made h)
 have HB := hide (show Below w.heap.size w (w.alloc (.cells (bookCells b a) 25)) from (Below.refl _ _).alloc (Nat.le_refl _) _)
 have hm1 := h.m1
 have hm2 := h.m2
 obtain ⟨A1, A2, c1, c2⟩ := a
 obtain ⟨g1, o1, e1, hg1, hst⟩ := h.steps (by omega)
 obtain rfl : A1 = _ := e1
 unfold maxLen at hm1 hm2
 have HST := hide h.steps
 have HTA := hide h.tallies
 clear h hv hst
 go_enter Tryz.func78, Tryz.ntmps78
 go_upto_region 1 with (fail)
 have hz1 : w.heap.size < (w.alloc (.cells (bookCells b ⟨some ⟨g1, o1, none⟩, A2, c1, c2⟩) 25)).heap.size := by simp
 generalize (w.alloc (.cells (bookCells b ⟨some ⟨g1, o1, none⟩, A2, c1, c2⟩) 25)) = v0 at *
 have HI := hide (Lib.IsBuilderF.of (Lib.fresh_isBuilder 145 5 v0))
 have HB1 := hide (HB.out.trans (((Below.refl v0.heap.size v0).alloc (Nat.le_refl _) (.cells #[.pointer none, .slice none 0 0] 145)).mono HB.out.size))
 have HX1 := hide (HX.out.next ((Below.refl v0.heap.size v0).alloc (Nat.le_refl _) (.cells #[.pointer none, .slice none 0 0] 145)))
 have hzg := HX.out.k.lt
 have hz2 : v0.heap.size < (v0.alloc (.cells #[.pointer none, .slice none 0 0] 145)).heap.size := by simp
 go_upto_region 2 with (fail)
 clear HX HB
 generalize hgb : v0.heap.size = gb at *
 generalize (v0.alloc (.cells #[.pointer none, .slice none 0 0] 145)) = v1 at *
 have HI0 : Hid (Lib.IsBuilderF 145 5 gb gb (Lib.byteCells (textS b 0)) v1) := HI
 have HGB := hide hz2
 clear HI hgb v0
 obtain ⟨z, x0, x1⟩ := HX1.out.cells
 go_wp2_with fail
 clear x0 x1 z
 go_loopw [6, 7, 14, 15, 16, 17, 18, 19, 20, 21, 22, 23, 24, 25, 26, 27, 28, 29, 30, 31, 32, 33, 34, 35, 36, 37] (fun _ _ i _ _ _ _ _ _ _ _ _ _ _ _ _ _ _ _ _ _ _ _ _ _ _ wr => ∃ j : Nat, j ≤ b.steps.length ∧ i = .int .i64 (j : Nat) ∧ Hid (Lib.IsBuilderF 145 5 gb gb (Lib.byteCells (textS b j)) wr) ∧ Hid (Below gb v1 wr)) (fun _ _ i _ _ _ _ _ _ _ _ _ _ _ _ _ _ _ _ _ _ _ _ _ _ _ _ => b.steps.length - (intOf i).toNat)
 case atStart => exact ⟨0, Nat.zero_le _, rfl, HI0, hide (Below.refl _ _)⟩
 case round =>
  obtain ⟨j, hj, rfl, HBI, HBW⟩ := hrel
  clear HI0
  by_cases hlt : j < b.steps.length
  · have hjl : (j : Int) < (b.steps.length : Int) := by omega
    have HSS := hide (textS_succ b hlt)
    have hb1 := HB1.out.trans (HBW.out.mono (Nat.le_of_lt hzg))
    have HKB := hide (show Blk wr w.heap.size 25 _ from (HBW.out.block _ hzg).trans HX1.out.k)
    have hz1 := HKB.out.lt
    have HBU0 := HBI
    have hwg := HBW.out.size
    have hst := HST.out.below hb1
    obtain ⟨gq, oq, eq, _, h0, h1, h2⟩ := hst.steps hlt
    obtain ⟨rfl, rfl⟩ : g1 = gq ∧ o1 = oq := by injection eq with e; injection e with e1 e2; exact ⟨e1, e2⟩
    have h3 := HV.out.loss j hlt
    obtain ⟨ln, hln⟩ : ∃ ln : Nat, (nth b.steps j).loss = (ln : Int) := ⟨(nth b.steps j).loss.toNat, by omega⟩
    have hln100 : ln < 100 := by omega
    rcases step_from HV.out hlt with ⟨hf, hw⟩ | ⟨m, hmj, hf, hw⟩
    · have HL := hide (show stepWs b (nth b.steps j) = [wStep, (nth b.steps j).name, wDash, ⟨(Lib.decDigits ln).toArray⟩] by rw [stepWs, hw, hln]; rfl)
      have HJL := hide (join_line [wStep, (nth b.steps j).name, wDash, ⟨(Lib.decDigits ln).toArray⟩] (by rw [← HL.out]; exact step_line HV.out hlt))
      have HTL := hide (show (Lib.byteCells (textS b j)).length ≤ 100000 by have := textS_len HV.out j hj; rw [Lib.byteCells, List.length_map]; omega)
      go_upto_region 9 with fail
      generalize hnm : (nth b.steps j).name = nm at *
      clear hnm hw hln hst h0 h1 h2 hf
      have HVB := hide ((Below.refl wr.heap.size wr).alloc (Nat.le_refl _) (.cells #[.string nm, .int .i64 (-1), .int .i64 (ln : Int)] 68))
      have HBLK := hide (show Blk (wr.alloc (.cells #[.string nm, .int .i64 (-1), .int .i64 (ln : Int)] 68)) wr.heap.size 68 _ from Blk.made)
      generalize (wr.alloc (.cells #[.string nm, .int .i64 (-1), .int .i64 (ln : Int)] 68)) = V at *
      have HBU := hide (builder_next HBU0.out HVB.out)
      have hz6 := HBLK.out.lt
      have e0 := HBLK.out.at_ 0
      have e2 := HBLK.out.at_ 2
      simp only [List.getElem?_toArray, List.getElem?_cons_zero, List.getElem?_cons_succ] at e0 e2
      refine wp_region_rel4 (dst := fun oi => [28, 29, 30, 31, 32, 33, 34, 35, 0].getD oi 0) (mono := fun oi => decide (oi < 8)) (pre := fun oi => decide (oi < 8)) (R := LKeep (fun _ => False) (fun _ => True))
       (Pv := fun oi v W => match oi with
        | 0 => v = .func (.func 108) #[] #[.pointer (some ⟨gb, 0, none⟩)]
        | 1 => v = .pointer (some ⟨wr.heap.size, 0, none⟩)
        | 2 => v = .string nm
        | 3 => v = .string ⟨#[45]⟩
        | 4 => v = .pointer (some ⟨wr.heap.size, 2, none⟩)
        | 5 => v = .int .i64 ((ln : Nat) : Int)
        | 6 => v = .string ⟨(Lib.decDigits ln).toArray⟩
        | 7 => ∃ gl cp, v = .slice (some ⟨gl, 0, none⟩) 4 4 ∧ MadeB W V.heap.size gl cp 9 #[.string ⟨#[115, 116, 101, 112]⟩, .string nm, .string ⟨#[45]⟩, .string ⟨(Lib.decDigits ln).toArray⟩]
        | _ => True) (by kernel_rfl) (by kernel_rfl) (LKeep.refl _ _) (fun _ _ _ h h' => h.trans h') ?hsta ?hstepa ?henda
      case hsta =>
       intro oi v W W' h hk
       match oi, h with
       | 0, h => exact h
       | 1, h => exact h
       | 2, h => exact h
       | 3, h => exact h
       | 4, h => exact h
       | 5, h => exact h
       | 6, h => exact h
       | 7, h => obtain ⟨gl, cp, h1, h2⟩ := h; exact ⟨gl, cp, h1, h2.next (hk.1.below (B := W.heap.size) (fun k h => h.elim) (Nat.le_refl _))⟩
       | oi + 8, h => exact trivial
      case hstepa =>
       intro oi hoi hom listed vs ao W hU hk0 hpv haft Ko hK
       have hkk := (LKeep.drew (fun _ => False) (M := fun _ => True) V (fun h => h)).trans hk0
       have hk := hkk.1
       have hkm := hkk.2
       clear hkk
       match oi, hoi, hom with
       | 0, hoi, hom =>
        have z4 : ao.tmps[4]?.getD undef = .func (.func 108) #[] #[.pointer (some ⟨gb, 0, none⟩)] := hU.same 4 (by decide)
        refine wpOp_value (v := .func (.func 108) #[] #[.pointer (some ⟨gb, 0, none⟩)]) (W' := W) rfl rfl ?_ (hK _ _ (LKeep.refl _ _ _) rfl)
        go_simp
       | 1, hoi, hom =>
        have z6 : ao.tmps[6]?.getD undef = .pointer (some ⟨wr.heap.size, 0, none⟩) := hU.same 6 (by decide)
        refine wpOp_value (v := .pointer (some ⟨wr.heap.size, 0, none⟩)) (W' := W) rfl rfl ?_ (hK _ _ (LKeep.refl _ _ _) rfl)
        go_simp
       | 2, hoi, hom =>
        have l1 := haft _ rfl ⟨1, .data⟩ (by simp) rfl
        have s1 : ao.tmps[29]?.getD undef = .pointer (some ⟨wr.heap.size, 0, none⟩) := (hU.slot 1 (by decide) l1).trans (hpv 1 l1)
        have y0 := (hk.cell (b := wr.heap.size) (o := 0) (hz6) (fun h => h)).trans (e0)
        refine wpOp_value (v := .string nm) (W' := W) rfl rfl ?_ (hK _ _ (LKeep.refl _ _ _) rfl)
        go_simp
       | 3, hoi, hom =>
        have z7 : ao.tmps[7]?.getD undef = .string ⟨#[45]⟩ := hU.same 7 (by decide)
        refine wpOp_value (v := .string ⟨#[45]⟩) (W' := W) rfl rfl ?_ (hK _ _ (LKeep.refl _ _ _) rfl)
        go_simp
       | 4, hoi, hom =>
        have z6 : ao.tmps[6]?.getD undef = .pointer (some ⟨wr.heap.size, 0, none⟩) := hU.same 6 (by decide)
        refine wpOp_value (v := .pointer (some ⟨wr.heap.size, 2, none⟩)) (W' := W) rfl rfl ?_ (hK _ _ (LKeep.refl _ _ _) rfl)
        go_simp
       | 5, hoi, hom =>
        have l4 := haft _ rfl ⟨4, .data⟩ (by simp) rfl
        have s4 : ao.tmps[32]?.getD undef = .pointer (some ⟨wr.heap.size, 2, none⟩) := (hU.slot 4 (by decide) l4).trans (hpv 4 l4)
        have y0 := (hk.cell (b := wr.heap.size) (o := 2) (hz6) (fun h => h)).trans (e2)
        refine wpOp_value (v := .int .i64 ((ln : Nat) : Int)) (W' := W) rfl rfl ?_ (hK _ _ (LKeep.refl _ _ _) rfl)
        go_simp
       | 6, hoi, hom =>
        have l5 := haft _ rfl ⟨5, .data⟩ (by simp) rfl
        have s5 : ao.tmps[33]?.getD undef = .int .i64 ((ln : Nat) : Int) := (hU.slot 5 (by decide) l5).trans (hpv 5 l5)
        refine wpOp_enter (f := 111) (args := #[.int .i64 ((ln : Nat) : Int)]) (W' := W) rfl rfl ?_ ((Tryz.strconv_Itoa_small ln hln100 W).mono (fun e w'' h => ?_))
        · go_simp
        · obtain ⟨he, rfl⟩ := h
          exact ⟨_, he, hK _ _ (LKeep.refl _ _ _) rfl⟩
       | 7, hoi, hom =>
        have l2 := haft _ rfl ⟨2, .data⟩ (by simp) rfl
        have s2 : ao.tmps[30]?.getD undef = .string nm := (hU.slot 2 (by decide) l2).trans (hpv 2 l2)
        have l3 := haft _ rfl ⟨3, .data⟩ (by simp) rfl
        have s3 : ao.tmps[31]?.getD undef = .string ⟨#[45]⟩ := (hU.slot 3 (by decide) l3).trans (hpv 3 l3)
        have l6 := haft _ rfl ⟨6, .data⟩ (by simp) rfl
        have s6 : ao.tmps[34]?.getD undef = .string ⟨(Lib.decDigits ln).toArray⟩ := (hU.slot 6 (by decide) l6).trans (hpv 6 l6)
        refine wpOp_value (v := .slice (some ⟨W.heap.size, 0, none⟩) 4 4) (W' := (W.alloc (.cells #[.string ⟨#[115, 116, 101, 112]⟩, .string nm, .string ⟨#[45]⟩, .string ⟨(Lib.decDigits ln).toArray⟩] 9))) rfl rfl ?_ (hK _ _ (LKeep.below ((Below.refl _ _).alloc (Nat.le_refl _) _) (fun h => h)) ⟨_, 0, rfl, ⟨Blk.made, hk.size⟩⟩)
        go_simp
       | oi + 8, hoi, hom => exact absurd (of_decide_eq_true hom) (by omega)
      case henda =>
       intro listed vs ao W hG hk0 hpv hpre
       have hkk := (LKeep.drew (fun _ => False) (M := fun _ => True) V (fun h => h)).trans hk0
       have hk := hkk.1
       have hkm := hkk.2
       clear hkk
       have hact := hG.act
       have hT := hG.lst hpre 0 #[true, true, true, true, true, true, true, true, false] rfl (by kernel_rfl) (hpre 0 (by decide) (by decide))
       rw [hG.ix hT (l := [0, 1, 2, 3, 4, 5, 6, 7]) (by kernel_rfl)] at hact
       rw [hG.lo hT (k := 1) (by kernel_rfl)]
       have hv0 : vs 0 = .func (.func 108) #[] #[.pointer (some ⟨gb, 0, none⟩)] := hpv 0 (hpre 0 (by decide) (by decide))
       have hv1 : vs 1 = .pointer (some ⟨wr.heap.size, 0, none⟩) := hpv 1 (hpre 1 (by decide) (by decide))
       have hv2 : vs 2 = .string nm := hpv 2 (hpre 2 (by decide) (by decide))
       have hv3 : vs 3 = .string ⟨#[45]⟩ := hpv 3 (hpre 3 (by decide) (by decide))
       have hv4 : vs 4 = .pointer (some ⟨wr.heap.size, 2, none⟩) := hpv 4 (hpre 4 (by decide) (by decide))
       have hv5 : vs 5 = .int .i64 ((ln : Nat) : Int) := hpv 5 (hpre 5 (by decide) (by decide))
       have hv6 : vs 6 = .string ⟨(Lib.decDigits ln).toArray⟩ := hpv 6 (hpre 6 (by decide) (by decide))
       obtain ⟨gl7, cp7, hv7, hi7⟩ := hpv 7 (hpre 7 (by decide) (by decide))
       clear hpv hpre hG hk0
       obtain rfl : ao = _ := hact
       subst hT
       simp only [setAll, List.setIfInBounds_toArray, List.set_cons_succ, List.set_cons_zero, List.getD_cons_succ, List.getD_cons_zero]
       simp only [hv0, hv1, hv2, hv3, hv4, hv5, hv6, hv7]
       clear hv0 hv1 hv2 hv3 hv4 hv5 hv6 hv7
       refine wpAny_all (rs := [8]) (by kernel_rfl) (by simp) ?_
       intro i2 hi2
       obtain rfl : i2 = 8 := by simpa using hi2
       have hbl := hk.below (B := V.heap.size) (fun k h => h.elim) (Nat.le_refl _)
       refine wpOp_enter (f := 108) (args := #[.slice (some ⟨gl7, 0, none⟩) 4 4, .pointer (some ⟨gb, 0, none⟩)]) (W' := W) rfl rfl ?_ ((line_any (B := gb) (b := gb) (q := gl7) (bs := Lib.byteCells (textS b j)) (ws := [wStep, nm, wDash, ⟨(Lib.decDigits ln).toArray⟩]) (c := 4) (builder_next HBU.out hbl) (fun jj x hj => ?cc) hi7.k.lt (by simp) ?cs ?cn ?cb).mono (fun e w'' h => ?_))
       case cc =>
        have := hi7.k.at_ jj
        match jj, hj with
        | 0, hj => obtain rfl : _ = x := Option.some.inj hj; exact this
        | 1, hj => obtain rfl : _ = x := Option.some.inj hj; exact this
        | 2, hj => obtain rfl : _ = x := Option.some.inj hj; exact this
        | 3, hj => obtain rfl : _ = x := Option.some.inj hj; exact this
       case cs => exact HJL.out
       case cn => exact HTL.out
       case cb => have := hbl.size; have := HVB.out.size; have := HGB.out; omega
       · go_simp
       · obtain ⟨he, hb8, hb9⟩ := h
         refine ⟨_, he, ?_⟩
         refine wpAny_done (by kernel_rfl) ?_ _
         have hgV : gb ≤ V.heap.size := by have := HVB.out.size; have := HGB.out; omega
         have HB9 := hide (HBW.out.trans ((HVB.out.mono (by have := HGB.out; omega)).trans ((hbl.mono hgV).trans hb9)))
         rw [line_cells, ← HL.out, ← HSS.out] at hb8
         have HI9 : Hid (Lib.IsBuilderF 145 5 gb gb (Lib.byteCells (textS b (j + 1))) w'') := hide (.inr hb8)
         clear hb8 hb9 hbl hk hkm
         go_wp2_with fail
         go_roundw
         case rel => exact ⟨j + 1, hlt, by simp, HI9, HB9⟩
         case measure => simp [intOf]; omega
    · have hml : (m : Int) < (b.steps.length : Int) := by omega
      have hml' : m < b.steps.length := by omega
      obtain ⟨gm, om, eqm, _, hm0, _, _⟩ := hst.steps hml'
      obtain ⟨rfl, rfl⟩ : g1 = gm ∧ o1 = om := by injection eqm with e; injection e with e1 e2; exact ⟨e1, e2⟩
      have x0w := HKB.out.at_ 0
      simp only [List.getElem?_toArray, List.getElem?_cons_zero] at x0w
      have hg1w : g1 < wr.heap.size := by have := hb1.size; omega
      have HL := hide (show stepWs b (nth b.steps j) = [wStep, (nth b.steps j).name, (nth b.steps m).name, ⟨(Lib.decDigits ln).toArray⟩] by rw [stepWs, hw, hln]; rfl)
      have HJL := hide (join_line [wStep, (nth b.steps j).name, (nth b.steps m).name, ⟨(Lib.decDigits ln).toArray⟩] (by rw [← HL.out]; exact step_line HV.out hlt))
      have HTL := hide (show (Lib.byteCells (textS b j)).length ≤ 100000 by have := textS_len HV.out j hj; rw [Lib.byteCells, List.length_map]; omega)
      go_upto_region 9 with fail
      generalize hnm : (nth b.steps j).name = nm at *
      generalize hnm2 : (nth b.steps m).name = fm at *
      clear hnm2 hnm hw hln hst h0 h1 h2 hf hm0 x0w
      have HVB := hide ((Below.refl wr.heap.size wr).alloc (Nat.le_refl _) (.cells #[.string nm, .int .i64 (m : Int), .int .i64 (ln : Int)] 68))
      have HBLK := hide (show Blk (wr.alloc (.cells #[.string nm, .int .i64 (m : Int), .int .i64 (ln : Int)] 68)) wr.heap.size 68 _ from Blk.made)
      generalize (wr.alloc (.cells #[.string nm, .int .i64 (m : Int), .int .i64 (ln : Int)] 68)) = V at *
      have HBU := hide (builder_next HBU0.out HVB.out)
      have hz6 := HBLK.out.lt
      have e0 := HBLK.out.at_ 0
      have e2 := HBLK.out.at_ 2
      simp only [List.getElem?_toArray, List.getElem?_cons_zero, List.getElem?_cons_succ] at e0 e2
      refine wp_region_rel4 (dst := fun oi => [28, 29, 30, 31, 32, 33, 34, 35, 0].getD oi 0) (mono := fun oi => decide (oi < 8)) (pre := fun oi => decide (oi < 8)) (R := LKeep (fun _ => False) (fun _ => True))
       (Pv := fun oi v W => match oi with
        | 0 => v = .func (.func 108) #[] #[.pointer (some ⟨gb, 0, none⟩)]
        | 1 => v = .pointer (some ⟨wr.heap.size, 0, none⟩)
        | 2 => v = .string nm
        | 3 => v = .string fm
        | 4 => v = .pointer (some ⟨wr.heap.size, 2, none⟩)
        | 5 => v = .int .i64 ((ln : Nat) : Int)
        | 6 => v = .string ⟨(Lib.decDigits ln).toArray⟩
        | 7 => ∃ gl cp, v = .slice (some ⟨gl, 0, none⟩) 4 4 ∧ MadeB W V.heap.size gl cp 9 #[.string ⟨#[115, 116, 101, 112]⟩, .string nm, .string fm, .string ⟨(Lib.decDigits ln).toArray⟩]
        | _ => True) (by kernel_rfl) (by kernel_rfl) (LKeep.refl _ _) (fun _ _ _ h h' => h.trans h') ?hstb ?hstepb ?hendb
      case hstb =>
       intro oi v W W' h hk
       match oi, h with
       | 0, h => exact h
       | 1, h => exact h
       | 2, h => exact h
       | 3, h => exact h
       | 4, h => exact h
       | 5, h => exact h
       | 6, h => exact h
       | 7, h => obtain ⟨gl, cp, h1, h2⟩ := h; exact ⟨gl, cp, h1, h2.next (hk.1.below (B := W.heap.size) (fun k h => h.elim) (Nat.le_refl _))⟩
       | oi + 8, h => exact trivial
      case hstepb =>
       intro oi hoi hom listed vs ao W hU hk0 hpv haft Ko hK
       have hkk := (LKeep.drew (fun _ => False) (M := fun _ => True) V (fun h => h)).trans hk0
       have hk := hkk.1
       have hkm := hkk.2
       clear hkk
       match oi, hoi, hom with
       | 0, hoi, hom =>
        have z4 : ao.tmps[4]?.getD undef = .func (.func 108) #[] #[.pointer (some ⟨gb, 0, none⟩)] := hU.same 4 (by decide)
        refine wpOp_value (v := .func (.func 108) #[] #[.pointer (some ⟨gb, 0, none⟩)]) (W' := W) rfl rfl ?_ (hK _ _ (LKeep.refl _ _ _) rfl)
        go_simp
       | 1, hoi, hom =>
        have z6 : ao.tmps[6]?.getD undef = .pointer (some ⟨wr.heap.size, 0, none⟩) := hU.same 6 (by decide)
        refine wpOp_value (v := .pointer (some ⟨wr.heap.size, 0, none⟩)) (W' := W) rfl rfl ?_ (hK _ _ (LKeep.refl _ _ _) rfl)
        go_simp
       | 2, hoi, hom =>
        have l1 := haft _ rfl ⟨1, .data⟩ (by simp) rfl
        have s1 : ao.tmps[29]?.getD undef = .pointer (some ⟨wr.heap.size, 0, none⟩) := (hU.slot 1 (by decide) l1).trans (hpv 1 l1)
        have y0 := (hk.cell (b := wr.heap.size) (o := 0) (hz6) (fun h => h)).trans (e0)
        refine wpOp_value (v := .string nm) (W' := W) rfl rfl ?_ (hK _ _ (LKeep.refl _ _ _) rfl)
        go_simp
       | 3, hoi, hom =>
        have z7 : ao.tmps[7]?.getD undef = .string fm := hU.same 7 (by decide)
        refine wpOp_value (v := .string fm) (W' := W) rfl rfl ?_ (hK _ _ (LKeep.refl _ _ _) rfl)
        go_simp
       | 4, hoi, hom =>
        have z6 : ao.tmps[6]?.getD undef = .pointer (some ⟨wr.heap.size, 0, none⟩) := hU.same 6 (by decide)
        refine wpOp_value (v := .pointer (some ⟨wr.heap.size, 2, none⟩)) (W' := W) rfl rfl ?_ (hK _ _ (LKeep.refl _ _ _) rfl)
        go_simp
       | 5, hoi, hom =>
        have l4 := haft _ rfl ⟨4, .data⟩ (by simp) rfl
        have s4 : ao.tmps[32]?.getD undef = .pointer (some ⟨wr.heap.size, 2, none⟩) := (hU.slot 4 (by decide) l4).trans (hpv 4 l4)
        have y0 := (hk.cell (b := wr.heap.size) (o := 2) (hz6) (fun h => h)).trans (e2)
        refine wpOp_value (v := .int .i64 ((ln : Nat) : Int)) (W' := W) rfl rfl ?_ (hK _ _ (LKeep.refl _ _ _) rfl)
        go_simp
       | 6, hoi, hom =>
        have l5 := haft _ rfl ⟨5, .data⟩ (by simp) rfl
        have s5 : ao.tmps[33]?.getD undef = .int .i64 ((ln : Nat) : Int) := (hU.slot 5 (by decide) l5).trans (hpv 5 l5)
        refine wpOp_enter (f := 111) (args := #[.int .i64 ((ln : Nat) : Int)]) (W' := W) rfl rfl ?_ ((Tryz.strconv_Itoa_small ln hln100 W).mono (fun e w'' h => ?_))
        · go_simp
        · obtain ⟨he, rfl⟩ := h
          exact ⟨_, he, hK _ _ (LKeep.refl _ _ _) rfl⟩
       | 7, hoi, hom =>
        have l2 := haft _ rfl ⟨2, .data⟩ (by simp) rfl
        have s2 : ao.tmps[30]?.getD undef = .string nm := (hU.slot 2 (by decide) l2).trans (hpv 2 l2)
        have l3 := haft _ rfl ⟨3, .data⟩ (by simp) rfl
        have s3 : ao.tmps[31]?.getD undef = .string fm := (hU.slot 3 (by decide) l3).trans (hpv 3 l3)
        have l6 := haft _ rfl ⟨6, .data⟩ (by simp) rfl
        have s6 : ao.tmps[34]?.getD undef = .string ⟨(Lib.decDigits ln).toArray⟩ := (hU.slot 6 (by decide) l6).trans (hpv 6 l6)
        refine wpOp_value (v := .slice (some ⟨W.heap.size, 0, none⟩) 4 4) (W' := (W.alloc (.cells #[.string ⟨#[115, 116, 101, 112]⟩, .string nm, .string fm, .string ⟨(Lib.decDigits ln).toArray⟩] 9))) rfl rfl ?_ (hK _ _ (LKeep.below ((Below.refl _ _).alloc (Nat.le_refl _) _) (fun h => h)) ⟨_, 0, rfl, ⟨Blk.made, hk.size⟩⟩)
        go_simp
       | oi + 8, hoi, hom => exact absurd (of_decide_eq_true hom) (by omega)
      case hendb =>
       intro listed vs ao W hG hk0 hpv hpre
       have hkk := (LKeep.drew (fun _ => False) (M := fun _ => True) V (fun h => h)).trans hk0
       have hk := hkk.1
       have hkm := hkk.2
       clear hkk
       have hact := hG.act
       have hT := hG.lst hpre 0 #[true, true, true, true, true, true, true, true, false] rfl (by kernel_rfl) (hpre 0 (by decide) (by decide))
       rw [hG.ix hT (l := [0, 1, 2, 3, 4, 5, 6, 7]) (by kernel_rfl)] at hact
       rw [hG.lo hT (k := 1) (by kernel_rfl)]
       have hv0 : vs 0 = .func (.func 108) #[] #[.pointer (some ⟨gb, 0, none⟩)] := hpv 0 (hpre 0 (by decide) (by decide))
       have hv1 : vs 1 = .pointer (some ⟨wr.heap.size, 0, none⟩) := hpv 1 (hpre 1 (by decide) (by decide))
       have hv2 : vs 2 = .string nm := hpv 2 (hpre 2 (by decide) (by decide))
       have hv3 : vs 3 = .string fm := hpv 3 (hpre 3 (by decide) (by decide))
       have hv4 : vs 4 = .pointer (some ⟨wr.heap.size, 2, none⟩) := hpv 4 (hpre 4 (by decide) (by decide))
       have hv5 : vs 5 = .int .i64 ((ln : Nat) : Int) := hpv 5 (hpre 5 (by decide) (by decide))
       have hv6 : vs 6 = .string ⟨(Lib.decDigits ln).toArray⟩ := hpv 6 (hpre 6 (by decide) (by decide))
       obtain ⟨gl7, cp7, hv7, hi7⟩ := hpv 7 (hpre 7 (by decide) (by decide))
       clear hpv hpre hG hk0
       obtain rfl : ao = _ := hact
       subst hT
       simp only [setAll, List.setIfInBounds_toArray, List.set_cons_succ, List.set_cons_zero, List.getD_cons_succ, List.getD_cons_zero]
       simp only [hv0, hv1, hv2, hv3, hv4, hv5, hv6, hv7]
       clear hv0 hv1 hv2 hv3 hv4 hv5 hv6 hv7
       refine wpAny_all (rs := [8]) (by kernel_rfl) (by simp) ?_
       intro i2 hi2
       obtain rfl : i2 = 8 := by simpa using hi2
       have hbl := hk.below (B := V.heap.size) (fun k h => h.elim) (Nat.le_refl _)
       refine wpOp_enter (f := 108) (args := #[.slice (some ⟨gl7, 0, none⟩) 4 4, .pointer (some ⟨gb, 0, none⟩)]) (W' := W) rfl rfl ?_ ((line_any (B := gb) (b := gb) (q := gl7) (bs := Lib.byteCells (textS b j)) (ws := [wStep, nm, fm, ⟨(Lib.decDigits ln).toArray⟩]) (c := 4) (builder_next HBU.out hbl) (fun jj x hj => ?cc) hi7.k.lt (by simp) ?cs ?cn ?cb).mono (fun e w'' h => ?_))
       case cc =>
        have := hi7.k.at_ jj
        match jj, hj with
        | 0, hj => obtain rfl : _ = x := Option.some.inj hj; exact this
        | 1, hj => obtain rfl : _ = x := Option.some.inj hj; exact this
        | 2, hj => obtain rfl : _ = x := Option.some.inj hj; exact this
        | 3, hj => obtain rfl : _ = x := Option.some.inj hj; exact this
       case cs => exact HJL.out
       case cn => exact HTL.out
       case cb => have := hbl.size; have := HVB.out.size; have := HGB.out; omega
       · go_simp
       · obtain ⟨he, hb8, hb9⟩ := h
         refine ⟨_, he, ?_⟩
         refine wpAny_done (by kernel_rfl) ?_ _
         have hgV : gb ≤ V.heap.size := by have := HVB.out.size; have := HGB.out; omega
         have HB9 := hide (HBW.out.trans ((HVB.out.mono (by have := HGB.out; omega)).trans ((hbl.mono hgV).trans hb9)))
         rw [line_cells, ← HL.out, ← HSS.out] at hb8
         have HI9 : Hid (Lib.IsBuilderF 145 5 gb gb (Lib.byteCells (textS b (j + 1))) w'') := hide (.inr hb8)
         clear hb8 hb9 hbl hk hkm
         go_wp2_with fail
         go_roundw
         case rel => exact ⟨j + 1, hlt, by simp, HI9, HB9⟩
         case measure => simp [intOf]; omega
  · obtain rfl : j = b.steps.length := by omega
    have HB3 := hide (HB1.out.trans (HBW.out.mono (Nat.le_of_lt hzg)))
    have HKB := hide (show Blk wr w.heap.size 25 _ from (HBW.out.block _ hzg).trans HX1.out.k)
    have x1 := HKB.out.at_ 1
    have x0w := HKB.out.at_ 0
    simp only [List.getElem?_toArray, List.getElem?_cons_zero, List.getElem?_cons_succ] at x1 x0w
    have hz1 := HKB.out.lt
    have hgr : gb < wr.heap.size := by have := HBW.out.size; omega
    have HI3 : Hid (Lib.IsBuilderF 145 5 gb gb (Lib.byteCells (textS b b.steps.length ++ textT b 0)) wr) := hide (by rw [show textT b 0 = [] from rfl, List.append_nil]; exact HBI.out)
    have HST3 := hide (HST.out.below HB3.out)
    have HTA3 := hide (HTA.out.below HB3.out)
    clear HBI HBW HB1 HX1 HST HTA hz2 HGB
    obtain ⟨wq, rfl⟩ : ∃ wq : World, wq = wr := ⟨_, rfl⟩
    go_wp2_with fail
    clear x1 x0w
    go_loopw [9, 41, 42, 43, 44, 45, 46, 47, 48, 49, 50, 51, 52, 53, 54, 55, 56, 57, 58, 59, 60, 61] (fun _ i _ _ _ _ _ _ _ _ _ _ _ _ _ _ _ _ _ _ _ _ wr => ∃ j : Nat, j ≤ b.tallies.length ∧ i = .int .i64 (j : Nat) ∧ Hid (Lib.IsBuilderF 145 5 gb gb (Lib.byteCells (textS b b.steps.length ++ textT b j)) wr) ∧ Hid (Below gb wq wr)) (fun _ i _ _ _ _ _ _ _ _ _ _ _ _ _ _ _ _ _ _ _ _ _ => b.tallies.length - (intOf i).toNat)
    case atStart => exact ⟨0, Nat.zero_le _, rfl, HI3, hide (Below.refl _ _)⟩
    case round =>
     obtain ⟨j, hj, rfl, HBI, HBW⟩ := hrel
     clear HI3
     by_cases hlt : j < b.tallies.length
     · have hjl : (j : Int) < (b.tallies.length : Int) := by omega
       have HTS := hide (textT_succ b hlt)
       have hbq := HBW.out.mono (Nat.le_of_lt hzg)
       have hwg := HBW.out.size
       have HKB4 := hide (show Blk wr w.heap.size 25 _ from (HBW.out.block _ hzg).trans HKB.out)
       obtain ⟨gq, oq, rfl, hgq, h0, h1, h2⟩ := (HTA3.out.below hbq).tallies hlt
       obtain ⟨⟨k1, k2⟩, ⟨k3, k4⟩, k5, k6⟩ := HV.out.tally j hlt
       obtain ⟨sn, hsn⟩ : ∃ sn : Nat, (nth b.tallies j).step = (sn : Int) := ⟨(nth b.tallies j).step.toNat, by omega⟩
       obtain ⟨hn, hhn⟩ : ∃ hn : Nat, (nth b.tallies j).hands = (hn : Int) := ⟨(nth b.tallies j).hands.toNat, by omega⟩
       obtain ⟨fn, hfn⟩ : ∃ fn : Nat, (nth b.tallies j).off = (fn : Int) := ⟨(nth b.tallies j).off.toNat, by omega⟩
       have hh100 : hn < 100 := by omega
       have hf100 : fn < 100 := by omega
       have hsl : sn < b.steps.length := by omega
       have hsl' : (sn : Int) < (b.steps.length : Int) := by omega
       obtain ⟨gm, om, eqm, _, xn, _, _⟩ := (HST3.out.below hbq).steps hsl
       obtain ⟨rfl, rfl⟩ : g1 = gm ∧ o1 = om := by injection eqm with e; injection e with e1 e2; exact ⟨e1, e2⟩
       have HL := hide (show tallyWs b (nth b.tallies j) = [wTally, (nth b.steps sn).name, ⟨(Lib.decDigits hn).toArray⟩, ⟨(Lib.decDigits fn).toArray⟩] by rw [tallyWs, hsn, hhn, hfn]; rfl)
       have HJL := hide (join_line [wTally, (nth b.steps sn).name, ⟨(Lib.decDigits hn).toArray⟩, ⟨(Lib.decDigits fn).toArray⟩] (by rw [← HL.out]; exact tally_line HV.out hlt))
       have HTL := hide (show (Lib.byteCells (textS b b.steps.length ++ textT b j)).length ≤ 100000 by have := textS_len HV.out _ (Nat.le_refl _); have := textT_len HV.out j hj; rw [Lib.byteCells, List.length_map, List.length_append]; omega)
       go_upto_region 14 with fail
       generalize hnm : (nth b.steps sn).name = nm at *
       have x0' := HKB4.out.at_ 0
       simp only [List.getElem?_toArray, List.getElem?_cons_zero] at x0'
       have hg1w : g1 < wr.heap.size := by have := HB3.out.size; omega
       have hz1 := HKB4.out.lt
       clear hnm hsn hhn hfn h0 h1 h2 k1 k2 k3 k4 k5 k6
       have HVB := hide ((Below.refl wr.heap.size wr).alloc (Nat.le_refl _) (.cells #[.int .i64 (sn : Int), .int .i64 (hn : Int), .int .i64 (fn : Int)] 50))
       have HBLK := hide (show Blk (wr.alloc (.cells #[.int .i64 (sn : Int), .int .i64 (hn : Int), .int .i64 (fn : Int)] 50)) wr.heap.size 50 _ from Blk.made)
       have x0 := (HVB.out.cell (p := ⟨w.heap.size, 0, none⟩) hz1).trans x0'
       have xn2 := (HVB.out.cell (p := ⟨g1, o1 + sn * 3, none⟩) hg1w).trans xn
       generalize (wr.alloc (.cells #[.int .i64 (sn : Int), .int .i64 (hn : Int), .int .i64 (fn : Int)] 50)) = V at *
       have HBU := hide (builder_next HBI.out HVB.out)
       have hz9 := HBLK.out.lt
       have hz1 : w.heap.size < V.heap.size := by omega
       have hzg1 : g1 < V.heap.size := by omega
       have e0 := HBLK.out.at_ 0
       have e1 := HBLK.out.at_ 1
       have e2 := HBLK.out.at_ 2
       simp only [List.getElem?_toArray, List.getElem?_cons_zero, List.getElem?_cons_succ] at e0 e1 e2
       clear x0' xn
       refine wp_region_rel4 (dst := fun oi => [45, 46, 47, 48, 49, 50, 51, 52, 53, 54, 55, 56, 57, 58, 59, 0].getD oi 0) (mono := fun oi => decide (oi < 15)) (pre := fun oi => decide (oi < 15)) (R := LKeep (fun _ => False) (fun _ => True))
        (Pv := fun oi v W => match oi with
         | 0 => v = .func (.func 108) #[] #[.pointer (some ⟨gb, 0, none⟩)]
         | 1 => v = .pointer (some ⟨w.heap.size, 0, none⟩)
         | 2 => v = .slice (some ⟨g1, o1, none⟩) b.steps.length c1
         | 3 => v = .pointer (some ⟨wr.heap.size, 0, none⟩)
         | 4 => v = .int .i64 ((sn : Nat) : Int)
         | 5 => v = .pointer (some ⟨g1, o1 + sn * 3, none⟩)
         | 6 => v = .pointer (some ⟨g1, o1 + sn * 3, none⟩)
         | 7 => v = .string nm
         | 8 => v = .pointer (some ⟨wr.heap.size, 1, none⟩)
         | 9 => v = .int .i64 ((hn : Nat) : Int)
         | 10 => v = .string ⟨(Lib.decDigits hn).toArray⟩
         | 11 => v = .pointer (some ⟨wr.heap.size, 2, none⟩)
         | 12 => v = .int .i64 ((fn : Nat) : Int)
         | 13 => v = .string ⟨(Lib.decDigits fn).toArray⟩
         | 14 => ∃ gl cp, v = .slice (some ⟨gl, 0, none⟩) 4 4 ∧ MadeB W V.heap.size gl cp 9 #[.string ⟨#[116, 97, 108, 108, 121]⟩, .string nm, .string ⟨(Lib.decDigits hn).toArray⟩, .string ⟨(Lib.decDigits fn).toArray⟩]
         | _ => True) (by kernel_rfl) (by kernel_rfl) (LKeep.refl _ _) (fun _ _ _ h h' => h.trans h') ?hstc ?hstepc ?hendc
       case hstc =>
        intro oi v W W' h hk
        match oi, h with
        | 0, h => exact h
        | 1, h => exact h
        | 2, h => exact h
        | 3, h => exact h
        | 4, h => exact h
        | 5, h => exact h
        | 6, h => exact h
        | 7, h => exact h
        | 8, h => exact h
        | 9, h => exact h
        | 10, h => exact h
        | 11, h => exact h
        | 12, h => exact h
        | 13, h => exact h
        | 14, h => obtain ⟨gl, cp, h1, h2⟩ := h; exact ⟨gl, cp, h1, h2.next (hk.1.below (B := W.heap.size) (fun k h => h.elim) (Nat.le_refl _))⟩
        | oi + 15, h => exact trivial
       case hstepc =>
        intro oi hoi hom listed vs ao W hU hk0 hpv haft Ko hK
        have hkk := (LKeep.drew (fun _ => False) (M := fun _ => True) V (fun h => h)).trans hk0
        have hk := hkk.1
        have hkm := hkk.2
        clear hkk
        match oi, hoi, hom with
        | 0, hoi, hom =>
         have z4 : ao.tmps[4]?.getD undef = .func (.func 108) #[] #[.pointer (some ⟨gb, 0, none⟩)] := hU.same 4 (by decide)
         refine wpOp_value (v := .func (.func 108) #[] #[.pointer (some ⟨gb, 0, none⟩)]) (W' := W) rfl rfl ?_ (hK _ _ (LKeep.refl _ _ _) rfl)
         go_simp
        | 1, hoi, hom =>
         have z1 : ao.tmps[1]?.getD undef = .pointer (some ⟨w.heap.size, 0, none⟩) := hU.same 1 (by decide)
         refine wpOp_value (v := .pointer (some ⟨w.heap.size, 0, none⟩)) (W' := W) rfl rfl ?_ (hK _ _ (LKeep.refl _ _ _) rfl)
         go_simp
        | 2, hoi, hom =>
         have l1 := haft _ rfl ⟨1, .data⟩ (by simp) rfl
         have s1 : ao.tmps[46]?.getD undef = .pointer (some ⟨w.heap.size, 0, none⟩) := (hU.slot 1 (by decide) l1).trans (hpv 1 l1)
         have y0 := (hk.cell (b := w.heap.size) (o := 0) (hz1) (fun h => h)).trans (x0)
         refine wpOp_value (v := .slice (some ⟨g1, o1, none⟩) b.steps.length c1) (W' := W) rfl rfl ?_ (hK _ _ (LKeep.refl _ _ _) rfl)
         go_simp
        | 3, hoi, hom =>
         have z9 : ao.tmps[9]?.getD undef = .pointer (some ⟨wr.heap.size, 0, none⟩) := hU.same 9 (by decide)
         refine wpOp_value (v := .pointer (some ⟨wr.heap.size, 0, none⟩)) (W' := W) rfl rfl ?_ (hK _ _ (LKeep.refl _ _ _) rfl)
         go_simp
        | 4, hoi, hom =>
         have l3 := haft _ rfl ⟨3, .data⟩ (by simp) rfl
         have s3 : ao.tmps[48]?.getD undef = .pointer (some ⟨wr.heap.size, 0, none⟩) := (hU.slot 3 (by decide) l3).trans (hpv 3 l3)
         have y0 := (hk.cell (b := wr.heap.size) (o := 0) (hz9) (fun h => h)).trans (e0)
         refine wpOp_value (v := .int .i64 ((sn : Nat) : Int)) (W' := W) rfl rfl ?_ (hK _ _ (LKeep.refl _ _ _) rfl)
         go_simp
        | 5, hoi, hom =>
         have l2 := haft _ rfl ⟨2, .data⟩ (by simp) rfl
         have s2 : ao.tmps[47]?.getD undef = .slice (some ⟨g1, o1, none⟩) b.steps.length c1 := (hU.slot 2 (by decide) l2).trans (hpv 2 l2)
         have l4 := haft _ rfl ⟨4, .data⟩ (by simp) rfl
         have s4 : ao.tmps[49]?.getD undef = .int .i64 ((sn : Nat) : Int) := (hU.slot 4 (by decide) l4).trans (hpv 4 l4)
         refine wpOp_value (v := .pointer (some ⟨g1, o1 + sn * 3, none⟩)) (W' := W) rfl rfl ?_ (hK _ _ (LKeep.refl _ _ _) rfl)
         go_simp
        | 6, hoi, hom =>
         have l5 := haft _ rfl ⟨5, .data⟩ (by simp) rfl
         have s5 : ao.tmps[50]?.getD undef = .pointer (some ⟨g1, o1 + sn * 3, none⟩) := (hU.slot 5 (by decide) l5).trans (hpv 5 l5)
         refine wpOp_value (v := .pointer (some ⟨g1, o1 + sn * 3, none⟩)) (W' := W) rfl rfl ?_ (hK _ _ (LKeep.refl _ _ _) rfl)
         go_simp
        | 7, hoi, hom =>
         have l6 := haft _ rfl ⟨6, .data⟩ (by simp) rfl
         have s6 : ao.tmps[51]?.getD undef = .pointer (some ⟨g1, o1 + sn * 3, none⟩) := (hU.slot 6 (by decide) l6).trans (hpv 6 l6)
         have y0 := (hk.cell (b := g1) (o := o1 + sn * 3) (hzg1) (fun h => h)).trans (xn2)
         refine wpOp_value (v := .string nm) (W' := W) rfl rfl ?_ (hK _ _ (LKeep.refl _ _ _) rfl)
         go_simp
        | 8, hoi, hom =>
         have z9 : ao.tmps[9]?.getD undef = .pointer (some ⟨wr.heap.size, 0, none⟩) := hU.same 9 (by decide)
         refine wpOp_value (v := .pointer (some ⟨wr.heap.size, 1, none⟩)) (W' := W) rfl rfl ?_ (hK _ _ (LKeep.refl _ _ _) rfl)
         go_simp
        | 9, hoi, hom =>
         have l8 := haft _ rfl ⟨8, .data⟩ (by simp) rfl
         have s8 : ao.tmps[53]?.getD undef = .pointer (some ⟨wr.heap.size, 1, none⟩) := (hU.slot 8 (by decide) l8).trans (hpv 8 l8)
         have y0 := (hk.cell (b := wr.heap.size) (o := 1) (hz9) (fun h => h)).trans (e1)
         refine wpOp_value (v := .int .i64 ((hn : Nat) : Int)) (W' := W) rfl rfl ?_ (hK _ _ (LKeep.refl _ _ _) rfl)
         go_simp
        | 10, hoi, hom =>
         have l9 := haft _ rfl ⟨9, .data⟩ (by simp) rfl
         have s9 : ao.tmps[54]?.getD undef = .int .i64 ((hn : Nat) : Int) := (hU.slot 9 (by decide) l9).trans (hpv 9 l9)
         refine wpOp_enter (f := 111) (args := #[.int .i64 ((hn : Nat) : Int)]) (W' := W) rfl rfl ?_ ((Tryz.strconv_Itoa_small hn hh100 W).mono (fun e w'' h => ?_))
         · go_simp
         · obtain ⟨he, rfl⟩ := h
           exact ⟨_, he, hK _ _ (LKeep.refl _ _ _) rfl⟩
        | 11, hoi, hom =>
         have z9 : ao.tmps[9]?.getD undef = .pointer (some ⟨wr.heap.size, 0, none⟩) := hU.same 9 (by decide)
         refine wpOp_value (v := .pointer (some ⟨wr.heap.size, 2, none⟩)) (W' := W) rfl rfl ?_ (hK _ _ (LKeep.refl _ _ _) rfl)
         go_simp
        | 12, hoi, hom =>
         have l11 := haft _ rfl ⟨11, .data⟩ (by simp) rfl
         have s11 : ao.tmps[56]?.getD undef = .pointer (some ⟨wr.heap.size, 2, none⟩) := (hU.slot 11 (by decide) l11).trans (hpv 11 l11)
         have y0 := (hk.cell (b := wr.heap.size) (o := 2) (hz9) (fun h => h)).trans (e2)
         refine wpOp_value (v := .int .i64 ((fn : Nat) : Int)) (W' := W) rfl rfl ?_ (hK _ _ (LKeep.refl _ _ _) rfl)
         go_simp
        | 13, hoi, hom =>
         have l12 := haft _ rfl ⟨12, .data⟩ (by simp) rfl
         have s12 : ao.tmps[57]?.getD undef = .int .i64 ((fn : Nat) : Int) := (hU.slot 12 (by decide) l12).trans (hpv 12 l12)
         refine wpOp_enter (f := 111) (args := #[.int .i64 ((fn : Nat) : Int)]) (W' := W) rfl rfl ?_ ((Tryz.strconv_Itoa_small fn hf100 W).mono (fun e w'' h => ?_))
         · go_simp
         · obtain ⟨he, rfl⟩ := h
           exact ⟨_, he, hK _ _ (LKeep.refl _ _ _) rfl⟩
        | 14, hoi, hom =>
         have l7 := haft _ rfl ⟨7, .data⟩ (by simp) rfl
         have s7 : ao.tmps[52]?.getD undef = .string nm := (hU.slot 7 (by decide) l7).trans (hpv 7 l7)
         have l10 := haft _ rfl ⟨10, .data⟩ (by simp) rfl
         have s10 : ao.tmps[55]?.getD undef = .string ⟨(Lib.decDigits hn).toArray⟩ := (hU.slot 10 (by decide) l10).trans (hpv 10 l10)
         have l13 := haft _ rfl ⟨13, .data⟩ (by simp) rfl
         have s13 : ao.tmps[58]?.getD undef = .string ⟨(Lib.decDigits fn).toArray⟩ := (hU.slot 13 (by decide) l13).trans (hpv 13 l13)
         refine wpOp_value (v := .slice (some ⟨W.heap.size, 0, none⟩) 4 4) (W' := (W.alloc (.cells #[.string ⟨#[116, 97, 108, 108, 121]⟩, .string nm, .string ⟨(Lib.decDigits hn).toArray⟩, .string ⟨(Lib.decDigits fn).toArray⟩] 9))) rfl rfl ?_ (hK _ _ (LKeep.below ((Below.refl _ _).alloc (Nat.le_refl _) _) (fun h => h)) ⟨_, 0, rfl, ⟨Blk.made, hk.size⟩⟩)
         go_simp
        | oi + 15, hoi, hom => exact absurd (of_decide_eq_true hom) (by omega)
       case hendc =>
        intro listed vs ao W hG hk0 hpv hpre
        have hkk := (LKeep.drew (fun _ => False) (M := fun _ => True) V (fun h => h)).trans hk0
        have hk := hkk.1
        have hkm := hkk.2
        clear hkk
        have hact := hG.act
        have hT := hG.lst hpre 0 #[true, true, true, true, true, true, true, true, true, true, true, true, true, true, true, false] rfl (by kernel_rfl) (hpre 0 (by decide) (by decide))
        rw [hG.ix hT (l := [0, 1, 2, 3, 4, 5, 6, 7, 8, 9, 10, 11, 12, 13, 14]) (by kernel_rfl)] at hact
        rw [hG.lo hT (k := 1) (by kernel_rfl)]
        have hv0 : vs 0 = .func (.func 108) #[] #[.pointer (some ⟨gb, 0, none⟩)] := hpv 0 (hpre 0 (by decide) (by decide))
        have hv1 : vs 1 = .pointer (some ⟨w.heap.size, 0, none⟩) := hpv 1 (hpre 1 (by decide) (by decide))
        have hv2 : vs 2 = .slice (some ⟨g1, o1, none⟩) b.steps.length c1 := hpv 2 (hpre 2 (by decide) (by decide))
        have hv3 : vs 3 = .pointer (some ⟨wr.heap.size, 0, none⟩) := hpv 3 (hpre 3 (by decide) (by decide))
        have hv4 : vs 4 = .int .i64 ((sn : Nat) : Int) := hpv 4 (hpre 4 (by decide) (by decide))
        have hv5 : vs 5 = .pointer (some ⟨g1, o1 + sn * 3, none⟩) := hpv 5 (hpre 5 (by decide) (by decide))
        have hv6 : vs 6 = .pointer (some ⟨g1, o1 + sn * 3, none⟩) := hpv 6 (hpre 6 (by decide) (by decide))
        have hv7 : vs 7 = .string nm := hpv 7 (hpre 7 (by decide) (by decide))
        have hv8 : vs 8 = .pointer (some ⟨wr.heap.size, 1, none⟩) := hpv 8 (hpre 8 (by decide) (by decide))
        have hv9 : vs 9 = .int .i64 ((hn : Nat) : Int) := hpv 9 (hpre 9 (by decide) (by decide))
        have hv10 : vs 10 = .string ⟨(Lib.decDigits hn).toArray⟩ := hpv 10 (hpre 10 (by decide) (by decide))
        have hv11 : vs 11 = .pointer (some ⟨wr.heap.size, 2, none⟩) := hpv 11 (hpre 11 (by decide) (by decide))
        have hv12 : vs 12 = .int .i64 ((fn : Nat) : Int) := hpv 12 (hpre 12 (by decide) (by decide))
        have hv13 : vs 13 = .string ⟨(Lib.decDigits fn).toArray⟩ := hpv 13 (hpre 13 (by decide) (by decide))
        obtain ⟨gl14, cp14, hv14, hi14⟩ := hpv 14 (hpre 14 (by decide) (by decide))
        clear hpv hpre hG hk0
        obtain rfl : ao = _ := hact
        subst hT
        simp only [setAll, List.setIfInBounds_toArray, List.set_cons_succ, List.set_cons_zero, List.getD_cons_succ, List.getD_cons_zero]
        simp only [hv0, hv1, hv2, hv3, hv4, hv5, hv6, hv7, hv8, hv9, hv10, hv11, hv12, hv13, hv14]
        clear hv0 hv1 hv2 hv3 hv4 hv5 hv6 hv7 hv8 hv9 hv10 hv11 hv12 hv13 hv14
        refine wpAny_all (rs := [15]) (by kernel_rfl) (by simp) ?_
        intro i2 hi2
        obtain rfl : i2 = 15 := by simpa using hi2
        have hbl := hk.below (B := V.heap.size) (fun k h => h.elim) (Nat.le_refl _)
        refine wpOp_enter (f := 108) (args := #[.slice (some ⟨gl14, 0, none⟩) 4 4, .pointer (some ⟨gb, 0, none⟩)]) (W' := W) rfl rfl ?_ ((line_any (B := gb) (b := gb) (q := gl14) (bs := Lib.byteCells (textS b b.steps.length ++ textT b j)) (ws := [wTally, nm, ⟨(Lib.decDigits hn).toArray⟩, ⟨(Lib.decDigits fn).toArray⟩]) (c := 4) (builder_next HBU.out hbl) (fun jj x hj => ?cc) hi14.k.lt (by simp) ?cs ?cn ?cb).mono (fun e w'' h => ?_))
        case cc =>
         have := hi14.k.at_ jj
         match jj, hj with
         | 0, hj => obtain rfl : _ = x := Option.some.inj hj; exact this
         | 1, hj => obtain rfl : _ = x := Option.some.inj hj; exact this
         | 2, hj => obtain rfl : _ = x := Option.some.inj hj; exact this
         | 3, hj => obtain rfl : _ = x := Option.some.inj hj; exact this
        case cs => exact HJL.out
        case cn => exact HTL.out
        case cb => have := hbl.size; have := HVB.out.size; omega
        · go_simp
        · obtain ⟨he, hb8, hb9⟩ := h
          refine ⟨_, he, ?_⟩
          refine wpAny_done (by kernel_rfl) ?_ _
          have hgV : gb ≤ V.heap.size := by have := HVB.out.size; omega
          have HB9 := hide (HBW.out.trans ((HVB.out.mono (by omega)).trans ((hbl.mono hgV).trans hb9)))
          rw [line_cells, ← HL.out, List.append_assoc, ← HTS.out] at hb8
          have HI9 : Hid (Lib.IsBuilderF 145 5 gb gb (Lib.byteCells (textS b b.steps.length ++ textT b (j + 1))) w'') := hide (.inr hb8)
          clear hb8 hb9 hbl hk hkm
          go_wp2_with fail
          go_roundw
          case rel => exact ⟨j + 1, hlt, by simp, HI9, HB9⟩
          case measure => simp [intOf]; omega
     · obtain rfl : j = b.tallies.length := by omega
       have HB4 := hide (HB3.out.trans (HBW.out.mono (Nat.le_of_lt hzg)))
       have HTX := hide (text_all b)
       have hbw : gb ≤ wr.heap.size := by have := HBW.out.size; omega
       go_wp2_with fail
       refine (Tryz.Builder_String_any_f gb gb (textS b b.steps.length ++ textT b b.tallies.length) wr HBI.out hbw).mono ?_
       rintro e w5 ⟨rfl, _, hb5⟩
       have HB5 := hide (HB4.out.trans (hb5.mono (Nat.le_of_lt hzg)))
       rw [← HTX.out]
       clear hb5
       go_wp2_with fail
       go_ret
       exact ⟨rfl, HB5.out⟩
end Go.Proofs.YtocdmkilnbpkdaaGreatDoor
