/- The contract of claim.Check. -/
import Derived.Test.YtllmahcanipcpaaKG
set_option linter.unusedVariables false
set_option linter.unusedSimpArgs false
namespace Go.Proofs.Ytllmahcanipcpaa
open Go.RowKit
attribute [local go_sem ↓] Go.wp_at_zero Go.wp_at_succ

set_option maxHeartbeats 4000000 in
set_option maxRecDepth 100000 in
theorem check_any {f : File} {a : FA} {w : World} (h : FileV w w.heap.size f a) :
    Calls Try.prog 8 #[fileVal f a] w fun e w' => e = .returned (.tuple #[.int .i64 (checkM f).1, .int .i64 (checkM f).2.1, .int .i64 (checkM f).2.2]) ∧ Below w.heap.size w w' := by
  have HPE := hide (show checkM f = if (failM (partyE f) f.parties 4).2 ≠ 0 then (1, failM (partyE f) f.parties 4) else if f.untils.length ≠ f.parties.length then (2, 0, 3) else if (failM dayE f.untils 4).2 ≠ 0 then (2, failM dayE f.untils 4)
    else if (failM (lotE f) f.lots 4).2 ≠ 0 then (3, failM (lotE f) f.lots 4) else if (failM (paperE f) f.papers 5).2 ≠ 0 then (4, failM (paperE f) f.papers 5) else if (failM (claimE f) f.claims 5).2 ≠ 0 then (5, failM (claimE f) f.claims 5) else (0, 0, 0) from rfl)
  have HX := hide (BoxF.made h)
  have HB := hide (show Below w.heap.size w (w.alloc (.cells (fileCells f a) 28)) from (Below.refl _ _).alloc (Nat.le_refl _) _)
  have hm1 := h.m1
  have hm2 := h.m2
  unfold maxLen at hm1 hm2
  clear h
  generalize hq1 : failM (partyE f) f.parties 4 = r1 at *
  obtain ⟨i1, e1⟩ := r1
  have Q1 := hide hq1
  clear hq1
  generalize hq2 : failM dayE f.untils 4 = r2 at *
  obtain ⟨i2, e2⟩ := r2
  have Q2 := hide hq2
  clear hq2
  generalize hq3 : failM (lotE f) f.lots 4 = r3 at *
  obtain ⟨i3, e3⟩ := r3
  have Q3 := hide hq3
  clear hq3
  generalize hq4 : failM (paperE f) f.papers 5 = r4 at *
  obtain ⟨i4, e4⟩ := r4
  have Q4 := hide hq4
  clear hq4
  generalize hq5 : failM (claimE f) f.claims 5 = r5 at *
  obtain ⟨i5, e5⟩ := r5
  have Q5 := hide hq5
  clear hq5
  go_enter Try.func8, Try.ntmps8
  go_upto_region 1 with (fail)
  generalize (w.alloc (.cells #[.slice a.A1 f.parties.length a.c1, .slice a.A2 f.untils.length a.c2, .slice a.A3 f.lots.length a.c3, .slice a.A4 f.papers.length a.c4, .slice a.A5 f.claims.length a.c5] 28)) = v0 at *
  obtain ⟨z, x0, _, _, _, _⟩ := HX.out.cells
  by_cases he1 : e1 = 0
  · have E1 := hide he1
    subst he1
    go_upto_region 4 with (go_at_call 27; refine (failingS_any HX.out.v.parties HX.out.v.m1 4 28 #[.pointer (some ⟨w.heap.size, 0, none⟩)] (partyE f) (fun j W hj hW => party_any (HX.out.next hW) hj) (enters_of Try.func28 (by kernel_rfl) rfl)).mono ?_; rintro e v1 ⟨rfl, hb⟩; rw [Q1.out])
    have HB := hide (HB.out.trans (hb.mono HB.out.size)); have HX := hide (HX.out.next hb); clear hb
    obtain ⟨z, x0, x1, _, _, _⟩ := HX.out.cells
    by_cases hl : f.untils.length = f.parties.length
    · have hd : ((f.untils.length : Int) == (f.parties.length : Int)) = true := by simp [hl]
      have HL := hide hl
      clear hl
      go_upto_region 6 with (fail)
      clear hd z x0 x1
      obtain ⟨z, _, x1, _, _, _⟩ := HX.out.cells
      by_cases he2 : e2 = 0
      · have E2 := hide he2
        subst he2
        go_upto_region 9 with (go_at_call 31; refine (failingI_any HX.out.v.untils HX.out.v.m2 4 32 #[] dayE (fun j W _ _ => day_any _ _ _) (enters_of Try.func32 (by kernel_rfl) rfl)).mono ?_; rintro e v2 ⟨rfl, hb⟩; rw [Q2.out])
        have HB := hide (HB.out.trans (hb.mono HB.out.size)); have HX := hide (HX.out.next hb); clear hb
        clear z x1
        obtain ⟨z, _, _, x2, _, _⟩ := HX.out.cells
        by_cases he3 : e3 = 0
        · have E3 := hide he3
          subst he3
          go_upto_region 12 with (go_at_call 34; refine (failingL_any HX.out.v.lots HX.out.v.m3 4 35 #[.pointer (some ⟨w.heap.size, 0, none⟩)] (lotE f) (fun j W hj hW => lot_any (HX.out.next hW) j _ ((HX.out.next hW).v.routes j hj) (HX.out.v.fit j hj)) (enters_of Try.func35 (by kernel_rfl) rfl)).mono ?_; rintro e v3 ⟨rfl, hb⟩; rw [Q3.out])
          have HB := hide (HB.out.trans (hb.mono HB.out.size)); have HX := hide (HX.out.next hb); clear hb
          clear z x2
          obtain ⟨z, _, _, _, x3, _⟩ := HX.out.cells
          by_cases he4 : e4 = 0
          · have E4 := hide he4
            subst he4
            go_upto_region 15 with (go_at_call 39; refine (failingP_any HX.out.v.papers HX.out.v.m4 5 40 #[.pointer (some ⟨w.heap.size, 0, none⟩)] (paperE f) (fun j W hj hW => paper_any (HX.out.next hW) j _) (enters_of Try.func40 (by kernel_rfl) rfl)).mono ?_; rintro e v4 ⟨rfl, hb⟩; rw [Q4.out])
            have HB := hide (HB.out.trans (hb.mono HB.out.size)); have HX := hide (HX.out.next hb); clear hb
            clear z x3
            obtain ⟨z, _, _, _, _, x4⟩ := HX.out.cells
            by_cases he5 : e5 = 0
            · have E5 := hide he5
              subst he5
              go_wp2_with (go_at_call 42; refine (failingC_any HX.out.v.claims HX.out.v.m5 5 43 #[.pointer (some ⟨w.heap.size, 0, none⟩)] (claimE f) (fun j W hj hW => claimE_any (HX.out.next hW) j _) (enters_of Try.func43 (by kernel_rfl) rfl)).mono ?_; rintro e v5 ⟨rfl, hb⟩; rw [Q5.out])
              have HB := hide (HB.out.trans (hb.mono HB.out.size)); have HX := hide (HX.out.next hb); clear hb
              go_ret3
              exact ⟨ret_t3 (by rw [HPE.out, if_neg (by simp), if_neg (Classical.not_not.2 HL.out), if_neg (by simp), if_neg (by simp), if_neg (by simp), if_neg (by simp)]) (by rw [HPE.out, if_neg (by simp), if_neg (Classical.not_not.2 HL.out), if_neg (by simp), if_neg (by simp), if_neg (by simp), if_neg (by simp)]) (by rw [HPE.out, if_neg (by simp), if_neg (Classical.not_not.2 HL.out), if_neg (by simp), if_neg (by simp), if_neg (by simp), if_neg (by simp)]), HB.out⟩
            · have hn5 : (e5 == 0) = false := by simpa using he5
              have E5 := hide he5
              clear he5
              go_wp2_with (go_at_call 42; refine (failingC_any HX.out.v.claims HX.out.v.m5 5 43 #[.pointer (some ⟨w.heap.size, 0, none⟩)] (claimE f) (fun j W hj hW => claimE_any (HX.out.next hW) j _) (enters_of Try.func43 (by kernel_rfl) rfl)).mono ?_; rintro e v5 ⟨rfl, hb⟩; rw [Q5.out])
              have HB := hide (HB.out.trans (hb.mono HB.out.size)); have HX := hide (HX.out.next hb); clear hb
              go_ret3
              exact ⟨ret_t3 (by rw [HPE.out, if_neg (by simp), if_neg (Classical.not_not.2 HL.out), if_neg (by simp), if_neg (by simp), if_neg (by simp), if_pos E5.out]) (by rw [HPE.out, if_neg (by simp), if_neg (Classical.not_not.2 HL.out), if_neg (by simp), if_neg (by simp), if_neg (by simp), if_pos E5.out]) (by rw [HPE.out, if_neg (by simp), if_neg (Classical.not_not.2 HL.out), if_neg (by simp), if_neg (by simp), if_neg (by simp), if_pos E5.out]), HB.out⟩
          · have hn4 : (e4 == 0) = false := by simpa using he4
            have E4 := hide he4
            clear he4
            go_wp2_with (go_at_call 39; refine (failingP_any HX.out.v.papers HX.out.v.m4 5 40 #[.pointer (some ⟨w.heap.size, 0, none⟩)] (paperE f) (fun j W hj hW => paper_any (HX.out.next hW) j _) (enters_of Try.func40 (by kernel_rfl) rfl)).mono ?_; rintro e v4 ⟨rfl, hb⟩; rw [Q4.out])
            have HB := hide (HB.out.trans (hb.mono HB.out.size)); have HX := hide (HX.out.next hb); clear hb
            go_ret3
            exact ⟨ret_t3 (by rw [HPE.out, if_neg (by simp), if_neg (Classical.not_not.2 HL.out), if_neg (by simp), if_neg (by simp), if_pos E4.out]) (by rw [HPE.out, if_neg (by simp), if_neg (Classical.not_not.2 HL.out), if_neg (by simp), if_neg (by simp), if_pos E4.out]) (by rw [HPE.out, if_neg (by simp), if_neg (Classical.not_not.2 HL.out), if_neg (by simp), if_neg (by simp), if_pos E4.out]), HB.out⟩
        · have hn3 : (e3 == 0) = false := by simpa using he3
          have E3 := hide he3
          clear he3
          go_wp2_with (go_at_call 34; refine (failingL_any HX.out.v.lots HX.out.v.m3 4 35 #[.pointer (some ⟨w.heap.size, 0, none⟩)] (lotE f) (fun j W hj hW => lot_any (HX.out.next hW) j _ ((HX.out.next hW).v.routes j hj) (HX.out.v.fit j hj)) (enters_of Try.func35 (by kernel_rfl) rfl)).mono ?_; rintro e v3 ⟨rfl, hb⟩; rw [Q3.out])
          have HB := hide (HB.out.trans (hb.mono HB.out.size)); have HX := hide (HX.out.next hb); clear hb
          go_ret3
          exact ⟨ret_t3 (by rw [HPE.out, if_neg (by simp), if_neg (Classical.not_not.2 HL.out), if_neg (by simp), if_pos E3.out]) (by rw [HPE.out, if_neg (by simp), if_neg (Classical.not_not.2 HL.out), if_neg (by simp), if_pos E3.out]) (by rw [HPE.out, if_neg (by simp), if_neg (Classical.not_not.2 HL.out), if_neg (by simp), if_pos E3.out]), HB.out⟩
      · have hn2 : (e2 == 0) = false := by simpa using he2
        have E2 := hide he2
        clear he2
        go_wp2_with (go_at_call 31; refine (failingI_any HX.out.v.untils HX.out.v.m2 4 32 #[] dayE (fun j W _ _ => day_any _ _ _) (enters_of Try.func32 (by kernel_rfl) rfl)).mono ?_; rintro e v2 ⟨rfl, hb⟩; rw [Q2.out])
        have HB := hide (HB.out.trans (hb.mono HB.out.size)); have HX := hide (HX.out.next hb); clear hb
        go_ret3
        exact ⟨ret_t3 (by rw [HPE.out, if_neg (by simp), if_neg (Classical.not_not.2 HL.out), if_pos E2.out]) (by rw [HPE.out, if_neg (by simp), if_neg (Classical.not_not.2 HL.out), if_pos E2.out]) (by rw [HPE.out, if_neg (by simp), if_neg (Classical.not_not.2 HL.out), if_pos E2.out]), HB.out⟩
    · have hd : ((f.untils.length : Int) == (f.parties.length : Int)) = false := by simp; omega
      have HL := hide hl
      clear hl
      go_wp2_with fail
      go_ret3
      exact ⟨ret_t3 (by rw [HPE.out, if_neg (by simp), if_pos HL.out]) (by rw [HPE.out, if_neg (by simp), if_pos HL.out]) (by rw [HPE.out, if_neg (by simp), if_pos HL.out]), HB.out⟩
  · have hn1 : (e1 == 0) = false := by simpa using he1
    have E1 := hide he1
    clear he1
    go_wp2_with (go_at_call 27; refine (failingS_any HX.out.v.parties HX.out.v.m1 4 28 #[.pointer (some ⟨w.heap.size, 0, none⟩)] (partyE f) (fun j W hj hW => party_any (HX.out.next hW) hj) (enters_of Try.func28 (by kernel_rfl) rfl)).mono ?_; rintro e v1 ⟨rfl, hb⟩; rw [Q1.out])
    have HB := hide (HB.out.trans (hb.mono HB.out.size)); have HX := hide (HX.out.next hb); clear hb
    go_ret3
    exact ⟨ret_t3 (by rw [HPE.out, if_pos E1.out]) (by rw [HPE.out, if_pos E1.out]) (by rw [HPE.out, if_pos E1.out]), HB.out⟩
end Go.Proofs.Ytllmahcanipcpaa
