/- bundles.Check: its contract. -/
import Derived.Test.YteonpdnncodkaaaGreatDoorClash
import Derived.Test.YteonpdnncodkaaaGreatDoorTake1
set_option linter.unusedVariables false
set_option linter.unusedSimpArgs false
namespace Go.Proofs.YteonpdnncodkaaaGreatDoor
open Go.RowKit

theorem Blk.c2 {w : World} {g : Nat} {t : TypeId} {v0 v1 : Value} (h : Blk w g t #[v0, v1]) : w.cell? ⟨g, 0, none⟩ = some v0 ∧ w.cell? ⟨g, 1, none⟩ = some v1 ∧ ∀ i, w.frozen? ⟨g, i, none⟩ = false := ⟨h.cell 0 rfl, h.cell 1 rfl, h.frozen⟩
theorem findNone_c (A : Option Addr) (c : Nat) (l : List Sec) (id : Int) (w : World) (h : RSecs w A l) (hf : find l id = none) :
    Calls Tryz.prog 17 #[.slice A l.length c, .int .i64 id] w fun e w' => ∃ A5 c5 A6 c6 A7 c7, e = .returned (.tuple #[.agg #[.int .i64 Sec.zero.id, .int .i64 Sec.zero.course, .int .i64 Sec.zero.term, .int .i64 Sec.zero.campus, .int .i64 Sec.zero.seats, .slice A5 Sec.zero.meets.length c5, .slice A6 Sec.zero.groups.length c6, .slice A7 Sec.zero.labs.length c7, .bool Sec.zero.lab], .bool false]) ∧ Below w.heap.size w w' := by
  refine (find_c A c l id w h).mono ?_
  rw [hf]
  rintro e w' ⟨A5, c5, A6, c6, A7, c7, rfl, h, hb⟩
  exact ⟨A5, c5, A6, c6, A7, c7, rfl, hb⟩

set_option maxRecDepth 100000 in
set_option maxHeartbeats 4000000 in
theorem bunCheck_c (A : Option Addr) (c : Nat) (l : List Sec) (sec lab : Int) (w : World) (hG : Glob w) (h : RSecs w A l) :
    Calls Tryz.prog 14 #[.slice A l.length c, .agg #[.int .i64 sec, .int .i64 lab]] w fun e w' => e = .returned (.int .i64 (bunCheck l sec lab)) ∧ Below w.heap.size w w' := by
  have hl := h.len
  have H := Lib.hid h
  clear h
  go_enter Tryz.func14, Tryz.ntmps14
  go_wp2_with fail
  refine (secCheckAll_c A c l _ (hG.below (by go_grown)) (H.out.below (by go_grown))).mono ?_
  rintro e w1 ⟨rfl, hb1⟩
  have kb := (Blk.new w 25 #[.int .i64 sec, .int .i64 lab]).kept hb1 (by simp)
  have HB1 := Lib.hid (bthen ((Below.refl w.heap.size w).alloc (Nat.le_refl _) (.cells #[.int .i64 sec, .int .i64 lab] 25)) (by simp) hb1)
  clear hb1
  by_cases h0 : checkAllS l = 0
  case neg =>
    have eE : Hid (bunCheck l sec lab = checkAllS l) := by unfold Hid bunCheck; rw [if_pos h0]
    have d0 : (checkAllS l != 0) = true := by simp [h0]
    clear h0
    go_wp2
    go_ret
    exact ⟨ret_i64 eE.out.symm, HB1.out⟩
  have H0 := Lib.hid h0
  rw [h0]
  clear h0
  obtain ⟨b0, b1, _⟩ := kb.c2
  go_wp2_with fail
  cases hf : find l sec with
  | none =>
    refine (findNone_c A c l sec _ (H.out.below HB1.out) hf).mono ?_
    rintro e w2 ⟨A5, c5, A6, c6, A7, c7, rfl, hb2⟩
    have eE : Hid (bunCheck l sec lab = 240) := by unfold Hid bunCheck; rw [if_neg (by simp [H0.out]), hf]
    have HB2 := Lib.hid (bthen HB1.out HB1.out.size hb2)
    clear hb2 hf b0 b1
    unfold Sec.zero
    go_wp2
    go_ret
    exact ⟨ret_i64 eE.out.symm, by have h := HB2.out; have hs := h.size; go_grown⟩
  | some s =>
    refine (findSome_c A c l sec s _ (H.out.below HB1.out) hf).mono ?_
    rintro e w2 ⟨A5, c5, A6, c6, A7, c7, rfl, hsi, hb2⟩
    have HB2 := Lib.hid (bthen HB1.out HB1.out.size hb2)
    have HSI := Lib.hid hsi
    have kb2 := kb.kept hb2 kb.lt
    have HF := Lib.hid hf
    have hid := (find_mem hf).2
    clear hb2 hsi hf b0 b1 kb
    cases hlb : s.lab with
    | true =>
      have eE : Hid (bunCheck l sec lab = 240) := by unfold Hid bunCheck; rw [if_neg (by simp [H0.out]), HF.out]; simp only; rw [if_pos hlb]
      clear hid
      go_wp2
      go_ret
      exact ⟨ret_i64 eE.out.symm, by have h := HB2.out; have hs := h.size; go_grown⟩
    | false =>
      have HLB := Lib.hid hlb
      obtain ⟨b0, b1, _⟩ := kb2.c2
      have hblt := kb2.lt
      by_cases hz : s.labs.length = 0
      · by_cases hm : lab = -1
        · have eE : Hid (bunCheck l sec lab = 0) := by unfold Hid bunCheck; rw [if_neg (by simp [H0.out]), HF.out]; simp only; rw [if_neg (by simp [HLB.out]), if_pos ⟨hz, hm⟩]
          subst hm
          clear HLB
          have d1 : (sec == s.id) = true := by simp [hid]
          clear hid
          go_wp2
          go_ret
          exact ⟨ret_i64 eE.out.symm, by have h := HB2.out; have hs := h.size; go_grown⟩
        · have d2 : (lab == -1) = false := by simp [hm]
          have hn := Lib.hid (show ¬ (s.labs.length = 0 ∧ lab = -1) from fun h => hm h.2)
          have d3 : ((s.labs.length : Int) == 0) = true := by simp [List.length_eq_zero_iff.1 hz]
          have d1 : (sec == s.id) = true := by simp [hid]
          clear hid hm hz
          (
 go_wp2_with fail
 have ks := Blk.new w2 40 #[.int .i64 s.id, .int .i64 s.course, .int .i64 s.term, .int .i64 s.campus, .int .i64 s.seats, .slice A5 s.meets.length c5, .slice A6 s.groups.length c6, .slice A7 s.labs.length c7, .bool false]
 have W2 : Below w.heap.size w (w2.alloc (.cells #[.int .i64 s.id, .int .i64 s.course, .int .i64 s.term, .int .i64 s.campus, .int .i64 s.seats, .slice A5 s.meets.length c5, .slice A6 s.groups.length c6, .slice A7 s.labs.length c7, .bool false] 40)) := HB2.out.alloc HB2.out.size _
 have hbs := HB2.out.size
 cases hf2 : find l lab with
 | none =>
   refine (findNone_c A c l lab _ (H.out.below W2) hf2).mono ?_
   rintro e w3 ⟨B5, e5, B6, e6, B7, e7, rfl, hb3⟩
   have eE : Hid (bunCheck l sec lab = 240) := by unfold Hid bunCheck; rw [if_neg (by simp [H0.out]), HF.out]; simp only; rw [if_neg (by simp [HLB.out]), if_neg hn.out, hf2]
   have HB3 := Lib.hid (bthen W2 W2.size hb3)
   clear hb3 hf2 b0 b1 W2 ks
   unfold Sec.zero
   go_wp2
   go_ret
   exact ⟨ret_i64 eE.out.symm, by have h := HB3.out; have hs := h.size; go_grown⟩
 | some x =>
   refine (findSome_c A c l lab x _ (H.out.below W2) hf2).mono ?_
   rintro e w3 ⟨B5, e5, B6, e6, B7, e7, rfl, hxi, hb3⟩
   have HXI := Lib.hid hxi
   have HF2 := Lib.hid hf2
   have HB3 := Lib.hid (bthen W2 W2.size hb3)
   have ks3 := ks.kept hb3 ks.lt
   have kb3 := (kb2.alloc (.cells #[.int .i64 s.id, .int .i64 s.course, .int .i64 s.term, .int .i64 s.campus, .int .i64 s.seats, .slice A5 s.meets.length c5, .slice A6 s.groups.length c6, .slice A7 s.labs.length c7, .bool false] 40)).kept hb3 (by have := kb2.lt; simp; omega)
   have HSI3 := Lib.hid ((HSI.out.below (w' := w2.alloc (.cells #[.int .i64 s.id, .int .i64 s.course, .int .i64 s.term, .int .i64 s.campus, .int .i64 s.seats, .slice A5 s.meets.length c5, .slice A6 s.groups.length c6, .slice A7 s.labs.length c7, .bool false] 40)) (by go_grown)).below hb3)
   clear hb3 hxi hf2 b0 b1 W2 ks kb2
   obtain ⟨s0, s1, s2, s3, s4, s5, s6, s7, s8, _⟩ := ks3.c9
   obtain ⟨b0, b1, _⟩ := kb3.c2
   have hl1 := ks3.lt
   have hl2 := kb3.lt
   have eB : Hid (bunCheck l sec lab = if (s.labs.any fun y => lab == y) = false ∨ x.lab = false ∨ x.term ≠ s.term ∨ clashV s.meets x.meets = true then 240 else 0) := by
     unfold Hid bunCheck; rw [if_neg (by simp [H0.out]), HF.out]; simp only; rw [if_neg (by simp [HLB.out]), if_neg hn.out, HF2.out]
   cases hxl : x.lab with
   | false =>
     have W3 : Below w.heap.size w (w3.alloc (.cells #[.int .i64 x.id, .int .i64 x.course, .int .i64 x.term, .int .i64 x.campus, .int .i64 x.seats, .slice B5 x.meets.length e5, .slice B6 x.groups.length e6, .slice B7 x.labs.length e7, .bool false] 40)) := HB3.out.alloc HB3.out.size _
     have HW3 := Lib.hid W3
     have HC := Lib.hid (containsI_c A7 c7 s.labs lab _ (HSI3.out.l.below (w' := w3.alloc (.cells #[.int .i64 x.id, .int .i64 x.course, .int .i64 x.term, .int .i64 x.campus, .int .i64 x.seats, .slice B5 x.meets.length e5, .slice B6 x.groups.length e6, .slice B7 x.labs.length e7, .bool false] 40)) (by go_grown)))
     clear W3
     cases hany : s.labs.any fun y => lab == y with
     | false =>
       have eE : Hid (bunCheck l sec lab = 240) := by unfold Hid; rw [eB.out, if_pos (.inl hany)]
       rw [hany] at HC
       clear hany
       go_wp2_with (refine HC.out.mono ?_; rintro e w4 ⟨rfl, rfl⟩)
       go_ret
       exact ⟨ret_i64 eE.out.symm, HW3.out⟩
     | true =>
       rw [hany] at HC
       clear hany
       have eE : Hid (bunCheck l sec lab = 240) := by unfold Hid; rw [eB.out, if_pos (.inr (.inl hxl))]
       go_wp2_with (refine HC.out.mono ?_; rintro e w4 ⟨rfl, rfl⟩)
       go_ret
       exact ⟨ret_i64 eE.out.symm, HW3.out⟩
   | true =>
     have W3 : Below w.heap.size w (w3.alloc (.cells #[.int .i64 x.id, .int .i64 x.course, .int .i64 x.term, .int .i64 x.campus, .int .i64 x.seats, .slice B5 x.meets.length e5, .slice B6 x.groups.length e6, .slice B7 x.labs.length e7, .bool true] 40)) := HB3.out.alloc HB3.out.size _
     have HW3 := Lib.hid W3
     have HC := Lib.hid (containsI_c A7 c7 s.labs lab _ (HSI3.out.l.below (w' := w3.alloc (.cells #[.int .i64 x.id, .int .i64 x.course, .int .i64 x.term, .int .i64 x.campus, .int .i64 x.seats, .slice B5 x.meets.length e5, .slice B6 x.groups.length e6, .slice B7 x.labs.length e7, .bool true] 40)) (by go_grown)))
     clear W3
     cases hany : s.labs.any fun y => lab == y with
     | false =>
       have eE : Hid (bunCheck l sec lab = 240) := by unfold Hid; rw [eB.out, if_pos (.inl hany)]
       rw [hany] at HC
       clear hany
       go_wp2_with (refine HC.out.mono ?_; rintro e w4 ⟨rfl, rfl⟩)
       go_ret
       exact ⟨ret_i64 eE.out.symm, HW3.out⟩
     | true =>
       rw [hany] at HC
       have HANY := Lib.hid hany
       have HXL := Lib.hid hxl
       clear hany
       by_cases ht : x.term = s.term
       case neg =>
         have eE : Hid (bunCheck l sec lab = 240) := by unfold Hid; rw [eB.out, if_pos (.inr (.inr (.inl ht)))]
         have d4 : (x.term != s.term) = true := by simp [ht]
         clear ht
         go_wp2_with (refine HC.out.mono ?_; rintro e w4 ⟨rfl, rfl⟩)
         go_ret
         exact ⟨ret_i64 eE.out.symm, HW3.out⟩
       have HT := Lib.hid ht
       have d4 : (x.term != s.term) = false := by simp [ht]
       clear ht
       go_wp2_with (refine HC.out.mono ?_; rintro e w4 ⟨rfl, rfl⟩)
       refine (clash_c A5 c5 s.meets B5 e5 x.meets _ (HSI3.out.m.below (w' := w3.alloc (.cells #[.int .i64 x.id, .int .i64 x.course, .int .i64 x.term, .int .i64 x.campus, .int .i64 x.seats, .slice B5 x.meets.length e5, .slice B6 x.groups.length e6, .slice B7 x.labs.length e7, .bool true] 40)) (by go_grown)) HSI3.out.c5 (HXI.out.m.below (w' := w3.alloc (.cells #[.int .i64 x.id, .int .i64 x.course, .int .i64 x.term, .int .i64 x.campus, .int .i64 x.seats, .slice B5 x.meets.length e5, .slice B6 x.groups.length e6, .slice B7 x.labs.length e7, .bool true] 40)) (by go_grown)) HXI.out.c5).mono ?_
       rintro e w5 ⟨rfl, hb5⟩
       have HB5 := Lib.hid (bthen HW3.out HW3.out.size hb5)
       clear hb5 hxl
       cases hcl : clashV s.meets x.meets with
       | true =>
         have eE : Hid (bunCheck l sec lab = 240) := by unfold Hid; rw [eB.out, if_pos (.inr (.inr (.inr hcl)))]
         clear hcl
         go_wp2
         go_ret
         exact ⟨ret_i64 eE.out.symm, HB5.out⟩
       | false =>
         have eE : Hid (bunCheck l sec lab = 0) := by unfold Hid; rw [eB.out, if_neg (by rw [HANY.out, HXL.out, HT.out, hcl]; simp)]
         clear hcl
         go_wp2
         go_ret
         exact ⟨ret_i64 eE.out.symm, HB5.out⟩)
      · have hn := Lib.hid (show ¬ (s.labs.length = 0 ∧ lab = -1) from fun h => hz h.1)
        have d1 : ((s.labs.length : Int) == 0) = false := by rw [beq_eq_false_iff_ne]; omega
        clear hid
        (
 go_wp2_with fail
 have ks := Blk.new w2 40 #[.int .i64 s.id, .int .i64 s.course, .int .i64 s.term, .int .i64 s.campus, .int .i64 s.seats, .slice A5 s.meets.length c5, .slice A6 s.groups.length c6, .slice A7 s.labs.length c7, .bool false]
 have W2 : Below w.heap.size w (w2.alloc (.cells #[.int .i64 s.id, .int .i64 s.course, .int .i64 s.term, .int .i64 s.campus, .int .i64 s.seats, .slice A5 s.meets.length c5, .slice A6 s.groups.length c6, .slice A7 s.labs.length c7, .bool false] 40)) := HB2.out.alloc HB2.out.size _
 have hbs := HB2.out.size
 cases hf2 : find l lab with
 | none =>
   refine (findNone_c A c l lab _ (H.out.below W2) hf2).mono ?_
   rintro e w3 ⟨B5, e5, B6, e6, B7, e7, rfl, hb3⟩
   have eE : Hid (bunCheck l sec lab = 240) := by unfold Hid bunCheck; rw [if_neg (by simp [H0.out]), HF.out]; simp only; rw [if_neg (by simp [HLB.out]), if_neg hn.out, hf2]
   have HB3 := Lib.hid (bthen W2 W2.size hb3)
   clear hb3 hf2 b0 b1 W2 ks
   unfold Sec.zero
   go_wp2
   go_ret
   exact ⟨ret_i64 eE.out.symm, by have h := HB3.out; have hs := h.size; go_grown⟩
 | some x =>
   refine (findSome_c A c l lab x _ (H.out.below W2) hf2).mono ?_
   rintro e w3 ⟨B5, e5, B6, e6, B7, e7, rfl, hxi, hb3⟩
   have HXI := Lib.hid hxi
   have HF2 := Lib.hid hf2
   have HB3 := Lib.hid (bthen W2 W2.size hb3)
   have ks3 := ks.kept hb3 ks.lt
   have kb3 := (kb2.alloc (.cells #[.int .i64 s.id, .int .i64 s.course, .int .i64 s.term, .int .i64 s.campus, .int .i64 s.seats, .slice A5 s.meets.length c5, .slice A6 s.groups.length c6, .slice A7 s.labs.length c7, .bool false] 40)).kept hb3 (by have := kb2.lt; simp; omega)
   have HSI3 := Lib.hid ((HSI.out.below (w' := w2.alloc (.cells #[.int .i64 s.id, .int .i64 s.course, .int .i64 s.term, .int .i64 s.campus, .int .i64 s.seats, .slice A5 s.meets.length c5, .slice A6 s.groups.length c6, .slice A7 s.labs.length c7, .bool false] 40)) (by go_grown)).below hb3)
   clear hb3 hxi hf2 b0 b1 W2 ks kb2
   obtain ⟨s0, s1, s2, s3, s4, s5, s6, s7, s8, _⟩ := ks3.c9
   obtain ⟨b0, b1, _⟩ := kb3.c2
   have hl1 := ks3.lt
   have hl2 := kb3.lt
   have eB : Hid (bunCheck l sec lab = if (s.labs.any fun y => lab == y) = false ∨ x.lab = false ∨ x.term ≠ s.term ∨ clashV s.meets x.meets = true then 240 else 0) := by
     unfold Hid bunCheck; rw [if_neg (by simp [H0.out]), HF.out]; simp only; rw [if_neg (by simp [HLB.out]), if_neg hn.out, HF2.out]
   cases hxl : x.lab with
   | false =>
     have W3 : Below w.heap.size w (w3.alloc (.cells #[.int .i64 x.id, .int .i64 x.course, .int .i64 x.term, .int .i64 x.campus, .int .i64 x.seats, .slice B5 x.meets.length e5, .slice B6 x.groups.length e6, .slice B7 x.labs.length e7, .bool false] 40)) := HB3.out.alloc HB3.out.size _
     have HW3 := Lib.hid W3
     have HC := Lib.hid (containsI_c A7 c7 s.labs lab _ (HSI3.out.l.below (w' := w3.alloc (.cells #[.int .i64 x.id, .int .i64 x.course, .int .i64 x.term, .int .i64 x.campus, .int .i64 x.seats, .slice B5 x.meets.length e5, .slice B6 x.groups.length e6, .slice B7 x.labs.length e7, .bool false] 40)) (by go_grown)))
     clear W3
     cases hany : s.labs.any fun y => lab == y with
     | false =>
       have eE : Hid (bunCheck l sec lab = 240) := by unfold Hid; rw [eB.out, if_pos (.inl hany)]
       rw [hany] at HC
       clear hany
       go_wp2_with (refine HC.out.mono ?_; rintro e w4 ⟨rfl, rfl⟩)
       go_ret
       exact ⟨ret_i64 eE.out.symm, HW3.out⟩
     | true =>
       rw [hany] at HC
       clear hany
       have eE : Hid (bunCheck l sec lab = 240) := by unfold Hid; rw [eB.out, if_pos (.inr (.inl hxl))]
       go_wp2_with (refine HC.out.mono ?_; rintro e w4 ⟨rfl, rfl⟩)
       go_ret
       exact ⟨ret_i64 eE.out.symm, HW3.out⟩
   | true =>
     have W3 : Below w.heap.size w (w3.alloc (.cells #[.int .i64 x.id, .int .i64 x.course, .int .i64 x.term, .int .i64 x.campus, .int .i64 x.seats, .slice B5 x.meets.length e5, .slice B6 x.groups.length e6, .slice B7 x.labs.length e7, .bool true] 40)) := HB3.out.alloc HB3.out.size _
     have HW3 := Lib.hid W3
     have HC := Lib.hid (containsI_c A7 c7 s.labs lab _ (HSI3.out.l.below (w' := w3.alloc (.cells #[.int .i64 x.id, .int .i64 x.course, .int .i64 x.term, .int .i64 x.campus, .int .i64 x.seats, .slice B5 x.meets.length e5, .slice B6 x.groups.length e6, .slice B7 x.labs.length e7, .bool true] 40)) (by go_grown)))
     clear W3
     cases hany : s.labs.any fun y => lab == y with
     | false =>
       have eE : Hid (bunCheck l sec lab = 240) := by unfold Hid; rw [eB.out, if_pos (.inl hany)]
       rw [hany] at HC
       clear hany
       go_wp2_with (refine HC.out.mono ?_; rintro e w4 ⟨rfl, rfl⟩)
       go_ret
       exact ⟨ret_i64 eE.out.symm, HW3.out⟩
     | true =>
       rw [hany] at HC
       have HANY := Lib.hid hany
       have HXL := Lib.hid hxl
       clear hany
       by_cases ht : x.term = s.term
       case neg =>
         have eE : Hid (bunCheck l sec lab = 240) := by unfold Hid; rw [eB.out, if_pos (.inr (.inr (.inl ht)))]
         have d4 : (x.term != s.term) = true := by simp [ht]
         clear ht
         go_wp2_with (refine HC.out.mono ?_; rintro e w4 ⟨rfl, rfl⟩)
         go_ret
         exact ⟨ret_i64 eE.out.symm, HW3.out⟩
       have HT := Lib.hid ht
       have d4 : (x.term != s.term) = false := by simp [ht]
       clear ht
       go_wp2_with (refine HC.out.mono ?_; rintro e w4 ⟨rfl, rfl⟩)
       refine (clash_c A5 c5 s.meets B5 e5 x.meets _ (HSI3.out.m.below (w' := w3.alloc (.cells #[.int .i64 x.id, .int .i64 x.course, .int .i64 x.term, .int .i64 x.campus, .int .i64 x.seats, .slice B5 x.meets.length e5, .slice B6 x.groups.length e6, .slice B7 x.labs.length e7, .bool true] 40)) (by go_grown)) HSI3.out.c5 (HXI.out.m.below (w' := w3.alloc (.cells #[.int .i64 x.id, .int .i64 x.course, .int .i64 x.term, .int .i64 x.campus, .int .i64 x.seats, .slice B5 x.meets.length e5, .slice B6 x.groups.length e6, .slice B7 x.labs.length e7, .bool true] 40)) (by go_grown)) HXI.out.c5).mono ?_
       rintro e w5 ⟨rfl, hb5⟩
       have HB5 := Lib.hid (bthen HW3.out HW3.out.size hb5)
       clear hb5 hxl
       cases hcl : clashV s.meets x.meets with
       | true =>
         have eE : Hid (bunCheck l sec lab = 240) := by unfold Hid; rw [eB.out, if_pos (.inr (.inr (.inr hcl)))]
         clear hcl
         go_wp2
         go_ret
         exact ⟨ret_i64 eE.out.symm, HB5.out⟩
       | false =>
         have eE : Hid (bunCheck l sec lab = 0) := by unfold Hid; rw [eB.out, if_neg (by rw [HANY.out, HXL.out, HT.out, hcl]; simp)]
         clear hcl
         go_wp2
         go_ret
         exact ⟨ret_i64 eE.out.symm, HB5.out⟩)
end Go.Proofs.YteonpdnncodkaaaGreatDoor
