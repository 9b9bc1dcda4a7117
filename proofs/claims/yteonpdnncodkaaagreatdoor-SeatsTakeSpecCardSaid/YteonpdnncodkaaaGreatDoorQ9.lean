/- The reference of layer 25: Leave. -/
import Derived.Test.YteonpdnncodkaaaGreatDoorQ1
import Derived.Test.YteonpdnncodkaaaGreatDoorLeave
set_option linter.unusedVariables false
set_option linter.unusedSimpArgs false
namespace Go.Proofs.YteonpdnncodkaaaGreatDoor
open Go.RowKit

theorem leaveE_eq (T : List Seat) (stu sec lab : Int) : leaveE T stu sec lab = if hasSeat T stu sec = true ∧ (lab = -1 ∨ hasSeat T stu lab = true) then 0 else 250 := by
  unfold leaveE partsB
  by_cases h : lab = -1
  · subst h
    by_cases h1 : hasSeat T stu sec = true
    · simp [h1]
    · have h2 : hasSeat T stu sec = false := by simpa using h1
      simp [h2]
  · cases h1 : hasSeat T stu sec <;> cases h2 : hasSeat T stu lab <;> simp [h, h1, h2]
theorem notOwn {stu sec lab : Int} {y : Seat} (h : ownS stu sec lab y = false) : ((y.stu != stu) = true) ∨ ((y.stu != stu) = false ∧ (y.sec != sec) = true ∧ (lab == -1) = true) ∨ ((y.stu != stu) = false ∧ (y.sec != sec) = true ∧ (lab == -1) = false ∧ (y.sec != lab) = true) := by
  by_cases h1 : y.stu = stu
  · have hn : ¬ (y.stu = stu ∧ (y.sec = sec ∨ (lab ≠ -1 ∧ y.sec = lab))) := fun hh => by rw [ownS_iff.2 hh] at h; cases h
    have h2 : y.sec ≠ sec := fun e => hn ⟨h1, .inl e⟩
    by_cases h3 : lab = -1
    · exact .inr (.inl ⟨by simp [h1], by simp [h2], by simp [h3]⟩)
    · have h4 : y.sec ≠ lab := fun e => hn ⟨h1, .inr ⟨h3, e⟩⟩
      exact .inr (.inr ⟨by simp [h1], by simp [h2], by simp [h3], by simp [h4]⟩)
  · exact .inl (by simp [h1])
theorem isOwn {stu sec lab : Int} {y : Seat} (h : ownS stu sec lab y = true) : ((y.stu != stu) = false ∧ (y.sec != sec) = false) ∨ ((y.stu != stu) = false ∧ (y.sec != sec) = true ∧ (lab == -1) = false ∧ (y.sec != lab) = false) := by
  obtain ⟨h1, h2⟩ := ownS_iff.1 h
  by_cases h3 : y.sec = sec
  · exact .inl ⟨by simp [h1], by simp [h3]⟩
  · rcases h2 with h2 | ⟨h4, h5⟩
    · exact absurd h2 h3
    · exact .inr ⟨by simp [h1], by simp [h3], by simp [h4], by simp [h5]⟩

set_option maxRecDepth 100000 in
set_option maxHeartbeats 4000000 in
theorem rleave_c (B : Option Addr) (d : Nat) (T : List Seat) (stu sec lab : Int) (w : World) (ht : RSeats w B T) (hT : T.length ≤ 60) :
    Calls Tryz.prog 9 #[.slice B T.length d, .int .i64 stu, .agg #[.int .i64 sec, .int .i64 lab]] w fun e w' => (∃ Ya yc, e = .returned (.tuple #[.slice Ya (leaveX T stu sec lab).length yc, .int .i64 (leaveE T stu sec lab)]) ∧ RSeats w' Ya (leaveX T stu sec lab)) ∧ Below w.heap.size w w' := by
  obtain ⟨i0, hi, hz0, hz1, hz2⟩ := seatInfo
  have HT := Lib.hid ht
  clear ht
  have EE := Lib.hid (leaveE_eq T stu sec lab)
  go_enter Tryz.func9, Tryz.ntmps9
  go_wp2_with fail
  have W0 : Hid (Below w.heap.size w (w.alloc (.cells #[.int .i64 sec, .int .i64 lab] 25))) := by unfold Hid; go_grown
  have kb0 := Blk.new w 25 #[.int .i64 sec, .int .i64 lab]
  refine (rhas_c B d T stu sec _ (HT.out.below W0.out)).mono ?_
  rintro e w1 ⟨rfl, hb1⟩
  have HB1 := Lib.hid (bthen W0.out W0.out.size hb1)
  have kb1 := kb0.kept hb1 kb0.lt
  clear hb1 W0 kb0
  obtain ⟨q0, q1, _⟩ := kb1.c2
  cases h1 : hasSeat T stu sec
  case false =>
    have fin : Hid (leaveE T stu sec lab = 250) := by unfold Hid; rw [EE.out, h1]; simp
    have finX : Hid (leaveX T stu sec lab = []) := by unfold Hid leaveX; rw [if_pos (by rw [fin.out]; decide)]
    clear h1
    go_wp2
    refine bodyPost_ret (by simp only [results, Tryz.results9]; go_simp <;> rfl) rfl ?_
    rw [fin.out, finX.out]
    exact ⟨⟨none, 0, rfl, Rd.nil _ _ _ _⟩, HB1.out⟩
  by_cases h2 : lab = -1
  · have fin : Hid (leaveE T stu sec lab = 0) := by unfold Hid; rw [EE.out, if_pos ⟨h1, .inl h2⟩]
    have d1 : (lab != -1) = false := by simp [h2]
    clear h1 h2
    (
 obtain ⟨Z, hZ⟩ : ∃ Z, Z = w.heap.size := ⟨_, rfl⟩
 have hZ0 : w.heap.size ≤ Z := by omega
 have hZ1 : Z ≤ w.heap.size := by omega
 have hO0 : Hid (OwnS Z (w1.alloc (.cells #[] 44)) (.slice (some ⟨w1.heap.size, 0, none⟩) 0 0) []) := OwnS.base (show OwnS w1.heap.size _ _ [] from World.ownsRow_made w1 #[] 0 (Nat.le_refl _) (Nat.zero_le _) rfl) (by rw [hZ]; exact HB1.out.size)
 have hBo : Hid (Below w.heap.size w (w1.alloc (.cells #[] 44))) := HB1.out.alloc HB1.out.size _
 have kbo := kb1.alloc (.cells #[] 44)
 have FE := fin
 clear fin hZ
 go_wp2
 go_loopg [8, 9] T.length (fun n u i wr => ∃ k : Nat, n + k = T.length ∧ i = .int .i64 k ∧ Hid (OwnS Z wr u ((T.take k).filter fun x => !ownS stu sec lab x)) ∧ Hid (Below w.heap.size w wr) ∧ Blk wr w.heap.size 25 #[.int .i64 sec, .int .i64 lab])
 case atStart => exact ⟨0, by omega, rfl, hO0, hBo, kbo⟩
 case round =>
  clear hO0 hBo kbo
  obtain ⟨k, hk, rfl, ho, hB, kb⟩ := hrel
  by_cases hlt : k < T.length
  · obtain ⟨ad, eA, f0, f1, f2⟩ := HT.out.at hB.out k hlt
    subst eA
    obtain ⟨y, hy⟩ : ∃ y, y = T[k] := ⟨_, rfl⟩
    rw [← hy] at f0 f1 f2
    have HY := Lib.hid hy
    clear hy
    have kW := Blk.new wr 44 #[.int .i64 y.stu, .int .i64 y.sec, .int .i64 y.grp]
    have hBW : Hid (Below w.heap.size w (wr.alloc (.cells #[.int .i64 y.stu, .int .i64 y.sec, .int .i64 y.grp] 44))) := hB.out.alloc hB.out.size _
    have hoW : Hid (OwnS Z (wr.alloc (.cells #[.int .i64 y.stu, .int .i64 y.sec, .int .i64 y.grp] 44)) u8 ((T.take k).filter fun x => !ownS stu sec lab x)) := ho.out.below (by go_grown)
    have kbW := kb.alloc (.cells #[.int .i64 y.stu, .int .i64 y.sec, .int .i64 y.grp] 44)
    go_upto_region 8 with (fail)
    obtain ⟨W2, hW2⟩ : ∃ W2, W2 = wr.alloc (.cells #[.int .i64 y.stu, .int .i64 y.sec, .int .i64 y.grp] 44) := ⟨_, rfl⟩
    rw [← hW2] at kW hBW hoW kbW
    rw [← hW2]
    clear hW2 f0 f1 f2
    obtain ⟨y0, y1, y2, _⟩ := kW.c3
    obtain ⟨b0, b1, _⟩ := kbW.c2
    have hbs := kW.lt
    have hlb := kbW.lt
    have hws := hBW.out.size
    cases hown : ownS stu sec lab y
    · have fin2 : Hid ((T.take (k + 1)).filter (fun x => !ownS stu sec lab x) = (T.take k).filter (fun x => !ownS stu sec lab x) ++ [y]) := by unfold Hid; rw [List.take_succ_eq_append_getElem hlt, List.filter_append, ← HY.out]; simp [hown]
      have hlf : ((T.take k).filter fun x => !ownS stu sec lab x).length ≤ 60 := by
        have h1 := List.length_filter_le (fun x => !ownS stu sec lab x) (T.take k)
        have h2 : (T.take k).length ≤ T.length := by rw [List.length_take]; omega
        omega
      have hno := notOwn hown
      clear hown
      have hO3 : Hid (World.ownsRow W2 Z 44 3 u8 ((T.take k).filter fun x => !ownS stu sec lab x).length (cellsS ((T.take k).filter fun x => !ownS stu sec lab x))) := hoW.out
      rcases hno with h1 | ⟨h1, h2, h3⟩ | ⟨h1, h2, h3, h4⟩
      all_goals
        go_wp2_with (at_builtin; refine wpList_append_own _ rfl _ _ 23 rfl Z 44 i0 (.agg #[.int .i64 0, .int .i64 0, .int .i64 0]) 3 24 Tryz.underlying23 hi hz0 hz1 hz2 rfl (by decide) _ _ _ rfl (hO3.out.alloc _) ⟨W2.heap.size, 0, none⟩ 1 1 (stC y) rfl rfl ((Blk.new W2 44 #[.int .i64 y.stu, .int .i64 y.sec, .int .i64 y.grp]).cells3) (stC_one y) (by unfold maxLen; omega) (by omega) (by simp; omega) ?_)
        all_goals
          intro v' w9 hown hgrow hnil
          have ho4 : Hid (OwnS Z w9 v' ((T.take (k + 1)).filter fun x => !ownS stu sec lab x)) := by
            unfold Hid OwnS
            rw [fin2.out, cellsS_append, List.length_append]
            exact hown
          have hB4 : Hid (Below w.heap.size w w9) := (hBW.out.alloc hBW.out.size (.cells #[.int .i64 y.stu, .int .i64 y.sec, .int .i64 y.grp] 44)).grown hgrow (by simp; omega) (fun j e => Nat.le_trans hZ0 (World.ownsRow.lt hoW.out _ e).1)
          have kb4 := (kbW.alloc (.cells #[.int .i64 y.stu, .int .i64 y.sec, .int .i64 y.grp] 44)).grown hgrow (OwnS.apart hoW.out kbW (by decide))
          clear hown hgrow hnil b0 b1 y0 y1 y2
          go_wp2
          go_roundg (gk - 1)
          case measure => omega
          case rel => exact ⟨k + 1, by omega, by go_num, ho4, hB4, kb4⟩
    · have fin2 : Hid ((T.take (k + 1)).filter (fun x => !ownS stu sec lab x) = (T.take k).filter (fun x => !ownS stu sec lab x)) := by unfold Hid; rw [List.take_succ_eq_append_getElem hlt, List.filter_append, ← HY.out]; simp [hown]
      have ho4 : Hid (OwnS Z W2 u8 ((T.take (k + 1)).filter fun x => !ownS stu sec lab x)) := by unfold Hid; rw [fin2.out]; exact hoW.out
      have hyes := isOwn hown
      clear hown
      rcases hyes with ⟨h1, h2⟩ | ⟨h1, h2, h3, h4⟩
      all_goals
        go_wp2
        go_roundg (gk - 1)
        case measure => omega
        case rel => exact ⟨k + 1, by omega, by go_num, ho4, hBW, kbW⟩
  · obtain rfl : k = T.length := by omega
    have finX : Hid (leaveX T stu sec lab = T.filter fun x => !ownS stu sec lab x) := by unfold Hid leaveX; rw [if_neg (by rw [FE.out]; decide)]
    have hlf : (T.filter fun x => !ownS stu sec lab x).length ≤ T.length := List.length_filter_le _ _
    rw [List.take_length] at ho
    rw [← finX.out] at ho hlf
    obtain ⟨Ra, Rc, hRr⟩ := ho.out.shape
    subst hRr
    have HR := Lib.hid (ho.out.reads (by omega)).2
    clear ho hlt hk
    go_wp2
    refine bodyPost_ret (by simp only [results, Tryz.results9]; go_simp <;> rfl) rfl ?_
    rw [FE.out]
    exact ⟨⟨Ra, Rc, rfl, HR.out⟩, hB.out⟩)
  · have d1 : (lab != -1) = true := by rw [bne_iff_ne]; exact h2
    go_wp2_with fail
    refine (rhas_c B d T stu lab _ (HT.out.below HB1.out)).mono ?_
    rintro e w2 ⟨rfl, hb2⟩
    have HB2 := Lib.hid (bthen HB1.out HB1.out.size hb2)
    have kb2 := kb1.kept hb2 kb1.lt
    clear hb2
    cases h3 : hasSeat T stu lab
    · have fin : Hid (leaveE T stu sec lab = 250) := by unfold Hid; rw [EE.out, if_neg (by rintro ⟨_, h | h⟩; exact h2 h; rw [h3] at h; cases h)]
      have finX : Hid (leaveX T stu sec lab = []) := by unfold Hid leaveX; rw [if_pos (by rw [fin.out]; decide)]
      clear h1 h2 h3
      go_wp2
      refine bodyPost_ret (by simp only [results, Tryz.results9]; go_simp <;> rfl) rfl ?_
      rw [fin.out, finX.out]
      exact ⟨⟨none, 0, rfl, Rd.nil _ _ _ _⟩, HB2.out⟩
    · have fin : Hid (leaveE T stu sec lab = 0) := by unfold Hid; rw [EE.out, if_pos ⟨h1, .inr h3⟩]
      clear h1 h2 h3 q0 q1
      (
 obtain ⟨Z, hZ⟩ : ∃ Z, Z = w.heap.size := ⟨_, rfl⟩
 have hZ0 : w.heap.size ≤ Z := by omega
 have hZ1 : Z ≤ w.heap.size := by omega
 have hO0 : Hid (OwnS Z (w2.alloc (.cells #[] 44)) (.slice (some ⟨w2.heap.size, 0, none⟩) 0 0) []) := OwnS.base (show OwnS w2.heap.size _ _ [] from World.ownsRow_made w2 #[] 0 (Nat.le_refl _) (Nat.zero_le _) rfl) (by rw [hZ]; exact HB2.out.size)
 have hBo : Hid (Below w.heap.size w (w2.alloc (.cells #[] 44))) := HB2.out.alloc HB2.out.size _
 have kbo := kb2.alloc (.cells #[] 44)
 have FE := fin
 clear fin hZ
 go_wp2
 go_loopg [8, 9] T.length (fun n u i wr => ∃ k : Nat, n + k = T.length ∧ i = .int .i64 k ∧ Hid (OwnS Z wr u ((T.take k).filter fun x => !ownS stu sec lab x)) ∧ Hid (Below w.heap.size w wr) ∧ Blk wr w.heap.size 25 #[.int .i64 sec, .int .i64 lab])
 case atStart => exact ⟨0, by omega, rfl, hO0, hBo, kbo⟩
 case round =>
  clear hO0 hBo kbo
  obtain ⟨k, hk, rfl, ho, hB, kb⟩ := hrel
  by_cases hlt : k < T.length
  · obtain ⟨ad, eA, f0, f1, f2⟩ := HT.out.at hB.out k hlt
    subst eA
    obtain ⟨y, hy⟩ : ∃ y, y = T[k] := ⟨_, rfl⟩
    rw [← hy] at f0 f1 f2
    have HY := Lib.hid hy
    clear hy
    have kW := Blk.new wr 44 #[.int .i64 y.stu, .int .i64 y.sec, .int .i64 y.grp]
    have hBW : Hid (Below w.heap.size w (wr.alloc (.cells #[.int .i64 y.stu, .int .i64 y.sec, .int .i64 y.grp] 44))) := hB.out.alloc hB.out.size _
    have hoW : Hid (OwnS Z (wr.alloc (.cells #[.int .i64 y.stu, .int .i64 y.sec, .int .i64 y.grp] 44)) u8 ((T.take k).filter fun x => !ownS stu sec lab x)) := ho.out.below (by go_grown)
    have kbW := kb.alloc (.cells #[.int .i64 y.stu, .int .i64 y.sec, .int .i64 y.grp] 44)
    go_upto_region 8 with (fail)
    obtain ⟨W2, hW2⟩ : ∃ W2, W2 = wr.alloc (.cells #[.int .i64 y.stu, .int .i64 y.sec, .int .i64 y.grp] 44) := ⟨_, rfl⟩
    rw [← hW2] at kW hBW hoW kbW
    rw [← hW2]
    clear hW2 f0 f1 f2
    obtain ⟨y0, y1, y2, _⟩ := kW.c3
    obtain ⟨b0, b1, _⟩ := kbW.c2
    have hbs := kW.lt
    have hlb := kbW.lt
    have hws := hBW.out.size
    cases hown : ownS stu sec lab y
    · have fin2 : Hid ((T.take (k + 1)).filter (fun x => !ownS stu sec lab x) = (T.take k).filter (fun x => !ownS stu sec lab x) ++ [y]) := by unfold Hid; rw [List.take_succ_eq_append_getElem hlt, List.filter_append, ← HY.out]; simp [hown]
      have hlf : ((T.take k).filter fun x => !ownS stu sec lab x).length ≤ 60 := by
        have h1 := List.length_filter_le (fun x => !ownS stu sec lab x) (T.take k)
        have h2 : (T.take k).length ≤ T.length := by rw [List.length_take]; omega
        omega
      have hno := notOwn hown
      clear hown
      have hO3 : Hid (World.ownsRow W2 Z 44 3 u8 ((T.take k).filter fun x => !ownS stu sec lab x).length (cellsS ((T.take k).filter fun x => !ownS stu sec lab x))) := hoW.out
      rcases hno with h1 | ⟨h1, h2, h3⟩ | ⟨h1, h2, h3, h4⟩
      all_goals
        go_wp2_with (at_builtin; refine wpList_append_own _ rfl _ _ 23 rfl Z 44 i0 (.agg #[.int .i64 0, .int .i64 0, .int .i64 0]) 3 24 Tryz.underlying23 hi hz0 hz1 hz2 rfl (by decide) _ _ _ rfl (hO3.out.alloc _) ⟨W2.heap.size, 0, none⟩ 1 1 (stC y) rfl rfl ((Blk.new W2 44 #[.int .i64 y.stu, .int .i64 y.sec, .int .i64 y.grp]).cells3) (stC_one y) (by unfold maxLen; omega) (by omega) (by simp; omega) ?_)
        all_goals
          intro v' w9 hown hgrow hnil
          have ho4 : Hid (OwnS Z w9 v' ((T.take (k + 1)).filter fun x => !ownS stu sec lab x)) := by
            unfold Hid OwnS
            rw [fin2.out, cellsS_append, List.length_append]
            exact hown
          have hB4 : Hid (Below w.heap.size w w9) := (hBW.out.alloc hBW.out.size (.cells #[.int .i64 y.stu, .int .i64 y.sec, .int .i64 y.grp] 44)).grown hgrow (by simp; omega) (fun j e => Nat.le_trans hZ0 (World.ownsRow.lt hoW.out _ e).1)
          have kb4 := (kbW.alloc (.cells #[.int .i64 y.stu, .int .i64 y.sec, .int .i64 y.grp] 44)).grown hgrow (OwnS.apart hoW.out kbW (by decide))
          clear hown hgrow hnil b0 b1 y0 y1 y2
          go_wp2
          go_roundg (gk - 1)
          case measure => omega
          case rel => exact ⟨k + 1, by omega, by go_num, ho4, hB4, kb4⟩
    · have fin2 : Hid ((T.take (k + 1)).filter (fun x => !ownS stu sec lab x) = (T.take k).filter (fun x => !ownS stu sec lab x)) := by unfold Hid; rw [List.take_succ_eq_append_getElem hlt, List.filter_append, ← HY.out]; simp [hown]
      have ho4 : Hid (OwnS Z W2 u8 ((T.take (k + 1)).filter fun x => !ownS stu sec lab x)) := by unfold Hid; rw [fin2.out]; exact hoW.out
      have hyes := isOwn hown
      clear hown
      rcases hyes with ⟨h1, h2⟩ | ⟨h1, h2, h3, h4⟩
      all_goals
        go_wp2
        go_roundg (gk - 1)
        case measure => omega
        case rel => exact ⟨k + 1, by omega, by go_num, ho4, hBW, kbW⟩
  · obtain rfl : k = T.length := by omega
    have finX : Hid (leaveX T stu sec lab = T.filter fun x => !ownS stu sec lab x) := by unfold Hid leaveX; rw [if_neg (by rw [FE.out]; decide)]
    have hlf : (T.filter fun x => !ownS stu sec lab x).length ≤ T.length := List.length_filter_le _ _
    rw [List.take_length] at ho
    rw [← finX.out] at ho hlf
    obtain ⟨Ra, Rc, hRr⟩ := ho.out.shape
    subst hRr
    have HR := Lib.hid (ho.out.reads (by omega)).2
    clear ho hlt hk
    go_wp2
    refine bodyPost_ret (by simp only [results, Tryz.results9]; go_simp <;> rfl) rfl ?_
    rw [FE.out]
    exact ⟨⟨Ra, Rc, rfl, HR.out⟩, hB.out⟩)
end Go.Proofs.YteonpdnncodkaaaGreatDoor
