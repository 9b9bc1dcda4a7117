/- SeatsTime returns true: the walk. -/
import Derived.Test.YteonpdnncodkaaaDoorSane2
set_option linter.unusedVariables false
set_option linter.unusedSimpArgs false
namespace Go.Proofs.YteonpdnncodkaaaDoor
open Go.RowKit

set_option maxRecDepth 100000 in
set_option maxHeartbeats 8000000 in
theorem time_c (A : Option Addr) (c : Nat) (l : List Sec) (B : Option Addr) (d : Nat) (T : List Seat) (sec group now later : Int) (w : World) (hG : Glob w) (h : RSecs w A l) (ht : RSeats w B T) :
    Calls Tryd.prog 6 #[.slice A l.length c, .slice B T.length d, .int .i64 sec, .int .i64 group, .int .i64 now, .int .i64 later] w fun e w' => e = .returned (.bool true) ∧ Below w.heap.size w w' := by
  have hTl := ht.len
  have H := Lib.hid h
  have HT := Lib.hid ht
  clear h ht
  go_enter Tryd.func6, Tryd.ntmps6
  go_wp2_with fail
  refine (sane_c _ hG).mono ?_
  rintro e w1 ⟨rfl, hb1⟩
  have HB1 := Lib.hid hb1
  clear hb1
  by_cases hnl : later < now
  · (
 go_wp2_with fail
 cases hf : find l sec with
 | none =>
   refine (findNone_c A c l sec _ (H.out.below HB1.out) hf).mono ?_
   rintro e w2 ⟨A5, c5, A6, c6, A7, c7, rfl, hb2⟩
   have HB2 := Lib.hid (bthen HB1.out HB1.out.size hb2)
   clear hb2 hf
   unfold Sec.zero
   have W2 : Hid (Below w.heap.size w (w2.alloc (.cells #[.int .i64 0, .int .i64 0, .int .i64 0, .int .i64 0, .int .i64 0, .slice A5 0 c5, .slice A6 0 c6, .slice A7 0 c7, .bool false] 27))) := HB2.out.alloc HB2.out.size _
   go_wp2_with fail
   refine (few25_c A c l B d T _ (H.out.below W2.out) hTl).mono ?_
   rintro e w3 ⟨rfl, rfl⟩
   cases hfew : few25 l T
   · go_wp2
     go_ret
     exact ⟨rfl, by have h := HB2.out; have hs := h.size; go_grown⟩
   · clear hfew
     go_wp2_with fail
     refine (seatCheck_c A c l B d T _ (hG.below W2.out) (H.out.below W2.out) (HT.out.below W2.out)).mono ?_
     rintro e w4 ⟨rfl, hb4⟩
     have HB4 := Lib.hid (bthen W2.out W2.out.size hb4)
     clear hb4
     by_cases hc : seatCheck l T = 0
     · have d0 : (seatCheck l T != 0) = false := by simp [hc]
       clear hc
       go_wp2
       go_ret
       exact ⟨rfl, HB4.out⟩
     · have d0 : (seatCheck l T != 0) = true := by simp [hc]
       clear hc
       go_wp2
       go_ret
       exact ⟨rfl, HB4.out⟩
 | some y =>
   refine (findSome_c A c l sec y _ (H.out.below HB1.out) hf).mono ?_
   rintro e w2 ⟨A5, c5, A6, c6, A7, c7, rfl, hsi, hb2⟩
   have HB2 := Lib.hid (bthen HB1.out HB1.out.size hb2)
   have HF := Lib.hid hf
   clear hb2 hsi hf
   have W2 : Hid (Below w.heap.size w (w2.alloc (.cells #[.int .i64 y.id, .int .i64 y.course, .int .i64 y.term, .int .i64 y.campus, .int .i64 y.seats, .slice A5 y.meets.length c5, .slice A6 y.groups.length c6, .slice A7 y.labs.length c7, .bool y.lab] 27))) := HB2.out.alloc HB2.out.size _
   have ky := Blk.new w2 27 #[.int .i64 y.id, .int .i64 y.course, .int .i64 y.term, .int .i64 y.campus, .int .i64 y.seats, .slice A5 y.meets.length c5, .slice A6 y.groups.length c6, .slice A7 y.labs.length c7, .bool y.lab]
   go_wp2_with fail
   refine (few25_c A c l B d T _ (H.out.below W2.out) hTl).mono ?_
   rintro e w3 ⟨rfl, rfl⟩
   cases hfew : few25 l T
   · go_wp2
     go_ret
     exact ⟨rfl, W2.out⟩
   have hfw := few25_true hfew
   clear hfew
   go_wp2_with fail
   refine (seatCheck_c A c l B d T _ (hG.below W2.out) (H.out.below W2.out) (HT.out.below W2.out)).mono ?_
   rintro e w4 ⟨rfl, hb4⟩
   have HB4 := Lib.hid (bthen W2.out W2.out.size hb4)
   have ky4 := ky.kept hb4 ky.lt
   clear hb4 ky W2 HB2
   by_cases hc : seatCheck l T = 0
   case neg =>
     have d0 : (seatCheck l T != 0) = true := by simp [hc]
     clear hc
     go_wp2
     go_ret
     exact ⟨rfl, HB4.out⟩
   have HC := Lib.hid hc
   rw [hc]
   clear hc
   by_cases hg : 0 ≤ group ∧ group < 8
   case neg =>
     have hg2 : group < 0 ∨ 0 ≤ group ∧ 8 ≤ group := by omega
     clear hg
     rcases hg2 with hg | ⟨hg, hg2⟩
     all_goals
       go_wp2
       go_ret
       exact ⟨rfl, HB4.out⟩
   obtain ⟨hg0, hg8⟩ := hg
   have e1 := Lib.hid (freeE_ok HC.out HF.out (group := -1) (by omega))
   have e2 := Lib.hid (freeE_ok HC.out HF.out (group := group) (by omega))
   have fv1 := freeV_ok HC.out HF.out (group := -1) (by omega) later
   have fv2 := freeV_ok HC.out HF.out (group := -1) (by omega) now
   have fv3 := freeV_ok HC.out HF.out (group := group) (by omega) later
   have hT := law_time (atSec HC.out HF.out) (group := group) (now := later) (later := now) (by omega)
   rw [← fv1, ← fv2, ← fv3, ← cntS_all] at hT
   have hse := wi_true.1 (atSec HC.out HF.out).formed.2.2.2.2.1
   have hcb := cntS_bound T sec (-2)
   obtain ⟨hT1, hT2, hT3, hT4⟩ := hT
   obtain ⟨hse0, hse1⟩ := hse
   obtain ⟨hcb0, hcb1⟩ := hcb
   clear fv1 fv2 fv3
   go_wp2_with fail
   refine (seatFree_c A c l B d T sec (-1) later _ (hG.below HB4.out) (H.out.below HB4.out) (HT.out.below HB4.out)).mono ?_
   rintro e w5 ⟨rfl, hb5⟩
   rw [e1.out]
   have HB5 := Lib.hid (bthen HB4.out HB4.out.size hb5)
   have ky5 := ky4.kept hb5 ky4.lt
   clear hb5 HB4 ky4
   go_wp2_with fail
   refine (seatFree_c A c l B d T sec (-1) now _ (hG.below HB5.out) (H.out.below HB5.out) (HT.out.below HB5.out)).mono ?_
   rintro e w6 ⟨rfl, hb6⟩
   rw [e1.out]
   have HB6 := Lib.hid (bthen HB5.out HB5.out.size hb6)
   have ky6 := ky5.kept hb6 ky5.lt
   clear hb6 HB5 ky5
   go_wp2_with fail
   refine (seatFree_c A c l B d T sec group later _ (hG.below HB6.out) (H.out.below HB6.out) (HT.out.below HB6.out)).mono ?_
   rintro e w7 ⟨rfl, hb7⟩
   rw [e2.out]
   have HB7 := Lib.hid (bthen HB6.out HB6.out.size hb7)
   have ky7 := ky6.kept hb7 ky6.lt
   clear hb7 HB6 ky6
   generalize freeV l T sec (-1) later = va at *
   generalize freeV l T sec (-1) now = vb at *
   generalize freeV l T sec group later = vc at *
   go_wp2_with fail
   refine region_below (by kernel_rfl) (by kernel_rfl) (fun ι hι f hf hg => ?_)
   have HFN := Lib.hid hf
   have HGN := Lib.hid hg
   have k4 : ∀ n, (f n).cell? ⟨w2.heap.size, 4, none⟩ = some (.int .i64 y.seats) := fun n => (ky7.kept (hf n) ky7.lt).cell 4 rfl
   clear hf hg
   have HCT : Hid (∀ n, Calls Tryd.prog 34 #[.slice B T.length d, .int .i64 sec, .int .i64 (-2)] (f n) fun e w' => e = .returned (.int .i64 (cntS T sec (-2))) ∧ Below (f n).heap.size (f n) w') := fun n => count25_c B d T sec (-2) (f n) (HT.out.below (bthen HB7.out HB7.out.size (HFN.out n)))
   generalize cntS T sec (-2) = ct at *
   repeat go_big_quiet_step ((refine (HCT.out _).mono ?_; rintro e w8 ⟨rfl, hb8⟩; exact ⟨rfl, HGN.out _ _ hb8⟩))
   refine wpQuiet_nil ?_
   rintro _ ⟨n, rfl⟩
   have HB8 := Lib.hid (bthen HB7.out HB7.out.size (HFN.out n))
   clear k4 HCT
   go_wp2
   go_ret
   exact ⟨rfl, HB8.out⟩)
  · (
 go_wp2_with fail
 cases hf : find l sec with
 | none =>
   refine (findNone_c A c l sec _ (H.out.below HB1.out) hf).mono ?_
   rintro e w2 ⟨A5, c5, A6, c6, A7, c7, rfl, hb2⟩
   have HB2 := Lib.hid (bthen HB1.out HB1.out.size hb2)
   clear hb2 hf
   unfold Sec.zero
   have W2 : Hid (Below w.heap.size w (w2.alloc (.cells #[.int .i64 0, .int .i64 0, .int .i64 0, .int .i64 0, .int .i64 0, .slice A5 0 c5, .slice A6 0 c6, .slice A7 0 c7, .bool false] 27))) := HB2.out.alloc HB2.out.size _
   go_wp2_with fail
   refine (few25_c A c l B d T _ (H.out.below W2.out) hTl).mono ?_
   rintro e w3 ⟨rfl, rfl⟩
   cases hfew : few25 l T
   · go_wp2
     go_ret
     exact ⟨rfl, by have h := HB2.out; have hs := h.size; go_grown⟩
   · clear hfew
     go_wp2_with fail
     refine (seatCheck_c A c l B d T _ (hG.below W2.out) (H.out.below W2.out) (HT.out.below W2.out)).mono ?_
     rintro e w4 ⟨rfl, hb4⟩
     have HB4 := Lib.hid (bthen W2.out W2.out.size hb4)
     clear hb4
     by_cases hc : seatCheck l T = 0
     · have d0 : (seatCheck l T != 0) = false := by simp [hc]
       clear hc
       go_wp2
       go_ret
       exact ⟨rfl, HB4.out⟩
     · have d0 : (seatCheck l T != 0) = true := by simp [hc]
       clear hc
       go_wp2
       go_ret
       exact ⟨rfl, HB4.out⟩
 | some y =>
   refine (findSome_c A c l sec y _ (H.out.below HB1.out) hf).mono ?_
   rintro e w2 ⟨A5, c5, A6, c6, A7, c7, rfl, hsi, hb2⟩
   have HB2 := Lib.hid (bthen HB1.out HB1.out.size hb2)
   have HF := Lib.hid hf
   clear hb2 hsi hf
   have W2 : Hid (Below w.heap.size w (w2.alloc (.cells #[.int .i64 y.id, .int .i64 y.course, .int .i64 y.term, .int .i64 y.campus, .int .i64 y.seats, .slice A5 y.meets.length c5, .slice A6 y.groups.length c6, .slice A7 y.labs.length c7, .bool y.lab] 27))) := HB2.out.alloc HB2.out.size _
   have ky := Blk.new w2 27 #[.int .i64 y.id, .int .i64 y.course, .int .i64 y.term, .int .i64 y.campus, .int .i64 y.seats, .slice A5 y.meets.length c5, .slice A6 y.groups.length c6, .slice A7 y.labs.length c7, .bool y.lab]
   go_wp2_with fail
   refine (few25_c A c l B d T _ (H.out.below W2.out) hTl).mono ?_
   rintro e w3 ⟨rfl, rfl⟩
   cases hfew : few25 l T
   · go_wp2
     go_ret
     exact ⟨rfl, W2.out⟩
   have hfw := few25_true hfew
   clear hfew
   go_wp2_with fail
   refine (seatCheck_c A c l B d T _ (hG.below W2.out) (H.out.below W2.out) (HT.out.below W2.out)).mono ?_
   rintro e w4 ⟨rfl, hb4⟩
   have HB4 := Lib.hid (bthen W2.out W2.out.size hb4)
   have ky4 := ky.kept hb4 ky.lt
   clear hb4 ky W2 HB2
   by_cases hc : seatCheck l T = 0
   case neg =>
     have d0 : (seatCheck l T != 0) = true := by simp [hc]
     clear hc
     go_wp2
     go_ret
     exact ⟨rfl, HB4.out⟩
   have HC := Lib.hid hc
   rw [hc]
   clear hc
   by_cases hg : 0 ≤ group ∧ group < 8
   case neg =>
     have hg2 : group < 0 ∨ 0 ≤ group ∧ 8 ≤ group := by omega
     clear hg
     rcases hg2 with hg | ⟨hg, hg2⟩
     all_goals
       go_wp2
       go_ret
       exact ⟨rfl, HB4.out⟩
   obtain ⟨hg0, hg8⟩ := hg
   have e1 := Lib.hid (freeE_ok HC.out HF.out (group := -1) (by omega))
   have e2 := Lib.hid (freeE_ok HC.out HF.out (group := group) (by omega))
   have fv1 := freeV_ok HC.out HF.out (group := -1) (by omega) now
   have fv2 := freeV_ok HC.out HF.out (group := -1) (by omega) later
   have fv3 := freeV_ok HC.out HF.out (group := group) (by omega) now
   have hT := law_time (atSec HC.out HF.out) (group := group) (now := now) (later := later) (by omega)
   rw [← fv1, ← fv2, ← fv3, ← cntS_all] at hT
   have hse := wi_true.1 (atSec HC.out HF.out).formed.2.2.2.2.1
   have hcb := cntS_bound T sec (-2)
   obtain ⟨hT1, hT2, hT3, hT4⟩ := hT
   obtain ⟨hse0, hse1⟩ := hse
   obtain ⟨hcb0, hcb1⟩ := hcb
   clear fv1 fv2 fv3
   go_wp2_with fail
   refine (seatFree_c A c l B d T sec (-1) now _ (hG.below HB4.out) (H.out.below HB4.out) (HT.out.below HB4.out)).mono ?_
   rintro e w5 ⟨rfl, hb5⟩
   rw [e1.out]
   have HB5 := Lib.hid (bthen HB4.out HB4.out.size hb5)
   have ky5 := ky4.kept hb5 ky4.lt
   clear hb5 HB4 ky4
   go_wp2_with fail
   refine (seatFree_c A c l B d T sec (-1) later _ (hG.below HB5.out) (H.out.below HB5.out) (HT.out.below HB5.out)).mono ?_
   rintro e w6 ⟨rfl, hb6⟩
   rw [e1.out]
   have HB6 := Lib.hid (bthen HB5.out HB5.out.size hb6)
   have ky6 := ky5.kept hb6 ky5.lt
   clear hb6 HB5 ky5
   go_wp2_with fail
   refine (seatFree_c A c l B d T sec group now _ (hG.below HB6.out) (H.out.below HB6.out) (HT.out.below HB6.out)).mono ?_
   rintro e w7 ⟨rfl, hb7⟩
   rw [e2.out]
   have HB7 := Lib.hid (bthen HB6.out HB6.out.size hb7)
   have ky7 := ky6.kept hb7 ky6.lt
   clear hb7 HB6 ky6
   generalize freeV l T sec (-1) now = va at *
   generalize freeV l T sec (-1) later = vb at *
   generalize freeV l T sec group now = vc at *
   go_wp2_with fail
   refine region_below (by kernel_rfl) (by kernel_rfl) (fun ι hι f hf hg => ?_)
   have HFN := Lib.hid hf
   have HGN := Lib.hid hg
   have k4 : ∀ n, (f n).cell? ⟨w2.heap.size, 4, none⟩ = some (.int .i64 y.seats) := fun n => (ky7.kept (hf n) ky7.lt).cell 4 rfl
   clear hf hg
   have HCT : Hid (∀ n, Calls Tryd.prog 34 #[.slice B T.length d, .int .i64 sec, .int .i64 (-2)] (f n) fun e w' => e = .returned (.int .i64 (cntS T sec (-2))) ∧ Below (f n).heap.size (f n) w') := fun n => count25_c B d T sec (-2) (f n) (HT.out.below (bthen HB7.out HB7.out.size (HFN.out n)))
   generalize cntS T sec (-2) = ct at *
   repeat go_big_quiet_step ((refine (HCT.out _).mono ?_; rintro e w8 ⟨rfl, hb8⟩; exact ⟨rfl, HGN.out _ _ hb8⟩))
   refine wpQuiet_nil ?_
   rintro _ ⟨n, rfl⟩
   have HB8 := Lib.hid (bthen HB7.out HB7.out.size (HFN.out n))
   clear k4 HCT
   go_wp2
   go_ret
   exact ⟨rfl, HB8.out⟩)
end Go.Proofs.YteonpdnncodkaaaDoor
