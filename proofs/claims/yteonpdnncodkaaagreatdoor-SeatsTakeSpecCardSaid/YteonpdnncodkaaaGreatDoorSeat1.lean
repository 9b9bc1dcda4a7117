/- cmp.Compare, cmp.Or at int, seats.compare, slices.Max: their contracts. -/
import Derived.Test.YteonpdnncodkaaaGreatDoorCheck
set_option linter.unusedVariables false
set_option linter.unusedSimpArgs false
namespace Go.Proofs.YteonpdnncodkaaaGreatDoor
open Go.RowKit

theorem isNaN_c (x : Int) (w : World) : Calls Tryz.prog 64 #[.int .i64 x] w fun e w' => e = .returned (.bool false) ∧ w = w' := by
  go_enter Tryz.func64, Tryz.ntmps64
  go_wp2
  go_ret
  exact ⟨ret_bool (by simp), rfl⟩
theorem compare_c (x y : Int) (w : World) : Calls Tryz.prog 43 #[.int .i64 x, .int .i64 y] w fun e w' => e = .returned (.int .i64 (cmpI x y)) ∧ w = w' := by
  go_enter Tryz.func43, Tryz.ntmps43
  go_wp2_with (go_at_call 64; refine (isNaN_c _ _).mono ?_; rintro e w' ⟨rfl, rfl⟩)
  all_goals
    go_ret
    refine ⟨ret_i64 ?_, rfl⟩
    unfold cmpI
    first | (rw [if_pos (by omega)]; done) | (rw [if_neg (by omega), if_pos (by omega)]; done) | rw [if_neg (by omega), if_neg (by omega)]


theorem orInt_c (a b : Int) (g : Nat) (w : World) (h : Blk w g 3 #[.int .i64 a, .int .i64 b]) :
    Calls Tryz.prog 42 #[.slice (some ⟨g, 0, none⟩) 2 2] w fun e w' => e = .returned (.int .i64 (orI a b)) ∧ w = w' := by
  unfold orI
  have f0 : w.cell? ⟨g, 0, none⟩ = some (.int .i64 a) := h.cell 0 rfl
  have f1 : w.cell? ⟨g, 1, none⟩ = some (.int .i64 b) := h.cell 1 rfl
  clear h
  by_cases ha : a = 0
  · subst ha
    rw [if_neg (by simp)]
    by_cases hb : b = 0
    · subst hb
      go_enter Tryz.func42, Tryz.ntmps42
      go_wp2
      go_loopg [8] 2 (fun n i wr => ((n = 2 ∧ i = .int .i64 0) ∨ (n = 1 ∧ i = .int .i64 1) ∨ (n = 0 ∧ i = .int .i64 2)) ∧ w = wr)
      case atStart => exact ⟨.inl ⟨rfl, rfl⟩, rfl⟩
      case round =>
        obtain ⟨⟨rfl, rfl⟩ | ⟨rfl, rfl⟩ | ⟨rfl, rfl⟩, rfl⟩ := hrel
        · go_wp2
          go_roundg 1
          case measure => omega
          case rel => exact ⟨.inr (.inl ⟨rfl, rfl⟩), rfl⟩
        · go_wp2
          go_roundg 0
          case measure => omega
          case rel => exact ⟨.inr (.inr ⟨rfl, rfl⟩), rfl⟩
        · go_wp2
          go_ret
          exact ⟨rfl, rfl⟩
    · have q : (b != 0) = true := by simp [hb]
      clear hb
      go_enter Tryz.func42, Tryz.ntmps42
      go_wp2
      go_loopg [8] 1 (fun n i wr => ((n = 1 ∧ i = .int .i64 0) ∨ (n = 0 ∧ i = .int .i64 1)) ∧ w = wr)
      case atStart => exact ⟨.inl ⟨rfl, rfl⟩, rfl⟩
      case round =>
        obtain ⟨⟨rfl, rfl⟩ | ⟨rfl, rfl⟩, rfl⟩ := hrel
        · go_wp2
          go_roundg 0
          case measure => omega
          case rel => exact ⟨.inr ⟨rfl, rfl⟩, rfl⟩
        · go_wp2
          go_ret
          exact ⟨rfl, rfl⟩
  · rw [if_pos ha]
    have q : (a != 0) = true := by simp [ha]
    clear ha
    go_enter Tryz.func42, Tryz.ntmps42
    go_wp2
    go_loopg [8] 0 (fun n i wr => i = .int .i64 0 ∧ w = wr)
    case atStart => exact ⟨rfl, rfl⟩
    case round =>
      obtain ⟨rfl, rfl⟩ := hrel
      go_wp2
      go_ret
      exact ⟨rfl, rfl⟩

set_option maxRecDepth 100000 in
set_option maxHeartbeats 1000000 in
theorem compareSeat_c (a b : Seat) (w : World) :
    Calls Tryz.prog 22 #[.agg #[.int .i64 a.stu, .int .i64 a.sec, .int .i64 a.grp], .agg #[.int .i64 b.stu, .int .i64 b.sec, .int .i64 b.grp]] w fun e w' => e = .returned (.int .i64 (cmpSeat a b)) ∧ Below w.heap.size w w' := by
  go_enter Tryz.func22, Tryz.ntmps22
  go_wp2_with fail
  obtain ⟨W, hW⟩ : ∃ W, W = ((w.alloc (.cells #[.int .i64 a.stu, .int .i64 a.sec, .int .i64 a.grp] 44)).alloc (.cells #[.int .i64 b.stu, .int .i64 b.sec, .int .i64 b.grp] 44)).drew := ⟨_, rfl⟩
  have k1 : Blk W w.heap.size 44 #[.int .i64 a.stu, .int .i64 a.sec, .int .i64 a.grp] := by rw [hW]; exact ((Blk.mk' _ _ (by simp) _ _).alloc _).drew
  have k2 : Blk W (w.heap.size + 1) 44 #[.int .i64 b.stu, .int .i64 b.sec, .int .i64 b.grp] := by rw [hW]; exact (Blk.mk' _ _ (by simp) _ _).drew
  have hB : Hid (Below w.heap.size w W) := by unfold Hid; rw [hW]; go_grown
  obtain ⟨a0, a1, a2, _⟩ := k1.c3
  obtain ⟨b0, b1, b2, _⟩ := k2.c3
  clear k1 k2
  have HW := Lib.hid hW
  (refine still_tail 10 (by kernel_rfl) (by kernel_rfl) W HW.out ?_; simp only [List.take_succ_cons, List.take_zero, List.drop_succ_cons, List.drop_zero])
  clear hW HW
  repeat still_step
  still_call (compare_c a.sec b.sec _).mono (fun e w' h => ⟨h.1, h.2.symm⟩)
  repeat still_step
  still_call (compare_c a.stu b.stu _).mono (fun e w' h => ⟨h.1, h.2.symm⟩)
  refine wpStill_nil ?_
  go_wp2_with fail
  refine (orInt_c (cmpI a.sec b.sec) (cmpI a.stu b.stu) _ _ (Blk.new _ _ _)).mono ?_
  rintro e w1 ⟨rfl, rfl⟩
  go_wp2
  go_ret
  exact ⟨rfl, by have h := hB.out; have h2 := h.size; go_grown⟩
end Go.Proofs.YteonpdnncodkaaaGreatDoor
