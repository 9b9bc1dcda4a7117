/- The closure that seats.Leave hands to slices.DeleteFunc: its contract. -/
import Derived.Test.YteonpdnncodkaaaDoorTake
import Derived.Deep.RegionHeld3
set_option linter.unusedVariables false
set_option linter.unusedSimpArgs false
namespace Go.Proofs.YteonpdnncodkaaaDoor
open Go.RowKit

set_option maxRecDepth 100000 in
set_option maxHeartbeats 4000000 in
theorem leave1_c (s : Seat) (stu sec lab : Int) (bs bb : Nat) (w : World) (ks : Blk w bs 3 #[.int .i64 stu]) (kb : Blk w bb 53 #[.int .i64 sec, .int .i64 lab]) :
    Calls Tryd.prog 74 #[.agg #[.int .i64 s.stu, .int .i64 s.sec, .int .i64 s.grp], .pointer (some ⟨bs, 0, none⟩), .pointer (some ⟨bb, 0, none⟩)] w fun e w' => e = .returned (.bool (ownS stu sec lab s)) ∧ Below w.heap.size w w' := by
  have hpl : (partsB sec lab).length ≤ 2 := by
    rcases parts_cases sec lab with ⟨_, e⟩ | ⟨_, e⟩ <;> rw [e] <;> simp
  go_enter Tryd.func74, Tryd.ntmps74
  go_wp2_with fail
  have k1 := Blk.new w 60 #[.int .i64 s.stu, .int .i64 s.sec, .int .i64 s.grp]
  have k2 := ks.alloc (.cells #[.int .i64 s.stu, .int .i64 s.sec, .int .i64 s.grp] 60)
  have k3 := kb.alloc (.cells #[.int .i64 s.stu, .int .i64 s.sec, .int .i64 s.grp] 60)
  have hB : Below w.heap.size w (w.alloc (.cells #[.int .i64 s.stu, .int .i64 s.sec, .int .i64 s.grp] 60)) := by go_grown
  obtain ⟨W, hW⟩ : ∃ W, W = w.alloc (.cells #[.int .i64 s.stu, .int .i64 s.sec, .int .i64 s.grp] 60) := ⟨_, rfl⟩
  rw [← hW] at k1 k2 k3 hB
  rw [← hW]
  have HB := Lib.hid hB
  clear hW hB
  obtain ⟨q0, q1, q2, _⟩ := k1.c3
  obtain ⟨s0, _⟩ := k2.c1
  obtain ⟨b0, b1, _⟩ := k3.c2
  by_cases he : s.stu = stu
  case neg =>
    have d : (s.stu == stu) = false := by simp [he]
    have eF : Hid (ownS stu sec lab s = false) := by
      unfold Hid
      rw [Bool.eq_false_iff]
      exact fun h => he (ownS_iff.1 h).1
    clear he
    go_quiet (fail)
    go_wp2
    go_ret
    exact ⟨ret_bool eF.out.symm, bdrewN HB.out _⟩
  have d : (s.stu == stu) = true := by simp [he]
  have eF : Hid (ownS stu sec lab s = (partsB sec lab).any fun y => s.sec == y) := by
    unfold Hid ownS
    rw [d, Bool.true_and]
    congr 1
    funext y
    rw [Bool.eq_iff_iff]
    simp only [beq_iff_eq]
    exact eq_comm
  clear he
  go_region_held3 (fun w' => w'.cell? ⟨w.heap.size, 0, none⟩ = some (.int .i64 s.stu) ∧ w'.cell? ⟨w.heap.size, 1, none⟩ = some (.int .i64 s.sec) ∧ w'.cell? ⟨bs, 0, none⟩ = some (.int .i64 stu) ∧ w'.cell? ⟨bb, 0, none⟩ = some (.int .i64 sec) ∧ w'.cell? ⟨bb, 1, none⟩ = some (.int .i64 lab))
    (first | go_keep | (exact ⟨cell_kept hb1 (by assumption), cell_kept hb1 (by assumption), cell_kept hb1 (by assumption), cell_kept hb1 (by assumption), cell_kept hb1 (by assumption)⟩))
    (first
      | (go_at_call 68; refine (parts2_c sec lab _).mono ?_; rintro e w1 ⟨⟨pb, pc, rfl, kp⟩, hb1⟩)
      | (go_at_call 75; refine (containsI_c (some ⟨pb, 0, none⟩) pc (partsB sec lab) s.sec _ (RInts.of_blk kp (by omega))).mono ?_; rintro e w2 ⟨rfl, rfl⟩))
  go_wp2
  go_ret
  exact ⟨ret_bool eF.out.symm, bthen (bdrewN HB.out 1) (bdrewN HB.out 1).size hb1⟩
end Go.Proofs.YteonpdnncodkaaaDoor
