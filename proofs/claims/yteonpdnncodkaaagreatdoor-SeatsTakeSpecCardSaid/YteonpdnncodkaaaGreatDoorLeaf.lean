/- Small functions that only read: their contracts. -/
import Derived.Test.YteonpdnncodkaaaGreatDoorBase
set_option linter.unusedVariables false
set_option linter.unusedSimpArgs false
namespace Go.Proofs.YteonpdnncodkaaaGreatDoor
open Go.RowKit

theorem ret_bool {a b : Bool} (h : a = b) : Ending.returned (.bool a) = .returned (.bool b) := by rw [h]
theorem ret_i64 {a b : Int} (h : a = b) : Ending.returned (.int .i64 a) = .returned (.int .i64 b) := by rw [h]

theorem within_c (n lo hi : Int) (w : World) :
    Calls Tryz.prog 92 #[.int .i64 n, .int .i64 lo, .int .i64 hi] w fun e w' => e = .returned (.bool (decide (lo ≤ n ∧ n ≤ hi))) ∧ w = w' := by
  go_enter Tryz.func92, Tryz.ntmps92
  go_wp2
  all_goals (go_ret; exact ⟨ret_bool (by simp [*]; try omega), rfl⟩)

theorem valid_c (m : Mt) (w : World) :
    Calls Tryz.prog 77 #[.agg #[.int .i64 m.day, .int .i64 m.frm, .int .i64 m.til, .int .i64 m.fst, .int .i64 m.lst]] w fun e w' => e = .returned (.bool m.ok) ∧ Below w.heap.size w w' := by
  go_enter Tryz.func77, Tryz.ntmps77
  go_wp2
  all_goals (go_ret; exact ⟨ret_bool (by unfold Mt.ok; rw [Bool.eq_iff_iff]; simp; omega), by go_grown⟩)

theorem Valid22_c (m : Mt) (w : World) :
    Calls Tryz.prog 82 #[.agg #[.int .i64 m.day, .int .i64 m.frm, .int .i64 m.til, .int .i64 m.fst, .int .i64 m.lst]] w fun e w' => e = .returned (.bool m.ok) ∧ Below w.heap.size w w' := by
  go_enter Tryz.func82, Tryz.ntmps82
  go_wp2
  all_goals (go_ret; exact ⟨ret_bool (by unfold Mt.ok; rw [Bool.eq_iff_iff]; simp; omega), by go_grown⟩)

theorem Over22_c (a b : Mt) (w : World) :
    Calls Tryz.prog 70 #[.agg #[.int .i64 a.day, .int .i64 a.frm, .int .i64 a.til, .int .i64 a.fst, .int .i64 a.lst], .agg #[.int .i64 b.day, .int .i64 b.frm, .int .i64 b.til, .int .i64 b.fst, .int .i64 b.lst]] w fun e w' => e = .returned (.bool (a.meets b)) ∧ Below w.heap.size w w' := by
  go_enter Tryz.func70, Tryz.ntmps70
  go_wp2
  all_goals (go_ret; exact ⟨ret_bool (by unfold Mt.meets; rw [Bool.eq_iff_iff]; simp; omega), by go_grown⟩)

theorem overlaps_c (a b : Mt) (w : World) :
    Calls Tryz.prog 61 #[.agg #[.int .i64 a.day, .int .i64 a.frm, .int .i64 a.til, .int .i64 a.fst, .int .i64 a.lst], .agg #[.int .i64 b.day, .int .i64 b.frm, .int .i64 b.til, .int .i64 b.fst, .int .i64 b.lst]] w fun e w' => e = .returned (.bool (a.over b)) ∧ Below w.heap.size w w' := by
  go_enter Tryz.func61, Tryz.ntmps61
  go_wp2
  all_goals (go_ret; exact ⟨ret_bool (by unfold Mt.over; rw [Bool.eq_iff_iff]; simp; omega), by go_grown⟩)

theorem number_c (i c t p s : Int) (v5 v6 v7 v8 : Value) (w : World) :
    Calls Tryz.prog 40 #[.agg #[.int .i64 i, .int .i64 c, .int .i64 t, .int .i64 p, .int .i64 s, v5, v6, v7, v8]] w fun e w' => e = .returned (.int .i64 i) ∧ Below w.heap.size w w' := by
  go_enter Tryz.func40, Tryz.ntmps40
  go_wp2
  all_goals (go_ret; exact ⟨rfl, by go_grown⟩)
end Go.Proofs.YteonpdnncodkaaaGreatDoor
