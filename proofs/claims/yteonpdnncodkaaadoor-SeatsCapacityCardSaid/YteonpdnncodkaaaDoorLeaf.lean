/- Small functions that only read: their contracts. -/
import Derived.Test.YteonpdnncodkaaaDoorBase
set_option linter.unusedVariables false
set_option linter.unusedSimpArgs false
namespace Go.Proofs.YteonpdnncodkaaaDoor
open Go.RowKit

theorem ret_bool {a b : Bool} (h : a = b) : Ending.returned (.bool a) = .returned (.bool b) := by rw [h]
theorem ret_i64 {a b : Int} (h : a = b) : Ending.returned (.int .i64 a) = .returned (.int .i64 b) := by rw [h]

theorem within_c (n lo hi : Int) (w : World) :
    Calls Tryd.prog 98 #[.int .i64 n, .int .i64 lo, .int .i64 hi] w fun e w' => e = .returned (.bool (decide (lo ≤ n ∧ n ≤ hi))) ∧ w = w' := by
  go_enter Tryd.func98, Tryd.ntmps98
  go_wp2
  all_goals (go_ret; exact ⟨ret_bool (by simp [*]; try omega), rfl⟩)

theorem valid_c (m : Mt) (w : World) :
    Calls Tryd.prog 69 #[.agg #[.int .i64 m.day, .int .i64 m.frm, .int .i64 m.til, .int .i64 m.fst, .int .i64 m.lst]] w fun e w' => e = .returned (.bool m.ok) ∧ Below w.heap.size w w' := by
  go_enter Tryd.func69, Tryd.ntmps69
  go_wp2
  all_goals (go_ret; exact ⟨ret_bool (by unfold Mt.ok; rw [Bool.eq_iff_iff]; simp; omega), by go_grown⟩)

theorem Valid22_c (m : Mt) (w : World) :
    Calls Tryd.prog 79 #[.agg #[.int .i64 m.day, .int .i64 m.frm, .int .i64 m.til, .int .i64 m.fst, .int .i64 m.lst]] w fun e w' => e = .returned (.bool m.ok) ∧ Below w.heap.size w w' := by
  go_enter Tryd.func79, Tryd.ntmps79
  go_wp2
  all_goals (go_ret; exact ⟨ret_bool (by unfold Mt.ok; rw [Bool.eq_iff_iff]; simp; omega), by go_grown⟩)

theorem Over22_c (a b : Mt) (w : World) :
    Calls Tryd.prog 80 #[.agg #[.int .i64 a.day, .int .i64 a.frm, .int .i64 a.til, .int .i64 a.fst, .int .i64 a.lst], .agg #[.int .i64 b.day, .int .i64 b.frm, .int .i64 b.til, .int .i64 b.fst, .int .i64 b.lst]] w fun e w' => e = .returned (.bool (a.meets b)) ∧ Below w.heap.size w w' := by
  go_enter Tryd.func80, Tryd.ntmps80
  go_wp2
  all_goals (go_ret; exact ⟨ret_bool (by unfold Mt.meets; rw [Bool.eq_iff_iff]; simp; omega), by go_grown⟩)

theorem overlaps_c (a b : Mt) (w : World) :
    Calls Tryd.prog 71 #[.agg #[.int .i64 a.day, .int .i64 a.frm, .int .i64 a.til, .int .i64 a.fst, .int .i64 a.lst], .agg #[.int .i64 b.day, .int .i64 b.frm, .int .i64 b.til, .int .i64 b.fst, .int .i64 b.lst]] w fun e w' => e = .returned (.bool (a.over b)) ∧ Below w.heap.size w w' := by
  go_enter Tryd.func71, Tryd.ntmps71
  go_wp2
  all_goals (go_ret; exact ⟨ret_bool (by unfold Mt.over; rw [Bool.eq_iff_iff]; simp; omega), by go_grown⟩)

theorem number_c (i c t p s : Int) (v5 v6 v7 v8 : Value) (w : World) :
    Calls Tryd.prog 48 #[.agg #[.int .i64 i, .int .i64 c, .int .i64 t, .int .i64 p, .int .i64 s, v5, v6, v7, v8]] w fun e w' => e = .returned (.int .i64 i) ∧ Below w.heap.size w w' := by
  go_enter Tryd.func48, Tryd.ntmps48
  go_wp2
  all_goals (go_ret; exact ⟨rfl, by go_grown⟩)

theorem few23_c (A : Option Addr) (c : Nat) (l : List Sec) (w : World) (h : RSecs w A l) :
    Calls Tryd.prog 17 #[.slice A l.length c] w fun e w' => e = .returned (.bool (few23 l)) ∧ w = w' := by
  have hl := h.len
  have H := Lib.hid h
  clear h
  go_enter Tryd.func17, Tryd.ntmps17
  go_wp2
  go_loopg [3] l.length (fun n i wr => ∃ k : Nat, n + k = l.length ∧ i = .int .i64 k ∧ w = wr ∧ Hid ((l.take k).all fewSec = true))
  case atStart => exact ⟨0, by omega, rfl, rfl, by simp [Hid]⟩
  case round =>
    obtain ⟨k, hk, rfl, rfl, ha⟩ := hrel
    by_cases hlt : k < l.length
    · obtain ⟨ad, A5, c5, A6, c6, A7, c7, rfl, hs, f0, f1, f2, f3, f4, f5, f6, f7, f8⟩ := H.out.at (Below.refl _ _) k hlt
      clear hs
      have no : fewSec l[k] = false → Ending.returned (.bool false) = .returned (.bool (few23 l)) := fun h => ret_bool (by
        unfold few23
        rw [List.all_eq_false.2 ⟨_, List.getElem_mem hlt, by simp [h]⟩]; rfl)
      have yes : fewSec l[k] = true → (l.take (k + 1)).all fewSec = true := fun h => by
        rw [List.take_succ_eq_append_getElem hlt, List.all_append, ha.out]; simp [h]
      have No := Lib.hid no
      have Yes := Lib.hid yes
      clear no yes
      go_wp2
      all_goals first
        | (go_roundg (gk - 1)
           case measure => omega
           case rel => exact ⟨k + 1, by omega, by go_num, rfl, Yes.out (by simp [fewSec]; omega)⟩)
        | (go_ret; exact ⟨No.out (by simp [fewSec]; omega), rfl⟩)
    · obtain rfl : k = l.length := by omega
      have fin : few23 l = decide (l.length ≤ 12) := by
        have := ha.out
        rw [List.take_length] at this
        unfold few23; rw [this]; rfl
      have Fin := Lib.hid fin
      clear fin
      go_wp2
      go_ret
      exact ⟨ret_bool (by rw [Fin.out, Bool.eq_iff_iff]; simp; omega), rfl⟩
end Go.Proofs.YteonpdnncodkaaaDoor
