/- sections: check, code, Check: their contracts. -/
import Derived.Test.YteonpdnncodkaaaDoorFormed
import Derived.Test.YteonpdnncodkaaaDoorMeet
import Derived.Test.YteonpdnncodkaaaDoorAs
set_option linter.unusedVariables false
set_option linter.unusedSimpArgs false
namespace Go.Proofs.YteonpdnncodkaaaDoor
open Go.RowKit

/-- errors.errorType holds what its initialiser lays. -/
structure Glob (w : World) : Prop where
  is : w.cell? ⟨0, 0, none⟩ = some (.iface 152 (.agg #[.pointer (some ⟨1, 76, none⟩)]))
theorem Glob.below {w w' : World} (h : Glob w) (hb : Below w.heap.size w w') : Glob w' := ⟨cell_kept hb h.is⟩

theorem code_nil_c (w : World) : Calls Tryd.prog 42 #[.nilIface] w fun e w' => e = .returned (.int .i64 0) ∧ Below w.heap.size w w' := by
  go_enter Tryd.func42, Tryd.ntmps42
  go_wp2_with (go_at_call 77; refine (as_nil _ _).mono ?_; rintro e w' ⟨rfl, rfl⟩)
  go_ret
  exact ⟨rfl, by go_grown⟩

set_option maxHeartbeats 1000000 in
theorem code_err_c (n : Int) (w : World) (hG : Glob w) : Calls Tryd.prog 42 #[.iface 124 (.agg #[.int .i64 n])] w fun e w' => e = .returned (.int .i64 n) ∧ Below w.heap.size w w' := by
  go_enter Tryd.func42, Tryd.ntmps42
  go_wp2_with fail
  have hg := (hG.below (show Below w.heap.size w (w.alloc (.cells #[.int .i64 0] 124)) by go_grown)).is
  refine (as_hit n ⟨w.heap.size, 0, none⟩ (.int .i64 0) _ hg (by simp) (by simp)).mono ?_
  rintro e w' ⟨rfl, rfl⟩
  go_wp2
  go_ret
  exact ⟨rfl, by go_grown⟩

theorem code_c (n : Int) (w : World) (hG : Glob w) : Calls Tryd.prog 42 #[errV n] w fun e w' => e = .returned (.int .i64 n) ∧ Below w.heap.size w w' := by
  by_cases h : n = 0
  · subst h; rw [errV_zero]; exact code_nil_c w
  · rw [errV_pos h]; exact code_err_c n w hG

set_option maxHeartbeats 1000000 in
theorem check_c (s : Sec) (A5 : Option Addr) (c5 : Nat) (A6 : Option Addr) (c6 : Nat) (A7 : Option Addr) (c7 : Nat) (w : World) (h : SecIn w s A5 c5 A6 c6 A7 c7) :
    Calls Tryd.prog 43 #[.agg #[.int .i64 s.id, .int .i64 s.course, .int .i64 s.term, .int .i64 s.campus, .int .i64 s.seats, .slice A5 s.meets.length c5, .slice A6 s.groups.length c6, .slice A7 s.labs.length c7, .bool s.lab]] w fun e w' => e = .returned (errV (secCheck s)) ∧ Below w.heap.size w w' := by
  have H := Lib.hid h
  have hc5 := h.c5
  clear h
  go_enter Tryd.func43, Tryd.ntmps43
  go_wp2_with fail
  have W0 : Below w.heap.size w (w.alloc (.cells #[.int .i64 s.id, .int .i64 s.course, .int .i64 s.term, .int .i64 s.campus, .int .i64 s.seats, .slice A5 s.meets.length c5, .slice A6 s.groups.length c6, .slice A7 s.labs.length c7, .bool s.lab] 27)) := by go_grown
  have K0 := Blk.new w 27 #[.int .i64 s.id, .int .i64 s.course, .int .i64 s.term, .int .i64 s.campus, .int .i64 s.seats, .slice A5 s.meets.length c5, .slice A6 s.groups.length c6, .slice A7 s.labs.length c7, .bool s.lab]
  refine (formed_c s A5 c5 A6 c6 A7 c7 _ (H.out.below W0)).mono ?_
  rintro e w1 ⟨rfl, hb1⟩
  have K1 := K0.kept hb1 (by simp)
  have hB1 := Lib.hid (bthen W0 W0.size hb1)
  clear W0 K0 hb1
  cases hf : formedB s
  · have fin := Lib.hid (show secCheck s = 230 by unfold secCheck; rw [hf]; rfl)
    clear hf
    go_wp2
    go_ret
    exact ⟨by rw [fin.out]; rfl, hB1.out⟩
  · have fin := Lib.hid (show secCheck s = meetCheck s.meets by unfold secCheck; rw [hf]; rfl)
    obtain ⟨b0, b1, b2, b3, b4, b5, b6, b7, b8, bf⟩ := K1.c9
    clear hf
    go_wp2_with fail
    refine (meetCheck_c A5 c5 s.meets _ (H.out.m.below hB1.out) hc5).mono ?_
    rintro e w2 ⟨rfl, hb2⟩
    have hB2 := Lib.hid (bthen hB1.out hB1.out.size hb2)
    clear hb2
    obtain ⟨m, hm⟩ : ∃ m, meetCheck s.meets = m := ⟨_, rfl⟩
    have Hm := Lib.hid hm
    rw [hm]
    clear hm
    by_cases h0 : m = 0
    · subst h0
      go_wp2
      go_ret
      exact ⟨by rw [fin.out, Hm.out]; rfl, hB2.out⟩
    · have q : (m != 0) = true := by simp [h0]
      have H0 := Lib.hid h0
      clear h0
      go_wp2
      go_ret
      exact ⟨by rw [fin.out, Hm.out, errV_pos H0.out]; rfl, hB2.out⟩

set_option maxHeartbeats 1000000 in
theorem secCheck_c (s : Sec) (A5 : Option Addr) (c5 : Nat) (A6 : Option Addr) (c6 : Nat) (A7 : Option Addr) (c7 : Nat) (w : World) (hG : Glob w) (h : SecIn w s A5 c5 A6 c6 A7 c7) :
    Calls Tryd.prog 18 #[.agg #[.int .i64 s.id, .int .i64 s.course, .int .i64 s.term, .int .i64 s.campus, .int .i64 s.seats, .slice A5 s.meets.length c5, .slice A6 s.groups.length c6, .slice A7 s.labs.length c7, .bool s.lab]] w fun e w' => e = .returned (.int .i64 (secCheck s)) ∧ Below w.heap.size w w' := by
  have H := Lib.hid h
  clear h
  go_enter Tryd.func18, Tryd.ntmps18
  go_wp2_with fail
  have W0 : Below w.heap.size w (w.alloc (.cells #[.int .i64 s.id, .int .i64 s.course, .int .i64 s.term, .int .i64 s.campus, .int .i64 s.seats, .slice A5 s.meets.length c5, .slice A6 s.groups.length c6, .slice A7 s.labs.length c7, .bool s.lab] 27)) := by go_grown
  refine (check_c s A5 c5 A6 c6 A7 c7 _ (H.out.below W0)).mono ?_
  rintro e w1 ⟨rfl, hb1⟩
  have hB1 := Lib.hid (bthen W0 W0.size hb1)
  clear W0 hb1
  go_wp2_with fail
  refine (code_c (secCheck s) _ (hG.below hB1.out)).mono ?_
  rintro e w2 ⟨rfl, hb2⟩
  have hB2 := Lib.hid (bthen hB1.out hB1.out.size hb2)
  clear hb2
  go_wp2
  go_ret
  exact ⟨rfl, hB2.out⟩
end Go.Proofs.YteonpdnncodkaaaDoor
