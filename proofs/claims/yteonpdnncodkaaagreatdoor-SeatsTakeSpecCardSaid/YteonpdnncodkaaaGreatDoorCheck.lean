/- sections: check, code, Check: their contracts. -/
import Derived.Test.YteonpdnncodkaaaGreatDoorFormed
import Derived.Test.YteonpdnncodkaaaGreatDoorMeet
import Derived.Test.YteonpdnncodkaaaGreatDoorAs
set_option linter.unusedVariables false
set_option linter.unusedSimpArgs false
namespace Go.Proofs.YteonpdnncodkaaaGreatDoor
open Go.RowKit

/-- errors.errorType holds what its initialiser lays. -/
structure Glob (w : World) : Prop where
  is : w.cell? ⟨0, 0, none⟩ = some (.iface 134 (.agg #[.pointer (some ⟨1, 94, none⟩)]))
theorem Glob.below {w w' : World} (h : Glob w) (hb : Below w.heap.size w w') : Glob w' := ⟨cell_kept hb h.is⟩

theorem code_nil_c (w : World) : Calls Tryz.prog 57 #[.nilIface] w fun e w' => e = .returned (.int .i64 0) ∧ Below w.heap.size w w' := by
  go_enter Tryz.func57, Tryz.ntmps57
  go_wp2_with (go_at_call 73; refine (as_nil _ _).mono ?_; rintro e w' ⟨rfl, rfl⟩)
  go_ret
  exact ⟨rfl, by go_grown⟩

set_option maxHeartbeats 1000000 in
theorem code_err_c (n : Int) (w : World) (hG : Glob w) : Calls Tryz.prog 57 #[.iface 110 (.agg #[.int .i64 n])] w fun e w' => e = .returned (.int .i64 n) ∧ Below w.heap.size w w' := by
  go_enter Tryz.func57, Tryz.ntmps57
  go_wp2_with fail
  have hg := (hG.below (show Below w.heap.size w (w.alloc (.cells #[.int .i64 0] 110)) by go_grown)).is
  refine (as_hit n ⟨w.heap.size, 0, none⟩ (.int .i64 0) _ hg (by simp) (by simp)).mono ?_
  rintro e w' ⟨rfl, rfl⟩
  go_wp2
  go_ret
  exact ⟨rfl, by go_grown⟩

theorem code_c (n : Int) (w : World) (hG : Glob w) : Calls Tryz.prog 57 #[errV n] w fun e w' => e = .returned (.int .i64 n) ∧ Below w.heap.size w w' := by
  by_cases h : n = 0
  · subst h; rw [errV_zero]; exact code_nil_c w
  · rw [errV_pos h]; exact code_err_c n w hG

set_option maxHeartbeats 1000000 in
theorem check_c (s : Sec) (A5 : Option Addr) (c5 : Nat) (A6 : Option Addr) (c6 : Nat) (A7 : Option Addr) (c7 : Nat) (w : World) (h : SecIn w s A5 c5 A6 c6 A7 c7) :
    Calls Tryz.prog 74 #[.agg #[.int .i64 s.id, .int .i64 s.course, .int .i64 s.term, .int .i64 s.campus, .int .i64 s.seats, .slice A5 s.meets.length c5, .slice A6 s.groups.length c6, .slice A7 s.labs.length c7, .bool s.lab]] w fun e w' => e = .returned (errV (secCheck s)) ∧ Below w.heap.size w w' := by
  have H := Lib.hid h
  have hc5 := h.c5
  clear h
  go_enter Tryz.func74, Tryz.ntmps74
  go_wp2_with fail
  have W0 : Below w.heap.size w (w.alloc (.cells #[.int .i64 s.id, .int .i64 s.course, .int .i64 s.term, .int .i64 s.campus, .int .i64 s.seats, .slice A5 s.meets.length c5, .slice A6 s.groups.length c6, .slice A7 s.labs.length c7, .bool s.lab] 40)) := by go_grown
  have K0 := Blk.new w 40 #[.int .i64 s.id, .int .i64 s.course, .int .i64 s.term, .int .i64 s.campus, .int .i64 s.seats, .slice A5 s.meets.length c5, .slice A6 s.groups.length c6, .slice A7 s.labs.length c7, .bool s.lab]
  refine (formed_c s A5 c5 A6 c6 A7 c7 _ (H.out.below W0)).mono ?_
  rintro e w1 ⟨rfl, hb1⟩
  have K1 := K0.kept hb1 (by simp)
  have hB1 := Lib.hid (bthen W0 W0.size hb1)
  clear W0 K0 hb1
  cases hf : formedB s
  · have fin := Lib.hid (show secCheck s = 230 by unfold secCheck; rw [hf]; rfl)
    clear hf
    go_wp2
    go_ret
    exact ⟨by rw [fin.out]; rfl, hB1.out⟩
  · have fin := Lib.hid (show secCheck s = meetCheck s.meets by unfold secCheck; rw [hf]; rfl)
    obtain ⟨b0, b1, b2, b3, b4, b5, b6, b7, b8, bf⟩ := K1.c9
    clear hf
    go_wp2_with fail
    refine (meetCheck_c A5 c5 s.meets _ (H.out.m.below hB1.out) hc5).mono ?_
    rintro e w2 ⟨rfl, hb2⟩
    have hB2 := Lib.hid (bthen hB1.out hB1.out.size hb2)
    clear hb2
    obtain ⟨m, hm⟩ : ∃ m, meetCheck s.meets = m := ⟨_, rfl⟩
    have Hm := Lib.hid hm
    rw [hm]
    clear hm
    by_cases h0 : m = 0
    · subst h0
      go_wp2
      go_ret
      exact ⟨by rw [fin.out, Hm.out]; rfl, hB2.out⟩
    · have q : (m != 0) = true := by simp [h0]
      have H0 := Lib.hid h0
      clear h0
      go_wp2
      go_ret
      exact ⟨by rw [fin.out, Hm.out, errV_pos H0.out]; rfl, hB2.out⟩

end Go.Proofs.YteonpdnncodkaaaGreatDoor
