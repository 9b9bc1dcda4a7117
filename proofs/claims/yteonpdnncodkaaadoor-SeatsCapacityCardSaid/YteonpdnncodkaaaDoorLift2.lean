/- The argument of SeatsCapacity, opened: a list of steps. -/
import Derived.Test.YteonpdnncodkaaaDoorLift
import Derived.Test.YteonpdnncodkaaaDoorCap
set_option linter.unusedVariables false
set_option linter.unusedSimpArgs false
set_option maxRecDepth 100000
namespace Go.Proofs.YteonpdnncodkaaaDoor
open Go.ChangeShapes Go.WideShapes Go.ChangeAt Go.RowKit Go.Deep

theorem list6 {α : Type} {l : List α} (h : l.length = 6) : ∃ a b c d e f, l = [a, b, c, d, e, f] := by
  match l, h with
  | [a, b, c, d, e, f], _ => exact ⟨a, b, c, d, e, f, rfl⟩
section
variable {H : Type} {enc : TypeId × Value → H} {W w : World} {base : Nat} {spare : Nat → Bool} {held : Bool}
theorem read_step {n : Nat} {cs : List Value} {d : DataW H} {p : List MemPlace} (h : DataW.trod enc Tryd.prog w base spare held n 55 cs = some (d, p)) : ∃ x : Stp, StpR w x cs := by
  obtain ⟨xs, m, _, hx, hl, hxl, hf⟩ := DataW.trod_struct Tryd.underlying55 h
  obtain ⟨a, b, c, d, e, f, rfl⟩ := list6 (hl.trans (by kernel_rfl))
  obtain ⟨y0, _, h0⟩ := field_at hxl hf (i := 0) rfl
  obtain ⟨y1, _, h1⟩ := field_at hxl hf (i := 1) rfl
  obtain ⟨y2, _, h2⟩ := field_at hxl hf (i := 2) rfl
  obtain ⟨y3, _, h3⟩ := field_at hxl hf (i := 3) rfl
  obtain ⟨y4, _, h4⟩ := field_at hxl hf (i := 4) rfl
  obtain ⟨y5, _, h5⟩ := field_at hxl hf (i := 5) rfl
  obtain ⟨z0, e0, _⟩ := cell_int Tryd.underlying3 cI h0
  obtain ⟨z1, e1, _⟩ := cell_int Tryd.underlying3 cI h1
  obtain ⟨z2, e2, _⟩ := cell_int Tryd.underlying3 cI h2
  obtain ⟨z3, e3, _⟩ := cell_int Tryd.underlying3 cI h3
  obtain ⟨z4, e4, w4⟩ := cell_int Tryd.underlying5 (by kernel_rfl) h4
  obtain ⟨z5, e5⟩ := cell_bool Tryd.underlying4 cB h5
  simp at e0 e1 e2 e3 e4 e5
  subst e0 e1 e2 e3 e4 e5
  have hw := wf_u8 w4
  exact ⟨⟨z0, z1, z2, z3, z4, z5⟩, rfl, hw.1, hw.2⟩
theorem open_steps {n : Nat} {cs : List Value} {d : DataW H} {p : List MemPlace} (h : DataW.trod enc Tryd.prog w base spare held n 68 cs = some (d, p)) (hL : Light Tryd.prog 68 d) : ∃ A l c, cs = [.slice A (l : List Stp).length c] ∧ RSteps w A l ∧ l.length ≤ c :=
  open_rd (R := StpR) Tryd.underlying68 (by kernel_rfl) (of_decide_eq_true (by kernel_rfl)) (fun _ _ _ _ _ h => read_step h) h hL
theorem arg_steps {v : Value} {d : DataW H} {p : List MemPlace} (hv : Value.okWide Tryd.prog W .any base 68 v) (h : DataW.Trod enc Tryd.prog W 0 spare held 68 v d p) (hL : Light Tryd.prog 68 d) : ∃ A l c, v = .slice A (l : List Stp).length c ∧ RSteps W A l := by
  obtain ⟨A, n, c, rfl⟩ := okWide_slice Tryd.underlying68 hv
  obtain ⟨fuel, h⟩ := h
  obtain ⟨A', l, c', e, hr, _⟩ := open_steps h hL
  cases e
  exact ⟨A, l, c, rfl, hr⟩
end
end Go.Proofs.YteonpdnncodkaaaDoor
