/- From the rows' condition to the walks': the variable errors.errorType; a world that meets the condition. -/
import Derived.Test.YteonpdnncodkaaaDoorOpen
set_option linter.unusedVariables false
set_option linter.unusedSimpArgs false
set_option maxRecDepth 100000
namespace Go.Proofs.YteonpdnncodkaaaDoor
open Go.ChangeShapes Go.WideShapes Go.ChangeAt Go.RowKit Go.Deep

theorem ownKnob' : ownKnob Tryd.prog.godebug = none := by kernel_rfl
theorem laidOut' : laidOutB Tryd.prog = true := by kernel_rfl
theorem etVar : Tryd.prog.globalNamed "errors.errorType" = some 0 := by kernel_rfl
theorem rtType : (Tryd.prog.cutTypes.find? (·.1 == "internal/reflectlite.rtype")).map (·.2) = some 152 := by kernel_rfl
theorem oneRow : ((List.range 194).filter fun t => Tryd.prog.rowNamed t [101, 114, 114, 111, 114]) = [76] := by kernel_rfl
theorem typesSize : Tryd.prog.types.size = 194 := by kernel_rfl
/-- What the rows list of package-level variables. -/
abbrev laidL : List (String × DataW Unit) := [("errors.errorType", Rows.laid_errors_errorType)]

/-- The condition gives the walks the variable's one cell. -/
theorem glob_of_laid {W : World} (h : laidMetH Tryd.prog laidL W) : Glob W := by
  have h' : laidMet Tryd.prog [] W ∧ handlesMet Tryd.prog laidL W := h
  obtain ⟨name, u, ty, e1, e2, e3, e4, e5⟩ := h'.2 _ (List.mem_singleton.2 rfl)
  have en : name = [101, 114, 114, 111, 114] := (Option.some.inj e1).symm
  subst en
  obtain rfl := Option.some.inj (rtType.symm.trans e2)
  have hm : ty ∈ (List.range 194).filter fun t => Tryd.prog.rowNamed t [101, 114, 114, 111, 114] := List.mem_filter.2 ⟨List.mem_range.2 (by rw [← typesSize]; exact e3), e4⟩
  rw [oneRow] at hm
  obtain rfl := List.mem_singleton.1 hm
  have hh : typeHandle Tryd.prog 76 = .pointer (some ⟨1, 76, none⟩) := by kernel_rfl
  rw [hh] at e5
  exact ⟨by simpa using World.var?_cell etVar e5 0⟩

/-- The settled world, the variable's cell laid. -/
noncomputable def laidWorld (os : Os) : World :=
  let w0 := World.holding Tryd.prog os ⟨#[], #[], []⟩
  { w0 with heap := w0.heap.modify 0 fun
      | .cells _ t frozen => .cells #[.iface 152 (.agg #[.pointer (some ⟨1, 76, none⟩)])] t frozen
      | o => o }
theorem laidWorld_met (os : Os) (args : Array Value) : laidMetH Tryd.prog laidL ((laidWorld os).forCall (fun _ _ => 0) ⟨#[], args, []⟩).memory :=
  laidMetH_of_parts (laidMet_nil _ _) (by kernel_rfl)

theorem wf_u8 {n : Int} (h : (Lit.int .u8 n).wf = true) : 0 ≤ n ∧ n < 256 := by
  simp [Lit.wf, IntKind.min, IntKind.max, IntKind.signed, IntKind.bits] at h
  omega

section
variable {H : Type} {enc : TypeId × Value → H} {W : World} {base : Nat} {spare : Nat → Bool} {held : Bool}
/-- An argument of a slice type, opened. -/
theorem arg_secs {v : Value} {d : DataW H} {p : List MemPlace} (hv : Value.okWide Tryd.prog W .any base 22 v) (h : DataW.Trod enc Tryd.prog W 0 spare held 22 v d p) (hL : Light Tryd.prog 22 d) : ∃ A l c, v = .slice A (l : List Sec).length c ∧ RSecs W A l := by
  obtain ⟨A, n, c, rfl⟩ := okWide_slice Tryd.underlying22 hv
  obtain ⟨fuel, h⟩ := h
  obtain ⟨A', l, c', e, hr, _⟩ := open_secs h hL
  cases e
  exact ⟨A, l, c, rfl, hr⟩
theorem arg_seats {v : Value} {d : DataW H} {p : List MemPlace} (hv : Value.okWide Tryd.prog W .any base 45 v) (h : DataW.Trod enc Tryd.prog W 0 spare held 45 v d p) (hL : Light Tryd.prog 45 d) : ∃ A l c, v = .slice A (l : List Seat).length c ∧ RSeats W A l := by
  obtain ⟨A, n, c, rfl⟩ := okWide_slice Tryd.underlying45 hv
  obtain ⟨fuel, h⟩ := h
  obtain ⟨A', l, c', e, hr, _⟩ := open_seats h hL
  cases e
  exact ⟨A, l, c, rfl, hr⟩
theorem arg_int {v : Value} {d : DataW H} {p : List MemPlace} (hv : Value.okWide Tryd.prog W .any base 3 v) (h : DataW.Trod enc Tryd.prog W 0 spare held 3 v d p) : ∃ n, v = .int .i64 n := by
  obtain ⟨n, rfl, _⟩ := open_int Tryd.underlying3 hv h
  exact ⟨n, rfl⟩
theorem arg_bundle {v : Value} {d : DataW H} {p : List MemPlace} (hv : Value.okWide Tryd.prog W .any base 53 v) (h : DataW.Trod enc Tryd.prog W 0 spare held 53 v d p) : ∃ a b, v = .agg #[.int .i64 a, .int .i64 b] := by
  obtain ⟨cs, rfl, hsz⟩ := okWide_struct Tryd.underlying53 hv
  obtain ⟨fuel, h⟩ := h
  obtain ⟨xs, m, _, hx, hl, hxl, hf⟩ := DataW.trod_struct Tryd.underlying53 h
  obtain ⟨l⟩ := cs
  match l, hsz.trans (show Tryd.prog.cellsOf 53 = 2 by kernel_rfl) with
  | [a, b], _ =>
    obtain ⟨y0, _, h0⟩ := field_at hxl hf (i := 0) rfl
    obtain ⟨y1, _, h1⟩ := field_at hxl hf (i := 1) rfl
    obtain ⟨z0, e0, _⟩ := cell_int Tryd.underlying3 cI h0
    obtain ⟨z1, e1, _⟩ := cell_int Tryd.underlying3 cI h1
    simp [Value.cells] at e0 e1
    subst e0 e1
    exact ⟨z0, z1, rfl⟩
theorem arg_step {v : Value} {d : DataW H} {p : List MemPlace} (hv : Value.okWide Tryd.prog W .any base 55 v) (h : DataW.Trod enc Tryd.prog W 0 spare held 55 v d p) : ∃ a b c d G lv, v = .agg #[.int .i64 a, .int .i64 b, .int .i64 c, .int .i64 d, .int .u8 G, .bool lv] ∧ 0 ≤ G ∧ G < 256 := by
  obtain ⟨cs, rfl, hsz⟩ := okWide_struct Tryd.underlying55 hv
  obtain ⟨fuel, h⟩ := h
  obtain ⟨xs, m, _, hx, hl, hxl, hf⟩ := DataW.trod_struct Tryd.underlying55 h
  obtain ⟨l⟩ := cs
  match l, hsz.trans (show Tryd.prog.cellsOf 55 = 6 by kernel_rfl) with
  | [a, b, c, d, e, f], _ =>
    obtain ⟨y0, _, h0⟩ := field_at hxl hf (i := 0) rfl
    obtain ⟨y1, _, h1⟩ := field_at hxl hf (i := 1) rfl
    obtain ⟨y2, _, h2⟩ := field_at hxl hf (i := 2) rfl
    obtain ⟨y3, _, h3⟩ := field_at hxl hf (i := 3) rfl
    obtain ⟨y4, _, h4⟩ := field_at hxl hf (i := 4) rfl
    obtain ⟨y5, _, h5⟩ := field_at hxl hf (i := 5) rfl
    obtain ⟨z0, e0, _⟩ := cell_int Tryd.underlying3 cI h0
    obtain ⟨z1, e1, _⟩ := cell_int Tryd.underlying3 cI h1
    obtain ⟨z2, e2, _⟩ := cell_int Tryd.underlying3 cI h2
    obtain ⟨z3, e3, _⟩ := cell_int Tryd.underlying3 cI h3
    obtain ⟨z4, e4, w4⟩ := cell_int Tryd.underlying5 (by kernel_rfl) h4
    obtain ⟨z5, e5⟩ := cell_bool Tryd.underlying4 cB h5
    simp [Value.cells] at e0 e1 e2 e3 e4 e5
    subst e0 e1 e2 e3 e4 e5
    have hw := wf_u8 w4
    exact ⟨z0, z1, z2, z3, z4, z5, rfl, hw.1, hw.2⟩
end
end Go.Proofs.YteonpdnncodkaaaDoor
