/- The arguments of the laws, read: slices of sections and of seats, bundles, steps; and the rows' frame. -/
import Derived.Test.YteonpdnncodkaaaGreatDoorSane
import Derived.Test.YteonpdnncodkaaaGreatDoorRows
import Derived.ChangeSame
import Derived.ChangeVars
import Derived.JoinedOf
import Derived.OpenShut
import Derived.ProofKit
import Derived.LaidLaws
import Derived.LaidHandle
import Derived.Stop.Joined
import Derived.SizedLaws
import Derived.Carry
import Derived.Deep.Slices
set_option linter.unusedVariables false
set_option linter.unusedSimpArgs false
namespace Go.Proofs.YteonpdnncodkaaaGreatDoor
open Go.ChangeShapes Go.WideShapes Go.ChangeAt Go.RowKit Go.Deep

section
variable {H : Type} {enc : TypeId × Value → H} {w : World} {base : Nat} {spare : Nat → Bool} {held : Bool}

/-- No string and slice in it weighs more than the reach. -/
def Light {H : Type} (P : Program) (t : TypeId) (d : DataW H) : Prop := ∀ n ∈ d.weights P t, n ≤ reachBytes
theorem mem_weightsAll {P : Program} {e : TypeId} : ∀ {l : List (DataW H)} {d : DataW H}, d ∈ l → ∀ n ∈ d.weights P e, n ∈ DataW.weightsAll P e l
  | x :: r, d, hd, n, hn => by
    simp only [DataW.weightsAll, List.mem_append]
    rcases List.mem_cons.1 hd with rfl | hd
    · exact .inl hn
    · exact .inr (mem_weightsAll hd n hn)
theorem Light.elem {P : Program} {t e : TypeId} (ht : P.underlying t = some (.slice e)) {l s : List (DataW H)} (h : Light P t (.slice l s)) {d : DataW H} (hd : d ∈ l) : Light P e d := fun n hn => h n (by
  simp only [DataW.weights, ht, List.mem_cons, List.mem_append]
  exact .inr (.inl (mem_weightsAll hd n hn)))
theorem Light.len {P : Program} {t e : TypeId} (ht : P.underlying t = some (.slice e)) {l s : List (DataW H)} (h : Light P t (.slice l s)) : l.length * P.bytesOf e ≤ reachBytes := by
  have := h ((l.length + s.length) * P.bytesOf e) (by simp [DataW.weights, ht])
  exact Nat.le_trans (Nat.mul_le_mul_right _ (Nat.le_add_right _ _)) this
theorem Light.field {P : Program} {t : TypeId} {fs : Array Field} (ht : P.underlying t = some (.struct fs)) {ds : List (DataW H)} (h : Light P t (.agg ds)) {i : Nat} {f : Field} {d : DataW H} (hf : fs[i]? = some f) (hd : ds[i]? = some d) : Light P f.type d := fun n hn => h n (by
  simp only [DataW.weights, ht]
  exact DataW.weights_mem_each (j := i) (by simp [hf]) hd n hn)

/-- A slice of elements of sz cells, each read by R. -/
theorem open_rd {α : Type} [Inhabited α] {P : Program} {t e : TypeId} {sz : Nat} {R : World → α → List Value → Prop} {fuel : Nat} {cs : List Value} {d : DataW H} {p : List MemPlace} (ht : P.underlying t = some (.slice e)) (hc : P.cellsOf e = sz) (hby : sz ≤ P.bytesOf e)
    (hR : ∀ (n : Nat) (cs : List Value) (d : DataW H) (p : List MemPlace), Light P e d → DataW.trod enc P w base spare held n e cs = some (d, p) → ∃ x, R w x cs)
    (h : DataW.trod enc P w base spare held fuel t cs = some (d, p)) (hL : Light P t d) : ∃ (A : Option Addr) (l : List α) (c : Nat), cs = [.slice A l.length c] ∧ Rd sz R w A l ∧ l.length ≤ c := by
  rcases open_slice ht h with ⟨rfl, hx⟩ | ⟨a, len, cap, m, n, D, Pl, rfl, hb, hl, hm, hmm, hx, hi⟩
  · exact ⟨none, [], 0, rfl, Rd.nil _ _ _ _, Nat.le_refl _⟩
  · simp only [Prod.mk.injEq] at hx
    obtain ⟨rfl, _⟩ := hx
    have hle : len ≤ m := by rw [hmm]; split <;> omega
    have hlen := hL.len ht
    rw [List.length_map, List.length_range] at hlen
    have hb2 : len * sz ≤ 140737488355328 := by
      have h1 := Nat.mul_le_mul_left len hby
      have h2 := reachBytes_lt
      omega
    obtain ⟨f, hf⟩ := choose_lt (n := len) (p := fun i x => ∃ cs', cs'.length = sz ∧ R w x cs' ∧ ∀ j, (hj : j < cs'.length) → w.cell? (cellOf (a.add (i * sz)) j) = some cs'[j]) (fun i hil => by
      obtain ⟨cs', h1, h2⟩ := hi i (by omega)
      rw [hc] at h1
      obtain ⟨_, hcl, hat⟩ := World.cells?_some h1
      obtain ⟨x, hx⟩ := hR n cs' (D i) (Pl i) (hL.elem ht (List.mem_map.2 ⟨i, List.mem_range.2 hil, rfl⟩)) h2
      refine ⟨x, cs', hcl, hx, fun j hj => ?_⟩
      have := hat j (by omega)
      rw [List.getElem?_eq_getElem hj, Proofs.YteonpdnncodkaaaGreatDoor.add_add] at this
      rw [cellOf_add]
      exact this)
    refine ⟨some a, (List.range len).map f, cap, by simp, ⟨by simpa using hb2, fun k hk => ?_⟩, by simpa using hl⟩
    have hk' : k < len := by simpa using hk
    obtain ⟨cs', h1, h2, h3⟩ := hf k hk'
    exact ⟨a, cs', rfl, h1, by simpa using h2, h3⟩

theorem take_one {cs : List Value} {o : Nat} {v : Value} (h : (cs.drop o).take 1 = [v]) : cs[o]? = some v := by
  have := congrArg (fun l => l[0]?) h
  simpa [List.getElem?_take, List.getElem?_drop] using this
theorem cell_int {P : Program} {ty : TypeId} {k : IntKind} {n o : Nat} {cs : List Value} {y : DataW H × List MemPlace} (ht : P.underlying ty = some (.int k)) (hc : P.cellsOf ty = 1) (h : DataW.trod enc P w base spare held n ty ((cs.drop o).take (P.cellsOf ty)) = some y) : ∃ z, cs[o]? = some (.int k z) ∧ (Lit.int k z).wf = true := by
  obtain ⟨z, e, _, hw⟩ := DataW.trod_int ht h
  rw [hc] at e
  exact ⟨z, take_one e, hw⟩
theorem cell_bool {P : Program} {ty : TypeId} {n o : Nat} {cs : List Value} {y : DataW H × List MemPlace} (ht : P.underlying ty = some .bool) (hc : P.cellsOf ty = 1) (h : DataW.trod enc P w base spare held n ty ((cs.drop o).take (P.cellsOf ty)) = some y) : ∃ z, cs[o]? = some (.bool z) := by
  obtain ⟨z, e, _⟩ := DataW.trod_bool ht h
  rw [hc] at e
  exact ⟨z, take_one e⟩
/-- Field i of a struct that is read. -/
theorem field_at {P : Program} {fs : Array Field} {n : Nat} {cs : List Value} {xs : List (DataW H × List MemPlace)} (hl : xs.length = fs.size) (hf : ∀ (i : Nat) (f : Field), fs[i]? = some f → DataW.trod enc P w base spare held n f.type ((cs.drop f.offset).take (P.cellsOf f.type)) = xs[i]?) {i : Nat} {f : Field} (hi : fs[i]? = some f) :
    ∃ y, xs[i]? = some y ∧ DataW.trod enc P w base spare held n f.type ((cs.drop f.offset).take (P.cellsOf f.type)) = some y := by
  have hlt : i < xs.length := by rw [hl]; exact (Array.getElem?_eq_some_iff.1 hi).1
  refine ⟨xs[i], List.getElem?_eq_getElem hlt, ?_⟩
  rw [hf i f hi, List.getElem?_eq_getElem hlt]
theorem list3 {cs : List Value} (h : cs.length = 3) : ∃ a b c, cs = [a, b, c] := by
  match cs, h with
  | [a, b, c], _ => exact ⟨_, _, _, rfl⟩
theorem list5 {cs : List Value} (h : cs.length = 5) : ∃ a b c d e, cs = [a, b, c, d, e] := by
  match cs, h with
  | [a, b, c, d, e], _ => exact ⟨_, _, _, _, _, rfl⟩
theorem list9 {cs : List Value} (h : cs.length = 9) : ∃ a b c d e f g i j, cs = [a, b, c, d, e, f, g, i, j] := by
  match cs, h with
  | [a, b, c, d, e, f, g, i, j], _ => exact ⟨_, _, _, _, _, _, _, _, _, rfl⟩

theorem cI : Tryz.prog.cellsOf 3 = 1 := by kernel_rfl
theorem cB : Tryz.prog.cellsOf 4 = 1 := by kernel_rfl
theorem read_int {n : Nat} {cs : List Value} {d : DataW H} {p : List MemPlace} (h : DataW.trod enc Tryz.prog w base spare held n 3 cs = some (d, p)) : ∃ x : Int, cs = [.int .i64 x] := by
  obtain ⟨z, e, _, _⟩ := DataW.trod_int Tryz.underlying3 h
  exact ⟨z, e⟩
theorem read_seat {n : Nat} {cs : List Value} {d : DataW H} {p : List MemPlace} (h : DataW.trod enc Tryz.prog w base spare held n 44 cs = some (d, p)) : ∃ x : Seat, cs = stC x := by
  obtain ⟨xs, m, _, hx, hl, hxl, hf⟩ := DataW.trod_struct Tryz.underlying44 h
  obtain ⟨a, b, c, rfl⟩ := list3 (hl.trans (by kernel_rfl))
  obtain ⟨y0, _, h0⟩ := field_at hxl hf (i := 0) rfl
  obtain ⟨y1, _, h1⟩ := field_at hxl hf (i := 1) rfl
  obtain ⟨y2, _, h2⟩ := field_at hxl hf (i := 2) rfl
  obtain ⟨z0, e0, _⟩ := cell_int Tryz.underlying3 cI h0
  obtain ⟨z1, e1, _⟩ := cell_int Tryz.underlying3 cI h1
  obtain ⟨z2, e2, _⟩ := cell_int Tryz.underlying3 cI h2
  simp at e0 e1 e2
  subst e0 e1 e2
  exact ⟨⟨z0, z1, z2⟩, rfl⟩
theorem read_gp {n : Nat} {cs : List Value} {d : DataW H} {p : List MemPlace} (h : DataW.trod enc Tryz.prog w base spare held n 36 cs = some (d, p)) : ∃ x : Gp, cs = gpC x := by
  obtain ⟨xs, m, _, hx, hl, hxl, hf⟩ := DataW.trod_struct Tryz.underlying36 h
  obtain ⟨a, b, c, rfl⟩ := list3 (hl.trans (by kernel_rfl))
  obtain ⟨y0, _, h0⟩ := field_at hxl hf (i := 0) rfl
  obtain ⟨y1, _, h1⟩ := field_at hxl hf (i := 1) rfl
  obtain ⟨y2, _, h2⟩ := field_at hxl hf (i := 2) rfl
  obtain ⟨z0, e0, _⟩ := cell_int Tryz.underlying3 cI h0
  obtain ⟨z1, e1, _⟩ := cell_int Tryz.underlying3 cI h1
  obtain ⟨z2, e2, _⟩ := cell_int Tryz.underlying3 cI h2
  simp at e0 e1 e2
  subst e0 e1 e2
  exact ⟨⟨z0, z1, z2⟩, rfl⟩
theorem read_mt {n : Nat} {cs : List Value} {d : DataW H} {p : List MemPlace} (h : DataW.trod enc Tryz.prog w base spare held n 98 cs = some (d, p)) : ∃ x : Mt, cs = mtC x := by
  obtain ⟨xs, m, _, hx, hl, hxl, hf⟩ := DataW.trod_struct Tryz.underlying98 h
  obtain ⟨a, b, c, d, e, rfl⟩ := list5 (hl.trans (by kernel_rfl))
  obtain ⟨y0, _, h0⟩ := field_at hxl hf (i := 0) rfl
  obtain ⟨y1, _, h1⟩ := field_at hxl hf (i := 1) rfl
  obtain ⟨y2, _, h2⟩ := field_at hxl hf (i := 2) rfl
  obtain ⟨y3, _, h3⟩ := field_at hxl hf (i := 3) rfl
  obtain ⟨y4, _, h4⟩ := field_at hxl hf (i := 4) rfl
  obtain ⟨z0, e0, _⟩ := cell_int Tryz.underlying3 cI h0
  obtain ⟨z1, e1, _⟩ := cell_int Tryz.underlying3 cI h1
  obtain ⟨z2, e2, _⟩ := cell_int Tryz.underlying3 cI h2
  obtain ⟨z3, e3, _⟩ := cell_int Tryz.underlying3 cI h3
  obtain ⟨z4, e4, _⟩ := cell_int Tryz.underlying3 cI h4
  simp at e0 e1 e2 e3 e4
  subst e0 e1 e2 e3 e4
  exact ⟨⟨z0, z1, z2, z3, z4⟩, rfl⟩
theorem open_ints' {n : Nat} {cs : List Value} {d : DataW H} {p : List MemPlace} (h : DataW.trod enc Tryz.prog w base spare held n 26 cs = some (d, p)) (hL : Light Tryz.prog 26 d) : ∃ A l c, cs = [.slice A (l : List Int).length c] ∧ RInts w A l ∧ l.length ≤ c :=
  open_rd (R := fun _ (x : Int) cs => cs = [.int .i64 x]) Tryz.underlying26 cI (of_decide_eq_true (by kernel_rfl)) (fun _ _ _ _ _ h => read_int h) h hL
theorem open_seats {n : Nat} {cs : List Value} {d : DataW H} {p : List MemPlace} (h : DataW.trod enc Tryz.prog w base spare held n 23 cs = some (d, p)) (hL : Light Tryz.prog 23 d) : ∃ A l c, cs = [.slice A (l : List Seat).length c] ∧ RSeats w A l ∧ l.length ≤ c :=
  open_rd (R := fun _ (x : Seat) cs => cs = stC x) Tryz.underlying23 (by kernel_rfl) (of_decide_eq_true (by kernel_rfl)) (fun _ _ _ _ _ h => read_seat h) h hL
theorem open_gps {n : Nat} {cs : List Value} {d : DataW H} {p : List MemPlace} (h : DataW.trod enc Tryz.prog w base spare held n 37 cs = some (d, p)) (hL : Light Tryz.prog 37 d) : ∃ A l c, cs = [.slice A (l : List Gp).length c] ∧ RGps w A l ∧ l.length ≤ c :=
  open_rd (R := fun _ (x : Gp) cs => cs = gpC x) Tryz.underlying37 (by kernel_rfl) (of_decide_eq_true (by kernel_rfl)) (fun _ _ _ _ _ h => read_gp h) h hL
theorem open_mts {n : Nat} {cs : List Value} {d : DataW H} {p : List MemPlace} (h : DataW.trod enc Tryz.prog w base spare held n 38 cs = some (d, p)) (hL : Light Tryz.prog 38 d) : ∃ A l c, cs = [.slice A (l : List Mt).length c] ∧ RMts w A l ∧ l.length ≤ c :=
  open_rd (R := fun _ (x : Mt) cs => cs = mtC x) Tryz.underlying38 (by kernel_rfl) (of_decide_eq_true (by kernel_rfl)) (fun _ _ _ _ _ h => read_mt h) h hL
theorem read_sec {n : Nat} {cs : List Value} {d : DataW H} {p : List MemPlace} (hL : Light Tryz.prog 40 d) (h : DataW.trod enc Tryz.prog w base spare held n 40 cs = some (d, p)) : ∃ x : Sec, SecR w x cs := by
  obtain ⟨xs, m, _, hx, hl, hxl, hf⟩ := DataW.trod_struct Tryz.underlying40 h
  simp only [Prod.mk.injEq] at hx
  obtain ⟨rfl, _⟩ := hx
  obtain ⟨a, b, c, d, e, f, g, i, j, rfl⟩ := list9 (hl.trans (by kernel_rfl))
  obtain ⟨y0, _, h0⟩ := field_at hxl hf (i := 0) rfl
  obtain ⟨y1, _, h1⟩ := field_at hxl hf (i := 1) rfl
  obtain ⟨y2, _, h2⟩ := field_at hxl hf (i := 2) rfl
  obtain ⟨y3, _, h3⟩ := field_at hxl hf (i := 3) rfl
  obtain ⟨y4, _, h4⟩ := field_at hxl hf (i := 4) rfl
  obtain ⟨⟨d5, p5⟩, x5, h5⟩ := field_at hxl hf (i := 5) rfl
  obtain ⟨⟨d6, p6⟩, x6, h6⟩ := field_at hxl hf (i := 6) rfl
  obtain ⟨⟨d7, p7⟩, x7, h7⟩ := field_at hxl hf (i := 7) rfl
  obtain ⟨y8, _, h8⟩ := field_at hxl hf (i := 8) rfl
  obtain ⟨z0, e0, _⟩ := cell_int Tryz.underlying3 cI h0
  obtain ⟨z1, e1, _⟩ := cell_int Tryz.underlying3 cI h1
  obtain ⟨z2, e2, _⟩ := cell_int Tryz.underlying3 cI h2
  obtain ⟨z3, e3, _⟩ := cell_int Tryz.underlying3 cI h3
  obtain ⟨z4, e4, _⟩ := cell_int Tryz.underlying3 cI h4
  obtain ⟨z8, e8⟩ := cell_bool Tryz.underlying4 cB h8
  obtain ⟨A5, l5, c5, e5, r5, k5⟩ := open_mts h5 (hL.field Tryz.underlying40 (i := 5) rfl (by simp [x5]))
  obtain ⟨A6, l6, c6, e6, r6, k6⟩ := open_gps h6 (hL.field Tryz.underlying40 (i := 6) rfl (by simp [x6]))
  obtain ⟨A7, l7, c7, e7, r7, k7⟩ := open_ints' h7 (hL.field Tryz.underlying40 (i := 7) rfl (by simp [x7]))
  rw [show Tryz.prog.cellsOf _ = 1 by kernel_rfl] at e5 e6 e7
  simp at e0 e1 e2 e3 e4 e5 e6 e7 e8
  subst e0 e1 e2 e3 e4 e5 e6 e7 e8
  exact ⟨⟨z0, z1, z2, z3, z4, l5, l6, l7, z8⟩, A5, c5, A6, c6, A7, c7, rfl, r5, r6, r7, k5, k6, k7⟩
theorem open_secs {n : Nat} {cs : List Value} {d : DataW H} {p : List MemPlace} (h : DataW.trod enc Tryz.prog w base spare held n 22 cs = some (d, p)) (hL : Light Tryz.prog 22 d) : ∃ A l c, cs = [.slice A (l : List Sec).length c] ∧ RSecs w A l ∧ l.length ≤ c :=
  open_rd (R := SecR) Tryz.underlying22 (by kernel_rfl) (of_decide_eq_true (by kernel_rfl)) (fun _ _ _ _ hL h => read_sec hL h) h hL
end
end Go.Proofs.YteonpdnncodkaaaGreatDoor
