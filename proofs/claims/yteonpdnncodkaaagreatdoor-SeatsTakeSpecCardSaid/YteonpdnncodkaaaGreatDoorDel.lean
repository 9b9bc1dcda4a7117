/- slices.IndexFunc, slices.DeleteFunc over seats, at whatever closure that only reads: their contracts. -/
import Derived.Test.YteonpdnncodkaaaGreatDoorTake1
set_option linter.unusedVariables false
set_option linter.unusedSimpArgs false
namespace Go.Proofs.YteonpdnncodkaaaGreatDoor
open Go.RowKit

set_option maxHeartbeats 1000000 in
theorem idxSeat_c (A : Option Addr) (c : Nat) (l : List Seat) (g : Nat) (lb : Array Value) (p : Seat → Bool) (w : World) (h : RSeats w A l) (eg : ∀ args w, (callFunc g args).run Tryz.prog w = .ok (.enter g args) w)
    (hp : ∀ (W : World) (x : Seat), Below w.heap.size w W → Calls Tryz.prog g (#[.agg #[.int .i64 x.stu, .int .i64 x.sec, .int .i64 x.grp]] ++ lb) W fun e W' => e = .returned (.bool (p x)) ∧ Below W.heap.size W W') :
    Calls Tryz.prog 54 #[.slice A l.length c, .func (.func g) #[] lb] w fun e w' => e = .returned (.int .i64 (idx p l)) ∧ Below w.heap.size w w' := by
  have hl := h.len
  have H := Lib.hid h
  have HP := Lib.hid hp
  clear h hp
  go_enter Tryz.func54, Tryz.ntmps54
  go_wp2
  go_loopg [8] l.length (fun n i wr => ∃ k : Nat, n + k = l.length ∧ i = .int .i64 k ∧ Hid (∀ q, (hq : q < k) → (hk : k ≤ l.length) → p (l[q]'(by omega)) = false) ∧ Hid (Below w.heap.size w wr))
  case atStart => exact ⟨0, by omega, rfl, by intro q hq; omega, by unfold Hid; go_grown⟩
  case round =>
    obtain ⟨k, hk, rfl, ha, hB⟩ := hrel
    by_cases hlt : k < l.length
    · obtain ⟨ad, rfl, f0, f1, f2⟩ := H.out.at hB.out k hlt
      go_wp2_with fail
      refine (HP.out _ l[k] hB.out).mono ?_
      rintro e w1 ⟨rfl, hb1⟩
      have hB1 := Lib.hid (bthen hB.out hB.out.size hb1)
      clear hb1 hB
      cases hq : p l[k]
      · have fin := Lib.hid (fun q (hq : q < k + 1) (_ : k + 1 ≤ l.length) => idx_none_step (p := p) hlt (fun q hq => ha.out q hq (by omega)) (by assumption) q hq)
        clear hq
        go_wp2
        go_roundg (gk - 1)
        case measure => omega
        case rel => exact ⟨k + 1, by omega, by go_num, fin, hB1⟩
      · have fin := Lib.hid (idx_some (p := p) hlt (fun q hq => ha.out q hq (by omega)) hq)
        clear hq
        go_wp2
        go_ret
        exact ⟨ret_i64 fin.out.symm, hB1.out⟩
    · obtain rfl : k = l.length := by omega
      have fin := Lib.hid (idx_none (p := p) (fun q hq => ha.out q hq (Nat.le_refl _)))
      go_wp2
      go_ret
      exact ⟨ret_i64 fin.out.symm, hB.out⟩

/-- clear, a row of elements of several cells. -/
theorem run_clear_row {P : Program} (w : World) (t e ty : TypeId) (z : Value) (ht : P.underlying t = some (.slice e)) (hv : ∀ w, (zeroValue e).run P w = .ok z w) (g o n c : Nat) (cur : Array Value) (tt : TypeId) (hg : w.heap[g]? = some (.cells cur tt (0, 0))) (hn : 0 < n)
    (hl : o + (Builtin.zeroCells z.cells n).toList.length ≤ cur.size) (h1 : ∀ v ∈ (Builtin.zeroCells z.cells n).toList, v.oneCell' = true) :
    (Builtin.clear_ #[t] ty #[.slice (some ⟨g, o, none⟩) n c]).run P w = .ok (.tuple #[]) (w.setRow g (cur.toList.take o ++ (Builtin.zeroCells z.cells n).toList ++ cur.toList.drop (o + (Builtin.zeroCells z.cells n).toList.length)).toArray) := by
  have hst := run_storeCells_at P g o tt (Builtin.zeroCells z.cells n).toList 0 cur w hg (by simpa using hl) h1
  simp only [Nat.add_zero] at hst
  obtain ⟨m, rfl⟩ : ∃ m, n = m + 1 := ⟨n - 1, by omega⟩
  simp [Builtin.clear_, run_underlying ht, hv, hst]

/-! ### what DeleteFunc keeps -/
structure KeptS (p : Seat → Bool) (l : List Seat) (j i : Nat) (d : List Seat) : Prop where
  len : d.length = l.length
  lt : i < j
  le : j ≤ l.length
  low : d.take i = (l.take j).filter fun x => !p x
  high : d.drop j = l.drop j
theorem KeptS.start {p : Seat → Bool} {l : List Seat} {k : Nat} (hk : k < l.length) (hp : p l[k] = true) (hq : ∀ q, (hq : q < k) → p (l[q]'(by omega)) = false) : KeptS p l (k + 1) k l := by
  refine ⟨rfl, by omega, by omega, ?_, rfl⟩
  rw [List.take_succ_eq_append_getElem hk, List.filter_append]
  simp only [List.filter_cons, hp, List.filter_nil]
  rw [List.filter_eq_self.2]
  · simp
  · intro x hx
    obtain ⟨q, hq', rfl⟩ := List.mem_iff_getElem.1 hx
    rw [List.length_take] at hq'
    rw [List.getElem_take, hq q (by omega)]; rfl
theorem KeptS.get {p : Seat → Bool} {l d : List Seat} {j i : Nat} (h : KeptS p l j i d) (hj : j < l.length) : d[j]'(by rw [h.len]; exact hj) = l[j] := by
  have h1 := congrArg (fun l => l[0]?) h.high
  simp only [List.getElem?_drop, Nat.add_zero] at h1
  rw [List.getElem?_eq_getElem (by rw [h.len]; exact hj), List.getElem?_eq_getElem hj] at h1
  exact Option.some.inj h1
theorem KeptS.skip {p : Seat → Bool} {l d : List Seat} {j i : Nat} (h : KeptS p l j i d) (hj : j < l.length) (hp : p l[j] = true) : KeptS p l (j + 1) i d := by
  refine ⟨h.len, by have := h.lt; omega, by omega, ?_, ?_⟩
  · rw [List.take_succ_eq_append_getElem hj, List.filter_append, h.low]
    simp [hp]
  · have := congrArg (List.drop 1) h.high
    rwa [List.drop_drop, List.drop_drop] at this
theorem KeptS.keep {p : Seat → Bool} {l d : List Seat} {j i : Nat} (h : KeptS p l j i d) (hj : j < l.length) (hp : p l[j] = false) : KeptS p l (j + 1) (i + 1) (d.set i l[j]) := by
  have hlt := h.lt
  have hlen := h.len
  refine ⟨by rw [List.length_set, h.len], by omega, by omega, ?_, ?_⟩
  · rw [List.take_succ_eq_append_getElem hj, List.filter_append, ← h.low, List.take_succ_eq_append_getElem (by rw [List.length_set]; omega), List.take_set_of_le (by omega), List.getElem_set_self]
    simp [hp]
  · rw [List.drop_set_of_lt (by omega)]
    have := congrArg (List.drop 1) h.high
    rwa [List.drop_drop, List.drop_drop] at this
theorem KeptS.done {p : Seat → Bool} {l d : List Seat} {i : Nat} (h : KeptS p l l.length i d) : d.take i = l.filter fun x => !p x := by
  have := h.low
  rwa [List.take_length] at this
theorem cellsS_set (l : List Seat) (rest : List Value) (i : Nat) (hi : i < l.length) (x : Seat) : (((cellsS l ++ rest).set (i * 3) (.int .i64 x.stu)).set (i * 3 + 1) (.int .i64 x.sec)).set (i * 3 + 2) (.int .i64 x.grp) = cellsS (l.set i x) ++ rest := by
  have e1 : l = l.take i ++ (l[i] :: l.drop (i + 1)) := by rw [← List.drop_eq_getElem_cons hi, List.take_append_drop]
  have e2 : l.set i x = l.take i ++ (x :: l.drop (i + 1)) := by
    conv => lhs; rw [e1]
    rw [List.set_append_right _ _ (by rw [List.length_take]; omega), List.length_take, show i - min i l.length = 0 by omega]
    rfl
  have hl : (cellsS (l.take i)).length = i * 3 := by rw [cellsS_length, List.length_take]; omega
  rw [e2]
  conv => lhs; rw [e1]
  have e3 : ∀ y : Seat, cellsS (l.take i ++ (y :: l.drop (i + 1))) ++ rest = cellsS (l.take i) ++ (stC y ++ (cellsS (l.drop (i + 1)) ++ rest)) := fun y => by
    rw [cellsS_append]
    simp [cellsS]
  rw [e3, e3, List.set_append_right _ _ (by omega), hl, Nat.sub_self]
  rw [List.set_append_right _ _ (by omega), hl, show i * 3 + 1 - i * 3 = 1 by omega]
  rw [List.set_append_right _ _ (by omega), hl, show i * 3 + 2 - i * 3 = 2 by omega]
  rfl
end Go.Proofs.YteonpdnncodkaaaGreatDoor
