/- slices.Insert of one seat into a row that the call has made itself: its contract. -/
import Derived.Test.YteonpdnncodkaaaGreatDoorBin
import Derived.Shelf.Spec.SlicesInsert
import Derived.Lib.AppendZerosOnto
import Derived.Lib.Overlaps
import Derived.Deep.RegionLaw
set_option linter.unusedVariables false
set_option linter.unusedSimpArgs false
namespace Go.Proofs.YteonpdnncodkaaaGreatDoor
open Go.RowKit

/-- copy, elements of k cells. -/
theorem run_copy_rowK {P : Program} (k : Nat) (w : World) (dT sT ty elem : TypeId) (g o dLen dCap : Nat) (a : Addr) (sLen sCap : Nat) (cur : Array Value) (t : TypeId) (cs : List Value)
    (hu : P.underlying dT = some (.slice elem)) (hs : (P.info? elem).map (·.size) = some k) (hg : w.heap[g]? = some (.cells cur t (0, 0))) (hn : cs.length = Nat.min sLen dLen * k)
    (hsrc : ∀ j v, cs[j]? = some v → w.cell? (a.add j) = some v) (hfit : o + cs.length ≤ cur.size) (h1 : ∀ v ∈ cs, v.oneCell' = true) :
    (Builtin.copy_ #[dT, sT] ty #[.slice (some ⟨g, o, none⟩) dLen dCap, .slice (some a) sLen sCap]).run P w =
      .ok (goInt (Nat.min sLen dLen)) (w.setRow g (cur.toList.take o ++ cs ++ cur.toList.drop (o + cs.length)).toArray) := by
  have hl := run_loadCells_list (P := P) w a cs hsrc
  have hst := run_storeCells_at P g o t cs 0 cur w hg (by simpa using hfit) h1
  cases hq : P.info? elem with
  | none => simp [hq] at hs
  | some i =>
    have hi : i.size = k := by simpa [hq] using hs
    simp [Builtin.copy_, run_underlying hu, Builtin.lenOf, Builtin.firstCells, sizeOf, typeInfo, hq, hi, ← hn, hl, hst]

def insS (l : List Seat) (i : Nat) (x : Seat) : List Seat := l.take i ++ x :: l.drop i
theorem insS_length {l : List Seat} {i : Nat} (hi : i ≤ l.length) (x : Seat) : (insS l i x).length = l.length + 1 := by unfold insS; simp; omega
theorem insS_cells (l : List Seat) (i : Nat) (x : Seat) : cellsS (insS l i x) = cellsS (l.take i) ++ stC x ++ cellsS (l.drop i) := by
  unfold insS
  rw [cellsS_append]
  simp [cellsS]
theorem Blk.cells3 {w : World} {b : Nat} {t : TypeId} {x : Seat} (h : Blk w b t #[.int .i64 x.stu, .int .i64 x.sec, .int .i64 x.grp]) : ∀ j u, (stC x)[j]? = some u → w.cell? (Addr.add ⟨b, 0, none⟩ j) = some u := by
  intro j u hu
  rw [add0]
  exact h.cell j (by simpa [stC] using hu)
theorem stC_one (x : Seat) : ∀ u ∈ stC x, u.oneCell' = true := by
  intro u hu
  simp only [stC, List.mem_cons, List.not_mem_nil, or_false] at hu
  rcases hu with rfl | rfl | rfl <;> rfl

set_option maxHeartbeats 4000000 in
set_option maxRecDepth 100000 in
/-- At the end. -/
theorem insEnd_c (B : Nat) (v : Value) (l : List Seat) (x : Seat) (vb : Nat) (w : World) (hBw : B ≤ w.heap.size) (h : OwnS B w v l) (hb : l.length ≤ 1000000) (hx : Blk w vb 44 #[.int .i64 x.stu, .int .i64 x.sec, .int .i64 x.grp]) :
    Calls Tryz.prog 23 #[v, .int .i64 l.length, .slice (some ⟨vb, 0, none⟩) 1 1] w fun e w' => ∃ v', e = .returned v' ∧ OwnS B w' v' (l ++ [x]) ∧ w.grownBy w' v.ownBlock := by
  obtain ⟨i0, hi, hz0, hz1, hz2⟩ := seatInfo
  obtain ⟨A, c, rfl⟩ := h.shape
  have H := Lib.hid h
  have HX := Lib.hid hx
  clear h hx
  go_enter Tryz.func23, Tryz.ntmps23
  go_wp2_with (at_builtin; refine wpList_append_own _ rfl _ _ 23 rfl B 44 i0 (.agg #[.int .i64 0, .int .i64 0, .int .i64 0]) 3 24 Tryz.underlying23 hi hz0 hz1 hz2 rfl (by decide) _ _ _ rfl H.out ⟨vb, 0, none⟩ 1 1 (stC x) rfl rfl HX.out.cells3 (stC_one x) (by unfold maxLen; omega) (by omega) hBw ?_)
  all_goals
    intro v' w1 hown hgrow hnil
    have HO := Lib.hid hown
    have HB := Lib.hid hgrow
    clear hown hgrow hnil
    go_wp2
    go_ret
    refine ⟨v', rfl, ?_, by have h := HB.out; cases A <;> exact h⟩
    have h := HO.out
    unfold OwnS
    rw [cellsS_append, List.length_append]
    exact h
/-- A row of seats that the call has made itself: nil, or a block of its own. -/
theorem OwnS.cases {B : Nat} {w : World} {v : Value} {l : List Seat} (h : OwnS B w v l) : (v = .slice none 0 0 ∧ l = []) ∨
    ∃ g cap rest, v = .slice (some ⟨g, 0, none⟩) l.length cap ∧ B ≤ g ∧ w.heap[g]? = some (.cells (cellsS l ++ rest).toArray 44 (0, 0)) ∧ l.length * 3 + rest.length = cap * 3 ∧ cap ≤ maxLen := by
  rcases h.2 with ⟨rfl, h0⟩ | ⟨g, cap, cur, rfl, hB, hg, hn, hm, hc, hx⟩
  · exact .inl ⟨rfl, List.eq_nil_of_length_eq_zero h0⟩
  · refine .inr ⟨g, cap, cur.toList.drop (l.length * 3), rfl, hB, ?_, ?_, hm⟩
    · rw [← hx, List.take_append_drop]; exact hg
    · have hc' : cur.toList.length = cap * 3 := by simpa using hc
      rw [List.length_drop, hc']; omega
theorem OwnS.mk {B : Nat} {w : World} {l : List Seat} {g cap : Nat} {rest : List Value} (hB : B ≤ g) (hg : w.heap[g]? = some (.cells (cellsS l ++ rest).toArray 44 (0, 0))) (hl : l.length * 3 + rest.length = cap * 3) (hm : cap ≤ maxLen) : OwnS B w (.slice (some ⟨g, 0, none⟩) l.length cap) l :=
  ⟨cellsS_length l, .inr ⟨g, cap, _, rfl, hB, hg, by omega, hm, by simp [cellsS_length]; omega, by simp [List.take_append, cellsS_length, List.take_of_length_le]⟩⟩
theorem splice_at {α : Type} {c p q s : List α} {o : Nat} (hc : c = p ++ q) (ho : p.length = o) (hs : s.length ≤ q.length) : c.take o ++ s ++ c.drop (o + s.length) = p ++ (s ++ q.drop s.length) := by
  subst hc ho
  rw [List.take_left, List.drop_append, List.append_assoc]
  simp

theorem heap_cell {w : World} {g : Nat} {cs : List Value} {t : TypeId} (h : w.heap[g]? = some (.cells cs.toArray t (0, 0))) (j : Nat) {v : Value} (hv : cs[j]? = some v) : w.cell? ⟨g, j, none⟩ = some v := by
  simp [World.cell?, h, hv]
theorem Blk.drewHeap {w : World} : w.drew.heap = w.heap := rfl

end Go.Proofs.YteonpdnncodkaaaGreatDoor
