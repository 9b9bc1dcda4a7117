/- slices.Insert of one seat into a row that the call has made itself: there is no room: a new row. -/
import Derived.Test.YteonpdnncodkaaaGreatDoorIns
import Derived.Laws.CopyOwn
set_option linter.unusedVariables false
set_option linter.unusedSimpArgs false
namespace Go.Proofs.YteonpdnncodkaaaGreatDoor
open Go.RowKit

set_option maxHeartbeats 4000000 in
set_option maxRecDepth 100000 in
/-- There is no room: a new row. -/
theorem insGrow_c (g cap i vb : Nat) (l : List Seat) (x : Seat) (rest : List Value) (w : World) (hi : i < l.length) (hlc : l.length ≤ cap) (hroom : cap < l.length + 1) (hb : l.length ≤ 1000000)
    (hg : w.heap[g]? = some (.cells (cellsS l ++ rest).toArray 44 (0, 0))) (hx : Blk w vb 44 #[.int .i64 x.stu, .int .i64 x.sec, .int .i64 x.grp]) :
    Calls Tryz.prog 23 #[.slice (some ⟨g, 0, none⟩) l.length cap, .int .i64 i, .slice (some ⟨vb, 0, none⟩) 1 1] w fun e w' => ∃ (G : Nat) (r : List Value), e = .returned (.slice (some ⟨w.heap.size, 0, none⟩) (l.length + 1) G) ∧
      w'.heap[w.heap.size]? = some (.cells (cellsS (insS l i x) ++ r).toArray 44 (0, 0)) ∧ (l.length + 1) * 3 + r.length = G * 3 ∧ G ≤ maxLen ∧ Below w.heap.size w w' := by
  obtain ⟨i0, hi0, hz0, hzs, hzb⟩ := seatInfo
  have hdl : (cellsS (l.drop i)).length = (l.length - i) * 3 := by rw [cellsS_length, List.length_drop]
  have hcS : cellsS l = cellsS (l.take i) ++ cellsS (l.drop i) := cellsS_split l i
  have htl : (cellsS (l.take i)).length = i * 3 := by rw [cellsS_length, List.length_take]; omega
  have hgw : g < w.heap.size := (Array.getElem?_eq_some_iff.1 hg).1
  have hvw : vb < w.heap.size := hx.lt
  have hsz : (Tryz.prog.info? 44).map (·.size) = some 3 := by rw [hi0]; simp [hzs]
  have hkk : (l.length : Int) + 1 - (i : Int) = ((l.length + 1 - i : Nat) : Int) := by omega
  have hik : i + (l.length + 1 - i) = l.length + 1 := by omega
  have hold : (Builtin.firstCells i0.size i (.slice (some ⟨g, 0, none⟩) i cap)).run Tryz.prog w.drew = .ok (cellsS (l.take i)).toArray w.drew := by
    rw [hzs]
    exact run_firstCells_some w.drew 3 i ⟨g, 0, none⟩ i cap (cellsS (l.take i)) (by rw [htl]) (fun j v hj => by
      rw [add0]
      refine heap_cell (w := w.drew) hg j ?_
      rw [hcS, List.append_assoc, List.getElem?_append_left (List.getElem?_eq_some_iff.1 hj).1]
      exact hj)
  obtain ⟨G, hG⟩ : ∃ G, G = grownCap w (l.length + 1) cap 44 := ⟨_, rfl⟩
  obtain ⟨Z, hZ⟩ : ∃ Z : Value, Z = .agg #[.int .i64 0, .int .i64 0, .int .i64 0] := ⟨_, rfl⟩
  have hZl : ∀ n, (Builtin.zeroCells Z.cells n).size = n * 3 := fun n => by rw [size_zeroCells, hZ]; rfl
  obtain ⟨ROW, hROW⟩ : ∃ ROW : Array Value, ROW = (cellsS (l.take i)).toArray ++ Builtin.zeroCells Z.cells (l.length + 1 - i) ++ Builtin.zeroCells Z.cells (G - (l.length + 1)) := ⟨_, rfl⟩
  obtain ⟨W1, hW1⟩ : ∃ W1, W1 = w.drew.alloc (.cells ROW 44) := ⟨_, rfl⟩
  have hrz : ∀ ty, (Builtin.append_ #[23, 3] ty #[.slice (some ⟨g, 0, none⟩) i cap, .int .i64 ((l.length : Int) + 1 - (i : Int))]).run Tryz.prog w =
      .ok (.slice (some ⟨w.heap.size, 0, none⟩) (l.length + 1) G) W1 := fun ty => by
    have h := Lib.run_append_grow_zeros w 23 3 ty 44 i0 _ .i64 .i64 Tryz.underlying23 Tryz.underlying3 hi0 hz0 (some ⟨g, 0, none⟩) i cap (cellsS (l.take i)) hold (l.length + 1 - i) (by omega) (by omega) (by omega) (by omega) (by rw [hzb]; omega) (by rw [hzb, hik]; exact growslice_fits hroom (by omega))
    rw [hik, ← hZ, ← hG, ← hROW, ← hW1] at h
    rw [hkk]
    exact h
  have hGn : l.length + 1 ≤ G := by rw [hG]; exact grownCap_ge w _ _ _
  have hGm : G ≤ maxLen := by rw [hG]; exact grownCap_le_maxLen w (l.length + 1) cap _ (by unfold maxLen; omega)
  have hG63 : G ≤ 9223372036854775807 := by unfold maxLen at hGm; omega
  have hN : W1.heap[w.heap.size]? = some (.cells ROW 44 (0, 0)) := by rw [hW1]; exact heap_alloc_new w.drew _
  have hRl : ROW.toList = cellsS (l.take i) ++ ((Builtin.zeroCells Z.cells (l.length + 1 - i)).toList ++ (Builtin.zeroCells Z.cells (G - (l.length + 1))).toList) := by rw [hROW]; simp
  obtain ⟨Q, hQ⟩ : ∃ Q, Q = (Builtin.zeroCells Z.cells (l.length + 1 - i)).toList ++ (Builtin.zeroCells Z.cells (G - (l.length + 1))).toList := ⟨_, rfl⟩
  have hQl : Q.length = (G - i) * 3 := by
    have h1 := hZl (l.length + 1 - i)
    have h2 := hZl (G - (l.length + 1))
    rw [← Array.length_toList] at h1 h2
    rw [hQ, List.length_append, h1, h2]; omega
  rw [← hQ] at hRl
  obtain ⟨cs1, hcs1⟩ : ∃ cs1 : List Value, cs1 = cellsS (l.take i) ++ (stC x ++ Q.drop 3) := ⟨_, rfl⟩
  obtain ⟨r, hr⟩ : ∃ r, r = (Q.drop 3).drop ((l.length - i) * 3) := ⟨_, rfl⟩
  obtain ⟨cs2, hcs2⟩ : ∃ cs2 : List Value, cs2 = cellsS (l.take i) ++ stC x ++ (cellsS (l.drop i) ++ r) := ⟨_, rfl⟩
  have hcpA : ∀ (W : World), W.heap = W1.heap → ∀ ty dc, (Builtin.copy_ #[23, 23] ty #[.slice (some ⟨w.heap.size, i * 3, none⟩) (l.length + 1 - i) dc, .slice (some ⟨vb, 0, none⟩) 1 1]).run Tryz.prog W = .ok (goInt (1 : Nat)) (W.setRow w.heap.size cs1.toArray) := fun W hW ty dc => by
    have hWg : W.heap[w.heap.size]? = some (.cells ROW 44 (0, 0)) := by rw [hW]; exact hN
    have h := run_copy_rowK 3 W 23 23 ty 44 w.heap.size (i * 3) (l.length + 1 - i) dc ⟨vb, 0, none⟩ 1 1 ROW 44 (stC x) Tryz.underlying23 hsz hWg
      (by simp only [Nat.min_def, stC, List.length_cons, List.length_nil]; split <;> omega)
      (fun j v hj => by
        have hk : Blk W vb 44 #[.int .i64 x.stu, .int .i64 x.sec, .int .i64 x.grp] := ⟨by rw [hW, hW1, Below.heap_alloc w.drew _ _ hvw]; exact hx.is⟩
        exact hk.cells3 j v hj)
      (by rw [← Array.length_toList, hRl, List.length_append, htl, hQl]; simp [stC]; omega) (stC_one x)
    rw [h, show Nat.min 1 (l.length + 1 - i) = 1 by simp only [Nat.min_def]; split <;> omega]
    congr 2
    rw [hcs1]
    refine congrArg List.toArray ?_
    exact splice_at (c := ROW.toList) (p := cellsS (l.take i)) (q := Q) (s := stC x) (o := i * 3) hRl htl (by rw [hQl]; simp [stC]; omega)
  have hcpB : ∀ (W : World), W.heap = (W1.setRow w.heap.size cs1.toArray).heap → ∀ ty dc sc, (Builtin.copy_ #[23, 23] ty #[.slice (some ⟨w.heap.size, (i + 1) * 3, none⟩) (l.length - i) dc, .slice (some ⟨g, i * 3, none⟩) (l.length - i) sc]).run Tryz.prog W = .ok (goInt (l.length - i : Nat)) (W.setRow w.heap.size cs2.toArray) := fun W hW ty dc sc => by
    have hWg : W.heap[w.heap.size]? = some (.cells cs1.toArray 44 (0, 0)) := by rw [hW]; exact setRow_heap W1 _ _ _ _ _ hN
    have hWo : W.heap[g]? = some (.cells (cellsS l ++ rest).toArray 44 (0, 0)) := by rw [hW, setRow_other _ _ _ _ (by omega), hW1, Below.heap_alloc w.drew _ _ hgw]; exact hg
    have h := run_copy_rowK 3 W 23 23 ty 44 w.heap.size ((i + 1) * 3) (l.length - i) dc ⟨g, i * 3, none⟩ (l.length - i) sc cs1.toArray 44 (cellsS (l.drop i)) Tryz.underlying23 hsz hWg
      (by rw [hdl]; simp only [Nat.min_def]; split <;> omega)
      (fun j v hj => by
        have e : (cellsS l ++ rest)[i * 3 + j]? = some v := by
          rw [hcS, List.append_assoc, List.getElem?_append_right (by omega), htl, Nat.add_sub_cancel_left, List.getElem?_append_left (List.getElem?_eq_some_iff.1 hj).1]
          exact hj
        have e2 := heap_cell hWo (i * 3 + j) e
        rw [show Addr.add ⟨g, i * 3, none⟩ j = ⟨g, i * 3 + j, none⟩ by unfold Addr.add; split <;> simp_all]
        exact e2)
      (by rw [hcs1]; simp only [List.size_toArray, List.length_append, htl, List.length_drop, hQl, hdl]; simp [stC]; omega) (cellsS_one _)
    rw [h, show Nat.min (l.length - i) (l.length - i) = l.length - i by simp only [Nat.min_def]; split <;> omega]
    congr 2
    rw [hcs2, hr, ← hdl]
    refine congrArg List.toArray ?_
    exact splice_at (c := cs1) (p := cellsS (l.take i) ++ stC x) (q := Q.drop 3) (s := cellsS (l.drop i)) (o := (i + 1) * 3) (by rw [hcs1, List.append_assoc]) (by rw [List.length_append, htl]; simp [stC]; omega) (by rw [List.length_drop, hQl, hdl]; omega)
  have hrl : (l.length + 1) * 3 + r.length = G * 3 := by rw [hr, List.length_drop, List.length_drop, hQl]; omega
  have HB1 : Hid (Below w.heap.size w W1) := by unfold Hid; rw [hW1]; exact ((Below.refl _ w).drew).alloc (Nat.le_refl _) _
  have HS2 : Hid (cs2 = cellsS (insS l i x) ++ r) := by unfold Hid; rw [hcs2, insS_cells]; simp
  have HN := Lib.hid hN
  have HRL := Lib.hid hrl
  have HGM := Lib.hid hGm
  have d1 : ((i : Int) == (l.length : Int)) = false := by simp; omega
  have d2 : ¬ ((i : Int) = (l.length : Int)) := by omega
  have d3 : (cap : Int) < (l.length : Int) + 1 := by omega
  have hw1 : IntKind.i64.wrap ((i : Int) + 1) = (i : Int) + 1 := wrapi (by omega) (by omega)
  have hb1 : (0 : Int) ≤ (i : Int) + 1 := by omega
  have hin : i ≤ l.length := by omega
  have htn : ((i : Int) + 1).toNat = i + 1 := by omega
  have hb3 : (i : Int) ≤ (l.length : Int) := by omega
  have hb4 : ¬ (cap = i) := by omega
  have hGi : ¬ (G = i) := by omega
  have hGim : ¬ (G = i + 1) := by omega
  clear hkk hik hold hROW hG hRl hcS htl hdl hi0 hz0 hzs hzb hsz hZ hZl hW1 hN hQ hQl hcs1 hr hcs2 hrl hGm hg hx
  go_enter Tryz.func23, Tryz.ntmps23
  go_wp2_with (first
    | (at_builtin; refine Lib.wpList_append_run _ rfl _ _ _ _ rfl _ _ rfl rfl _ _ (hrz _) ?_)
    | (at_builtin; refine wpList_copy_runI _ rfl _ _ 23 23 rfl _ _ rfl rfl (hcpA _ rfl _ _) ?_))
  go_region_law (refine step_copy_runI rfl _ _ 23 23 rfl (.slice (some ⟨w.heap.size, (i + 1) * 3, none⟩) (l.length - i) (G - (i + 1))) (.slice (some ⟨g, i * 3, none⟩) (l.length - i) (cap - i)) (by simp [Act.eval, Act.put]) (by simp [Act.eval, Act.put]) (hcpB (W1.setRow w.heap.size cs1.toArray).drew rfl 3 (G - (i + 1)) (cap - i)) ?_)
  go_wp2
  go_ret
  have hB : Below w.heap.size w ((W1.setRow w.heap.size cs1.toArray).drew.setRow w.heap.size cs2.toArray) := below_setRow (below_setRow HB1.out (Nat.le_refl _) _).drew (Nat.le_refl _) _
  refine ⟨G, r, rfl, ?_, HRL.out, HGM.out, hB⟩
  rw [← HS2.out]
  exact setRow_heap _ _ _ _ _ _ (setRow_heap W1 _ _ _ _ _ HN.out)
end Go.Proofs.YteonpdnncodkaaaGreatDoor
