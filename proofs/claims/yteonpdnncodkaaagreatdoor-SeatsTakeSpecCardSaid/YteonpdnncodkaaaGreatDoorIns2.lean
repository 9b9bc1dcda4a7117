/- slices.Insert of one seat into a row that the call has made itself: there is room. -/
import Derived.Test.YteonpdnncodkaaaGreatDoorIns
set_option linter.unusedVariables false
set_option linter.unusedSimpArgs false
namespace Go.Proofs.YteonpdnncodkaaaGreatDoor
open Go.RowKit

set_option maxHeartbeats 4000000 in
set_option maxRecDepth 100000 in
/-- There is room: in place. -/
theorem insShift_c (g cap i vb : Nat) (l : List Seat) (x : Seat) (rest : List Value) (w : World) (hi : i < l.length) (hroom : l.length + 1 ≤ cap) (hm : cap ≤ maxLen) (hgv : vb ≠ g)
    (hg : w.heap[g]? = some (.cells (cellsS l ++ rest).toArray 44 (0, 0))) (hl : l.length * 3 + rest.length = cap * 3) (hx : Blk w vb 44 #[.int .i64 x.stu, .int .i64 x.sec, .int .i64 x.grp]) :
    Calls Tryz.prog 23 #[.slice (some ⟨g, 0, none⟩) l.length cap, .int .i64 i, .slice (some ⟨vb, 0, none⟩) 1 1] w fun e w' => e = .returned (.slice (some ⟨g, 0, none⟩) (l.length + 1) cap) ∧
      ∃ cs : Array Value, w' = w.drew.setRow g cs ∧ cs.toList = cellsS (insS l i x) ++ rest.drop 3 := by
  have hr3 : 3 ≤ rest.length := by omega
  unfold maxLen at hm
  have hdl : (cellsS (l.drop i)).length = (l.length - i) * 3 := by rw [cellsS_length, List.length_drop]
  have hcS : cellsS l = cellsS (l.take i) ++ cellsS (l.drop i) := cellsS_split l i
  have htl : (cellsS (l.take i)).length = i * 3 := by rw [cellsS_length, List.length_take]; omega
  have hov : ∀ lb cb, (callFunc 44 #[.slice (some ⟨vb, 0, none⟩) 1 1, .slice (some ⟨g, (i + 1) * 3, none⟩) lb cb]).run Tryz.prog w = .ok (.value (.bool false)) w := fun lb cb => by
    rw [run_callFunc_extern Tryz.func44 (by kernel_rfl) (by kernel_rfl) (by kernel_rfl) (e := Extern.SlicesOverlaps.overlaps #[23, 23] #[4]) (by kernel_rfl),
      Lib.run_overlaps_apart w 23 4 44 Tryz.underlying23 3 (fun _ => by kernel_rfl) ⟨vb, 0, none⟩ ⟨g, (i + 1) * 3, none⟩ 1 1 lb cb hgv 44 44 3 (cap * 3) (by simp [World.shape?, hx.is]) (by simp [World.shape?, hg, cellsS_length]; omega) (by omega) (hx.frozen 0) (hx.frozen 3)]
    rfl
  have d1 : ((i : Int) == (l.length : Int)) = false := by simp; omega
  have d2 : ¬ ((i : Int) = (l.length : Int)) := by omega
  have d3 : ¬ ((cap : Int) < (l.length : Int) + 1) := by omega
  have hw1 : IntKind.i64.wrap ((i : Int) + 1) = (i : Int) + 1 := wrapi (by omega) (by omega)
  have hb1 : (0 : Int) ≤ (i : Int) + 1 := by omega
  have hin : i ≤ l.length := by omega
  have htn : ((i : Int) + 1).toNat = i + 1 := by omega
  have hb2 : ¬ (cap = i + 1) := by omega
  have hb3 : (i : Int) ≤ (l.length : Int) + 1 := by omega
  have hb4 : ¬ (cap = i) := by omega
  have HG := Lib.hid hg
  have HX := Lib.hid hx
  have HL := Lib.hid hl
  have HDL := Lib.hid hdl
  have HCS := Lib.hid hcS
  have HTL := Lib.hid htl
  obtain ⟨cs1, hcs1⟩ : ∃ cs1 : List Value, cs1 = cellsS (l.take i) ++ ((cellsS (l.drop i) ++ rest).take 3 ++ (cellsS (l.drop i) ++ rest.drop 3)) := ⟨_, rfl⟩
  obtain ⟨cs2, hcs2⟩ : ∃ cs2 : List Value, cs2 = cellsS (l.take i) ++ (stC x ++ (cellsS (l.drop i) ++ rest.drop 3)) := ⟨_, rfl⟩
  have hsz : (Tryz.prog.info? 44).map (·.size) = some 3 := by
    obtain ⟨i0, hi0, h0, h1, h2⟩ := seatInfo
    rw [hi0]; simp [h1]
  have hcp1 : ∀ ty dc sc, (Builtin.copy_ #[23, 23] ty #[.slice (some ⟨g, (i + 1) * 3, none⟩) (l.length - i) dc, .slice (some ⟨g, i * 3, none⟩) (l.length + 1 - i) sc]).run Tryz.prog w.drew = .ok (goInt (l.length - i : Nat)) (w.drew.setRow g cs1.toArray) := fun ty dc sc => by
    have h := run_copy_rowK 3 w.drew 23 23 ty 44 g ((i + 1) * 3) (l.length - i) dc ⟨g, i * 3, none⟩ (l.length + 1 - i) sc (cellsS l ++ rest).toArray 44 (cellsS (l.drop i)) Tryz.underlying23 hsz hg
      (by rw [hdl]; simp only [Nat.min_def]; split <;> omega)
      (fun j v hj => by
        have e : (cellsS l ++ rest)[i * 3 + j]? = some v := by
          rw [hcS, List.append_assoc, List.getElem?_append_right (by omega), htl, Nat.add_sub_cancel_left, List.getElem?_append_left (List.getElem?_eq_some_iff.1 hj).1]
          exact hj
        have e2 := heap_cell (w := w.drew) hg (i * 3 + j) e
        rw [show Addr.add ⟨g, i * 3, none⟩ j = ⟨g, i * 3 + j, none⟩ by unfold Addr.add; split <;> simp_all]
        exact e2)
      (by simp [cellsS_length]; omega) (cellsS_one _)
    rw [h, show Nat.min (l.length + 1 - i) (l.length - i) = l.length - i by simp only [Nat.min_def]; split <;> omega]
    congr 2
    rw [hcs1]
    refine congrArg List.toArray ?_
    have e := splice_at (c := cellsS l ++ rest) (p := cellsS (l.take i) ++ (cellsS (l.drop i) ++ rest).take 3) (q := (cellsS (l.drop i) ++ rest).drop 3) (s := cellsS (l.drop i)) (o := (i + 1) * 3)
      (by rw [hcS, List.append_assoc, List.append_assoc, List.take_append_drop]) (by simp [cellsS_length]; omega) (by simp [cellsS_length]; omega)
    simp only [] at e ⊢
    rw [e, List.drop_drop, List.append_assoc, List.drop_append, show List.drop (3 + (cellsS (l.drop i)).length) (cellsS (l.drop i)) = [] from List.drop_eq_nil_of_le (by omega)]
    simp
  have hcp2 : ∀ (W : World), W.heap = (w.drew.setRow g cs1.toArray).heap → ∀ ty dc, (Builtin.copy_ #[23, 23] ty #[.slice (some ⟨g, i * 3, none⟩) (l.length + 1 - i) dc, .slice (some ⟨vb, 0, none⟩) 1 1]).run Tryz.prog W = .ok (goInt (1 : Nat)) (W.setRow g cs2.toArray) := fun W hW ty dc => by
    have hWg : W.heap[g]? = some (.cells cs1.toArray 44 (0, 0)) := by rw [hW]; exact setRow_heap w.drew g _ _ _ _ hg
    have h := run_copy_rowK 3 W 23 23 ty 44 g (i * 3) (l.length + 1 - i) dc ⟨vb, 0, none⟩ 1 1 cs1.toArray 44 (stC x) Tryz.underlying23 hsz hWg
      (by simp only [Nat.min_def, stC, List.length_cons, List.length_nil]; split <;> omega)
      (fun j v hj => by
        have hk : Blk W vb 44 #[.int .i64 x.stu, .int .i64 x.sec, .int .i64 x.grp] := ⟨by rw [hW, setRow_other _ _ _ _ hgv]; exact hx.is⟩
        exact hk.cells3 j v hj)
      (by rw [hcs1]; simp [cellsS_length, stC]; omega) (stC_one x)
    rw [h, show Nat.min 1 (l.length + 1 - i) = 1 by simp only [Nat.min_def]; split <;> omega]
    congr 2
    rw [hcs2]
    refine congrArg List.toArray ?_
    have e := splice_at (c := cs1) (p := cellsS (l.take i)) (q := (cellsS (l.drop i) ++ rest).take 3 ++ (cellsS (l.drop i) ++ rest.drop 3)) (s := stC x) (o := i * 3) hcs1 htl (by simp [stC]; omega)
    simp only [] at e ⊢
    rw [e, List.drop_left' (by simp [stC, cellsS_length]; omega)]
  have HS1 := Lib.hid hcs1
  have HS2 := Lib.hid hcs2
  clear hcs1 hcs2
  obtain ⟨W1, hW1⟩ : ∃ W1, W1 = w.drew.setRow g cs1.toArray := ⟨_, rfl⟩
  rw [← hW1] at hcp1 hcp2
  have HW1 := Lib.hid hW1
  clear hW1
  clear hg hx hl hdl hcS htl
  go_enter Tryz.func23, Tryz.ntmps23
  go_wp2_with (simp only [hov])
  go_region_law (refine step_copy_runI rfl _ _ 23 23 rfl (.slice (some ⟨g, (i + 1) * 3, none⟩) (l.length - i) (cap - (i + 1))) (.slice (some ⟨g, i * 3, none⟩) (l.length + 1 - i) (cap - i)) (by simp [Act.eval, Act.put]) (by simp [Act.eval, Act.put]) (hcp1 _ _ _) ?_)
  go_wp2_with (at_builtin; refine wpList_copy_runI _ rfl _ _ 23 23 rfl _ _ rfl rfl (hcp2 _ rfl _ _) ?_)
  go_ret
  refine ⟨rfl, cs2.toArray, ?_, ?_⟩
  · rw [HW1.out, setRow_setRow]
  · rw [HS2.out, insS_cells]; simp
end Go.Proofs.YteonpdnncodkaaaGreatDoor
