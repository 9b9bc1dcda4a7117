/- seats.count: its contract. -/
import Derived.Test.YteonpdnncodkaaaGreatDoorHas
set_option linter.unusedVariables false
set_option linter.unusedSimpArgs false
namespace Go.Proofs.YteonpdnncodkaaaGreatDoor
open Go.RowKit Go.Shelf
attribute [local go_sem] Oper.semAt_some

/-- What count holds of the seats that have come. -/
def cntA (l : List Seat) : Array Value := #[.int .i64 (cn l 0), .int .i64 (cn l 1), .int .i64 (cn l 2), .int .i64 (cn l 3), .int .i64 (cn l 4), .int .i64 (cn l 5), .int .i64 (cn l 6), .int .i64 (cn l 7), .int .i64 (cn l (-1)), .int .i64 l.length]
theorem cnt_step (pre : List Seat) (stu sec : Int) (i : Nat) (g : Int) (h : (i, g) ∈ [((0 : Nat), (0 : Int)), (1, 1), (2, 2), (3, 3), (4, 4), (5, 5), (6, 6), (7, 7), (8, -1)]) :
    cntA (pre ++ [⟨stu, sec, g⟩]) = ((cntA pre).setIfInBounds i (.int .i64 (cn pre g + 1))).setIfInBounds 9 (.int .i64 (pre.length + 1)) := by
  simp only [List.mem_cons, Prod.mk.injEq, List.not_mem_nil, or_false] at h
  rcases h with ⟨rfl, rfl⟩ | ⟨rfl, rfl⟩ | ⟨rfl, rfl⟩ | ⟨rfl, rfl⟩ | ⟨rfl, rfl⟩ | ⟨rfl, rfl⟩ | ⟨rfl, rfl⟩ | ⟨rfl, rfl⟩ | ⟨rfl, rfl⟩ <;>
    (unfold cntA; simp only [cn_snoc]; simp)

set_option maxRecDepth 100000 in
set_option maxHeartbeats 4000000 in
theorem count_c (A : Option Addr) (c : Nat) (l : List Seat) (sec : Int) (w : World) (h : RSeats w A l) :
    Calls Tryz.prog 35 #[.slice A l.length c, .int .i64 sec] w fun e w' => e = .returned (.agg (cntA (ofSec l sec))) ∧ Below w.heap.size w w' := by
  have hl := h.len
  have H := Lib.hid h
  have hA := Rd.apart (by omega) h w.heap.size (Nat.le_refl _)
  clear h
  refine (callsIn_wide (n := 4)).1 ?_
  refine callsIn_of_wp_marks Tryz.func35 rfl trivial ?_ rfl
  simp only [Tryz.ntmps35, List.size_toArray, List.length_cons, List.length_nil, Nat.reduceAdd, Nat.reduceSub, Array.replicate_succ, Array.replicate_zero, List.push_toArray, List.append_toArray, List.nil_append, List.cons_append]
  gi_wp2_with fail
  refine ⟨trivial, ?_⟩
  refine (callsIn_wide.2 (of_c (.slice A l.length c) sec _ rfl)).mono ?_
  rintro e w' ⟨rfl, rfl⟩
  gi_wp2_with fail
  obtain ⟨W0, hW0⟩ : ∃ W0, ((w.alloc (.cells (cntA []) 73)).alloc (.cells #[.slice A l.length c] 23)).alloc (.cells #[.int .i64 sec] 3) = W0 := ⟨_, rfl⟩
  have hB0 : Below w.heap.size w W0 := by rw [← hW0]; go_grown
  have hs0 : W0.heap.size = w.heap.size + 3 := by rw [← hW0]; simp
  have k1 : Blk W0 w.heap.size 73 (cntA []) := by rw [← hW0]; exact ((Blk.mk' _ _ (by simp) _ _).alloc _).alloc _
  have k2 : Blk W0 (w.heap.size + 1) 23 #[.slice A l.length c] := by rw [← hW0]; exact (Blk.mk' _ _ (by simp) _ _).alloc _
  have k3 : Blk W0 (w.heap.size + 2) 3 #[.int .i64 sec] := by rw [← hW0]; exact Blk.mk' _ _ (by simp) _ _
  have e0 : cntA [] = #[.int .i64 0, .int .i64 0, .int .i64 0, .int .i64 0, .int .i64 0, .int .i64 0, .int .i64 0, .int .i64 0, .int .i64 0, .int .i64 0] := rfl
  rw [e0] at hW0
  simp only [World.size_alloc, hW0]
  have hI : OwnFrom W0.heap.size (fun (pre : List Seat) W => Blk W w.heap.size 73 (cntA pre) ∧ Below w.heap.size w W) :=
    OwnFrom.and (fun pre => blk_own (β := Unit) _ _ _ _ ()) (ownFrom_below (Nat.le_refl _) (by omega))
  have hIx : ∀ c : Code, OwnFrom W0.heap.size (fun (pre : List Seat) W => False) := fun c => fun _ _ _ _ h _ _ => h
  refine wpIn_rangeFunc_ownH (F := Fence.wide) (n := 4) rfl (by decide) (gf := 56) (lb := #[.pointer (some ⟨w.heap.size + 1, 0, none⟩), .pointer (some ⟨w.heap.size + 2, 0, none⟩)]) rfl trivial (enters_of Tryz.func56 (by kernel_rfl) rfl)
    (of1_stops (some w.heap.size) (w.heap.size + 1) (w.heap.size + 2) A c l sec l.length (Nat.le_refl _) W0 (H.out.below hB0) hA (k2.cell 0 rfl) (k3.cell 0 rfl) (by simp) (by simp) (by intro k hk; cases hk; omega)) Kx.t Kx.b (Below.refl _ _) (fun _ => rfl)
    _ _ hI hIx ⟨k1, hB0⟩
    (fun x a' W => ∃ Bx, w.heap.size < Bx ∧ Blk W Bx 44 #[.int .i64 x.stu, .int .i64 x.sec, .int .i64 x.grp] ∧ a' = { tmps := #[.slice A l.length c, .int .i64 sec, undef, undef, .pointer (some ⟨w.heap.size, 0, none⟩), .pointer (some ⟨Bx, 0, none⟩), .slice A l.length c, .int .i64 sec,
      .func (.func 56) #[] #[.pointer (some ⟨w.heap.size + 1, 0, none⟩), .pointer (some ⟨w.heap.size + 1 + 1, 0, none⟩)], .agg #[.int .i64 x.stu, .int .i64 x.sec, .int .i64 x.grp],
      undef, undef, undef, undef, undef, undef, undef, undef, undef, undef, undef, undef, undef, undef, undef, undef, undef, undef, undef, undef, undef, undef, undef], defers := [] })
    (fun x a' s W W' row hs hg hr => by
      obtain ⟨Bx, h1, h2, h3⟩ := hs
      exact ⟨Bx, h1, blk_own (β := Unit) _ _ _ _ s W W' row h2 hg hr, h3⟩) ?assign ?body ?done ?stop
  case assign =>
    intro L pre x W K hi hK
    simp only [encSeat]
    have hsz := hi.1.lt
    gi_wp2
    refine hK _ _ ((KeepsOthers.alloc _ _).from _) (Kx.of_below (by go_grown)) ⟨hi.1.alloc _, hi.2.alloc hi.2.size _⟩ ⟨W.heap.size, by omega, Blk.new _ _ _, rfl⟩
  case body =>
    rintro L pre ⟨xs, xc, xg⟩ a' W hL ⟨r, hr⟩ ⟨q1, hb⟩ ⟨Bx, hBx, qx, rfl⟩ hlt
    have HB := Lib.hid hb
    obtain ⟨z0, z1, z2, z3, z4, z5, z6, z7, z8, z9, zf⟩ := q1.c10
    obtain ⟨x0, x1, x2, _⟩ := qx.c3
    have bn := fun g => cn_bound pre g
    obtain ⟨m0, n0⟩ := bn 0
    obtain ⟨m1, n1⟩ := bn 1
    obtain ⟨m2, n2⟩ := bn 2
    obtain ⟨m3, n3⟩ := bn 3
    obtain ⟨m4, n4⟩ := bn 4
    obtain ⟨m5, n5⟩ := bn 5
    obtain ⟨m6, n6⟩ := bn 6
    obtain ⟨m7, n7⟩ := bn 7
    obtain ⟨m8, n8⟩ := bn (-1)
    clear bn hb
    have hcases : xg = -1 ∨ xg = 0 ∨ xg = 1 ∨ xg = 2 ∨ xg = 3 ∨ xg = 4 ∨ xg = 5 ∨ xg = 6 ∨ xg = 7 ∨ (xg < -1 ∨ 7 < xg) := by omega
    rcases hcases with rfl | rfl | rfl | rfl | rfl | rfl | rfl | rfl | rfl | hx
    case inr.inr.inr.inr.inr.inr.inr.inr.inr =>
      have hlo : (xg < -1 ∨ 7 < xg) := hx
      have E : cntA (pre ++ [⟨xs, xc, xg⟩]) = (cntA pre).setIfInBounds 9 (.int .i64 (pre.length + 1)) := by
        unfold cntA
        simp only [cn_snoc]
        simp
        refine ⟨?_, ?_, ?_, ?_, ?_, ?_, ?_, ?_, ?_⟩ <;> omega
      have E' := Lib.hid E
      clear E hlo
      rcases hx with hx | hx
      all_goals
        gi_wp2
        refine ⟨(KeepsOthers.setCell _ _ _).from _, Kx.setCell _ _ _ _, by rw [E'.out]; exact q1.set 9 _, HB.out.setCell (p := ⟨w.heap.size, 9, none⟩) (Nat.le_refl _) _⟩
    case inl =>
      have E := Lib.hid (cnt_step pre xs xc 8 (-1) (by simp))
      gi_wp2
      refine ⟨((KeepsOthers.setCell _ _ _).trans (KeepsOthers.setCell _ _ _)).from _, (Kx.setCell _ _ _ _).trans (Kx.setCell _ _ _ _), by rw [E.out]; exact (q1.set 8 _).set 9 _, (HB.out.setCell (p := ⟨w.heap.size, 8, none⟩) (Nat.le_refl _) _).setCell (p := ⟨w.heap.size, 9, none⟩) (Nat.le_refl _) _⟩
    case inr.inl =>
      have E := Lib.hid (cnt_step pre xs xc 0 0 (by simp))
      gi_wp2
      refine ⟨((KeepsOthers.setCell _ _ _).trans (KeepsOthers.setCell _ _ _)).from _, (Kx.setCell _ _ _ _).trans (Kx.setCell _ _ _ _), by rw [E.out]; exact (q1.set 0 _).set 9 _, (HB.out.setCell (p := ⟨w.heap.size, 0, none⟩) (Nat.le_refl _) _).setCell (p := ⟨w.heap.size, 9, none⟩) (Nat.le_refl _) _⟩
    case inr.inr.inl =>
      have E := Lib.hid (cnt_step pre xs xc 1 1 (by simp))
      gi_wp2
      refine ⟨((KeepsOthers.setCell _ _ _).trans (KeepsOthers.setCell _ _ _)).from _, (Kx.setCell _ _ _ _).trans (Kx.setCell _ _ _ _), by rw [E.out]; exact (q1.set 1 _).set 9 _, (HB.out.setCell (p := ⟨w.heap.size, 1, none⟩) (Nat.le_refl _) _).setCell (p := ⟨w.heap.size, 9, none⟩) (Nat.le_refl _) _⟩
    case inr.inr.inr.inl =>
      have E := Lib.hid (cnt_step pre xs xc 2 2 (by simp))
      gi_wp2
      refine ⟨((KeepsOthers.setCell _ _ _).trans (KeepsOthers.setCell _ _ _)).from _, (Kx.setCell _ _ _ _).trans (Kx.setCell _ _ _ _), by rw [E.out]; exact (q1.set 2 _).set 9 _, (HB.out.setCell (p := ⟨w.heap.size, 2, none⟩) (Nat.le_refl _) _).setCell (p := ⟨w.heap.size, 9, none⟩) (Nat.le_refl _) _⟩
    case inr.inr.inr.inr.inl =>
      have E := Lib.hid (cnt_step pre xs xc 3 3 (by simp))
      gi_wp2
      refine ⟨((KeepsOthers.setCell _ _ _).trans (KeepsOthers.setCell _ _ _)).from _, (Kx.setCell _ _ _ _).trans (Kx.setCell _ _ _ _), by rw [E.out]; exact (q1.set 3 _).set 9 _, (HB.out.setCell (p := ⟨w.heap.size, 3, none⟩) (Nat.le_refl _) _).setCell (p := ⟨w.heap.size, 9, none⟩) (Nat.le_refl _) _⟩
    case inr.inr.inr.inr.inr.inl =>
      have E := Lib.hid (cnt_step pre xs xc 4 4 (by simp))
      gi_wp2
      refine ⟨((KeepsOthers.setCell _ _ _).trans (KeepsOthers.setCell _ _ _)).from _, (Kx.setCell _ _ _ _).trans (Kx.setCell _ _ _ _), by rw [E.out]; exact (q1.set 4 _).set 9 _, (HB.out.setCell (p := ⟨w.heap.size, 4, none⟩) (Nat.le_refl _) _).setCell (p := ⟨w.heap.size, 9, none⟩) (Nat.le_refl _) _⟩
    case inr.inr.inr.inr.inr.inr.inl =>
      have E := Lib.hid (cnt_step pre xs xc 5 5 (by simp))
      gi_wp2
      refine ⟨((KeepsOthers.setCell _ _ _).trans (KeepsOthers.setCell _ _ _)).from _, (Kx.setCell _ _ _ _).trans (Kx.setCell _ _ _ _), by rw [E.out]; exact (q1.set 5 _).set 9 _, (HB.out.setCell (p := ⟨w.heap.size, 5, none⟩) (Nat.le_refl _) _).setCell (p := ⟨w.heap.size, 9, none⟩) (Nat.le_refl _) _⟩
    case inr.inr.inr.inr.inr.inr.inr.inl =>
      have E := Lib.hid (cnt_step pre xs xc 6 6 (by simp))
      gi_wp2
      refine ⟨((KeepsOthers.setCell _ _ _).trans (KeepsOthers.setCell _ _ _)).from _, (Kx.setCell _ _ _ _).trans (Kx.setCell _ _ _ _), by rw [E.out]; exact (q1.set 6 _).set 9 _, (HB.out.setCell (p := ⟨w.heap.size, 6, none⟩) (Nat.le_refl _) _).setCell (p := ⟨w.heap.size, 9, none⟩) (Nat.le_refl _) _⟩
    case inr.inr.inr.inr.inr.inr.inr.inr.inl =>
      have E := Lib.hid (cnt_step pre xs xc 7 7 (by simp))
      gi_wp2
      refine ⟨((KeepsOthers.setCell _ _ _).trans (KeepsOthers.setCell _ _ _)).from _, (Kx.setCell _ _ _ _).trans (Kx.setCell _ _ _ _), by rw [E.out]; exact (q1.set 7 _).set 9 _, (HB.out.setCell (p := ⟨w.heap.size, 7, none⟩) (Nat.le_refl _) _).setCell (p := ⟨w.heap.size, 9, none⟩) (Nat.le_refl _) _⟩
  case done =>
    rintro D xs W hD rfl ⟨q1, hb⟩ hK
    have HK := Lib.hid hK
    have HB := Lib.hid hb
    clear hK hb
    obtain ⟨z0, z1, z2, z3, z4, z5, z6, z7, z8, z9, zf⟩ := q1.c10
    gi_wp2
    obtain ⟨Wf, hWf⟩ : ∃ Wf, ((((((((((W.setCell ⟨w.heap.size, 0, none⟩ (.int .i64 (cn (ofSec l sec) 0))).setCell ⟨w.heap.size, 1, none⟩ (.int .i64 (cn (ofSec l sec) 1))).setCell ⟨w.heap.size, 2, none⟩ (.int .i64 (cn (ofSec l sec) 2))).setCell ⟨w.heap.size, 3, none⟩ (.int .i64 (cn (ofSec l sec) 3))).setCell ⟨w.heap.size, 4, none⟩ (.int .i64 (cn (ofSec l sec) 4))).setCell ⟨w.heap.size, 5, none⟩ (.int .i64 (cn (ofSec l sec) 5))).setCell ⟨w.heap.size, 6, none⟩ (.int .i64 (cn (ofSec l sec) 6))).setCell ⟨w.heap.size, 7, none⟩ (.int .i64 (cn (ofSec l sec) 7))).setCell ⟨w.heap.size, 8, none⟩ (.int .i64 (cn (ofSec l sec) (-1)))).setCell ⟨w.heap.size, 9, none⟩ (.int .i64 (ofSec l sec).length)) = Wf := ⟨_, rfl⟩
    have kf : Blk Wf w.heap.size 73 (cntA (ofSec l sec)) := by rw [← hWf]; exact ((((((((((q1.same 0 rfl).same 1 rfl).same 2 rfl).same 3 rfl).same 4 rfl).same 5 rfl).same 6 rfl).same 7 rfl).same 8 rfl).same 9 rfl)
    have hKo : KeepsOthers W Wf := by
      rw [← hWf]
      iterate 10 (refine KeepsOthers.trans ?_ (KeepsOthers.setCell _ _ _))
      exact KeepsOthers.refl _
    have hBf : Below w.heap.size w Wf := by
      have h := HB.out
      rw [← hWf]
      go_grown
    rw [hWf]
    have hKf := hKo.same D _ HK.out rfl
    refine ⟨by simp, .inl ⟨_, _, rfl, run_takeDeferred hKf, ?_⟩⟩
    obtain ⟨y0, y1, y2, y3, y4, y5, y6, y7, y8, y9, _⟩ := (blk_put (o' := .deferred none) kf hKf rfl).c10
    refine ⟨_, by simp only [results, Tryz.results35]; go_simp; rfl, rfl, below_put hBf hBf.size (by omega)⟩
  case stop =>
    rintro D c pre W hD hS h hK
    exact h.elim
end Go.Proofs.YteonpdnncodkaaaGreatDoor
