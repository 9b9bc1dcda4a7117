/- seats.Has: its contract. -/
import Derived.Test.YteonpdnncodkaaaGreatDoorIter
set_option linter.unusedVariables false
set_option linter.unusedSimpArgs false
namespace Go.Proofs.YteonpdnncodkaaaGreatDoor
open Go.RowKit Go.Shelf
attribute [local go_sem] Oper.semAt_some

theorem of_c (v : Value) (sec : Int) (w : World) (hv : v.oneCell' = true) :
    Calls Tryz.prog 33 #[v, .int .i64 sec] w fun e w' => e = .returned (.func (.func 56) #[] #[.pointer (some ⟨w.heap.size, 0, none⟩), .pointer (some ⟨w.heap.size + 1, 0, none⟩)]) ∧ w' = (w.alloc (.cells #[v] 23)).alloc (.cells #[.int .i64 sec] 3) := by
  go_enter Tryz.func33, Tryz.ntmps33
  go_wp2
  go_ret
  exact ⟨rfl, rfl⟩


set_option maxRecDepth 100000 in
set_option maxHeartbeats 2000000 in
theorem has_c (A : Option Addr) (c : Nat) (l : List Seat) (stu sec : Int) (w : World) (h : RSeats w A l) :
    Calls Tryz.prog 12 #[.slice A l.length c, .int .i64 stu, .int .i64 sec] w fun e w' => e = .returned (.bool (hasSeat l stu sec)) ∧ Below w.heap.size w w' := by
  have hl := h.len
  have H := Lib.hid h
  clear h
  refine (callsIn_wide (n := 4)).1 ?_
  refine callsIn_of_wp_marks Tryz.func12 rfl trivial ?_ rfl
  simp only [Tryz.ntmps12, List.size_toArray, List.length_cons, List.length_nil, Nat.reduceAdd, Nat.reduceSub, Array.replicate_succ, Array.replicate_zero, List.push_toArray, List.append_toArray, List.nil_append, List.cons_append]
  gi_wp2_with fail
  refine ⟨trivial, ?_⟩
  refine (callsIn_wide.2 (of_c (.slice A l.length c) sec _ rfl)).mono ?_
  rintro e w' ⟨rfl, rfl⟩
  gi_wp2_with fail
  obtain ⟨W0, hW0⟩ : ∃ W0, (((w.alloc (.cells #[.int .i64 stu] 3)).alloc (.cells #[.bool false] 4)).alloc (.cells #[.slice A l.length c] 23)).alloc (.cells #[.int .i64 sec] 3) = W0 := ⟨_, rfl⟩
  have hB0 : Below w.heap.size w W0 := by rw [← hW0]; go_grown
  have hs0 : W0.heap.size = w.heap.size + 4 := by rw [← hW0]; simp
  have k0 : Blk W0 w.heap.size 3 #[.int .i64 stu] := by rw [← hW0]; exact (((Blk.mk' _ _ (by simp) _ _).alloc _).alloc _).alloc _
  have k1 : Blk W0 (w.heap.size + 1) 4 #[.bool false] := by rw [← hW0]; exact ((Blk.mk' _ _ (by simp) _ _).alloc _).alloc _
  have k2 : Blk W0 (w.heap.size + 2) 23 #[.slice A l.length c] := by rw [← hW0]; exact (Blk.mk' _ _ (by simp) _ _).alloc _
  have k3 : Blk W0 (w.heap.size + 3) 3 #[.int .i64 sec] := by rw [← hW0]; exact Blk.mk' _ _ (by simp) _ _
  simp only [World.size_alloc, hW0]
  have hI : OwnFrom W0.heap.size (fun (pre : List Seat) W => (∀ s ∈ pre, (s.stu == stu) = false) ∧ (Blk W w.heap.size 3 #[.int .i64 stu] ∧ (Blk W (w.heap.size + 1) 4 #[.bool false] ∧ Below w.heap.size w W))) :=
    OwnFrom.and (fun _ _ _ _ h _ _ => h) (OwnFrom.and (blk_own _ _ _ _) (OwnFrom.and (blk_own _ _ _ _) (ownFrom_below (Nat.le_refl _) (by omega))))
  have hIx : ∀ c : Code, OwnFrom W0.heap.size (fun (pre : List Seat) W => (c = .ret ∧ ∃ s ∈ pre, (s.stu == stu) = true) ∧ (Blk W (w.heap.size + 1) 4 #[.bool true] ∧ Below w.heap.size w W)) :=
    fun c => OwnFrom.and (fun _ _ _ _ h _ _ => h) (OwnFrom.and (blk_own _ _ _ _) (ownFrom_below (Nat.le_refl _) (by omega)))
  refine wpIn_rangeFunc_ownH (F := Fence.wide) (n := 4) rfl (by decide) (gf := 56) (lb := #[.pointer (some ⟨w.heap.size + 2, 0, none⟩), .pointer (some ⟨w.heap.size + 3, 0, none⟩)]) rfl trivial (enters_of Tryz.func56 (by kernel_rfl) rfl)
    (of1_stops none (w.heap.size + 2) (w.heap.size + 3) A c l sec l.length (Nat.le_refl _) W0 (H.out.below hB0) (fun _ _ _ => by simp) (k2.cell 0 rfl) (k3.cell 0 rfl) (by simp) (by simp) (by simp)) Kx.t Kx.b (Below.refl _ _) (fun _ => rfl)
    _ _ hI hIx ⟨by simp, k0, k1, hB0⟩
    (fun x a' W => ∃ Bx, Blk W Bx 44 #[.int .i64 x.stu, .int .i64 x.sec, .int .i64 x.grp] ∧ a' = { tmps := #[.slice A l.length c, .int .i64 stu, .int .i64 sec, undef, .pointer (some ⟨w.heap.size, 0, none⟩), undef, .pointer (some ⟨w.heap.size + 1, 0, none⟩), .pointer (some ⟨Bx, 0, none⟩), .slice A l.length c, .int .i64 sec,
      .func (.func 56) #[] #[.pointer (some ⟨w.heap.size + 1 + 1, 0, none⟩), .pointer (some ⟨w.heap.size + 1 + 1 + 1, 0, none⟩)], .agg #[.int .i64 x.stu, .int .i64 x.sec, .int .i64 x.grp], undef, undef, undef, undef], defers := [] })
    (fun x a' s W W' row hs hg hr => by
      obtain ⟨Bx, h2, h3⟩ := hs
      exact ⟨Bx, blk_own (β := Unit) _ _ _ _ s W W' row h2 hg hr, h3⟩) ?assign ?body ?done ?stop
  case assign =>
    intro L pre x W K hi hK
    simp only [encSeat]
    gi_wp2
    exact hK _ _ ((KeepsOthers.alloc _ _).from _) (Kx.of_below (by go_grown)) ⟨hi.1, hi.2.1.alloc _, hi.2.2.1.alloc _, hi.2.2.2.alloc hi.2.2.2.size _⟩ ⟨W.heap.size, Blk.new _ _ _, rfl⟩
  case body =>
    rintro L pre x a' W hL ⟨r, hr⟩ ⟨hp, q0, q1, hb⟩ ⟨Bx, qx, rfl⟩ hlt
    obtain ⟨z0, _⟩ := q0.c1
    obtain ⟨z1, zf⟩ := q1.c1
    obtain ⟨x0, x1, x2, _⟩ := qx.c3
    have Hp := Lib.hid hp
    clear hp
    by_cases he : x.stu = stu
    · have q : (x.stu == stu) = true := by simp [he]
      have Q1 := Lib.hid q
      clear he
      gi_wp2
      refine ⟨(KeepsOthers.setCell _ _ _).from _, ⟨rfl, x, by simp, Q1.out⟩, q1.set 0 _, hb.setCell (p := ⟨w.heap.size + 1, 0, none⟩) (by simp) _⟩
    · have q : (x.stu == stu) = false := by simp [he]
      have Q1 := Lib.hid q
      clear he
      gi_wp2
      refine ⟨KeepsFrom.refl _ _, Kx.refl _ _, fun s hs => ?_, q0, q1, hb⟩
      rcases List.mem_append.1 hs with hs | hs
      · exact Hp.out s hs
      · rw [List.mem_singleton.1 hs]; exact Q1.out
  case done =>
    rintro D xs W hD rfl ⟨hp, q0, q1, hb⟩ hK
    have fin : hasSeat l stu sec = false := by
      unfold hasSeat
      rw [List.any_eq_false]
      intro s hs hc
      simp only [Bool.and_eq_true] at hc
      have := hp s (by unfold ofSec; exact List.mem_filter.2 ⟨hs, hc.2⟩)
      rw [hc.1] at this; cases this
    have Fin := Lib.hid fin
    have HK := Lib.hid hK
    have HB := Lib.hid hb
    clear hp fin hK hb
    obtain ⟨z0, _⟩ := q0.c1
    obtain ⟨z1, zf⟩ := q1.c1
    gi_wp2
    have hK2 : (W.setCell ⟨w.heap.size + 1, 0, none⟩ (.bool false)).heap[D]? = some (.deferred (some [])) := (KeepsOthers.setCell _ _ _).same D _ HK.out rfl
    refine ⟨by simp, .inl ⟨_, _, rfl, run_takeDeferred hK2, ?_⟩⟩
    obtain ⟨y1, _⟩ := (blk_put (o' := .deferred none) (q1.set 0 (.bool false)) hK2 rfl).c1
    refine ⟨_, by simp only [results, Tryz.results12]; go_simp; rfl, by rw [Fin.out], below_put (HB.out.setCell (p := ⟨w.heap.size + 1, 0, none⟩) (by simp) _) (by have := HB.out.size; simpa using this) (by omega)⟩
  case stop =>
    rintro D c pre W hD hS ⟨⟨rfl, s, hs, he⟩, q1, hb⟩ hK
    have fin : hasSeat l stu sec = true := by
      unfold hasSeat
      rw [List.any_eq_true]
      have h1 := hS.subset hs
      unfold ofSec at h1
      obtain ⟨h1, h2⟩ := List.mem_filter.1 h1
      exact ⟨s, h1, by simp only [Bool.and_eq_true]; exact ⟨he, h2⟩⟩
    have Fin := Lib.hid fin
    have HK := Lib.hid hK
    have HB := Lib.hid hb
    clear hs he fin hK hb
    obtain ⟨z1, zf⟩ := q1.c1
    gi_wp2
    refine ⟨by simp, .inl ⟨_, _, rfl, run_takeDeferred HK.out, ?_⟩⟩
    obtain ⟨y1, _⟩ := (blk_put (o' := .deferred none) q1 HK.out rfl).c1
    refine ⟨_, by simp only [results, Tryz.results12]; go_simp; rfl, by rw [Fin.out], below_put HB.out HB.out.size (by omega)⟩
end Go.Proofs.YteonpdnncodkaaaGreatDoor
