/- seats.parts, slices.Contains at int, the closure that Take hands to slices.IndexFunc: their contracts. -/
import Derived.Test.YteonpdnncodkaaaGreatDoorFree2
set_option linter.unusedVariables false
set_option linter.unusedSimpArgs false
namespace Go.Proofs.YteonpdnncodkaaaGreatDoor
open Go.RowKit

/-- The sections of a bundle. -/
def partsB (sec lab : Int) : List Int := if lab = -1 then [sec] else [sec, lab]
theorem RInts.of1 {w : World} {b : Nat} {t : TypeId} {x0 : Int} (h : Blk w b t #[.int .i64 x0]) : RInts w (some ⟨b, 0, none⟩) [x0] := by
  refine ⟨by simp, fun k hk => ?_⟩
  obtain rfl : k = 0 := by simpa using hk
  exact ⟨_, _, rfl, rfl, rfl, fun j hj => by
    obtain rfl : j = 0 := by simpa using hj
    exact h.cell _ rfl⟩
theorem RInts.of2 {w : World} {b : Nat} {t : TypeId} {x0 x1 : Int} (h : Blk w b t #[.int .i64 x0, .int .i64 x1]) : RInts w (some ⟨b, 0, none⟩) [x0, x1] := by
  refine ⟨by simp, fun k hk => ?_⟩
  have hk' : k = 0 ∨ k = 1 := by simp at hk; omega
  rcases hk' with rfl | rfl
  all_goals exact ⟨_, _, rfl, rfl, rfl, fun j hj => by
    obtain rfl : j = 0 := by simpa using hj
    exact h.cell _ rfl⟩

set_option maxHeartbeats 1000000 in
theorem parts_c (sec lab : Int) (w : World) :
    Calls Tryz.prog 24 #[.agg #[.int .i64 sec, .int .i64 lab]] w fun e w' => (∃ A c, e = .returned (.slice A (partsB sec lab).length c) ∧ RInts w' A (partsB sec lab)) ∧ Below w.heap.size w w' := by
  by_cases h : lab = -1
  · have E : Hid (partsB sec lab = [sec]) := if_pos h
    subst h
    go_enter Tryz.func24, Tryz.ntmps24
    go_wp2
    go_ret
    refine ⟨⟨_, _, by rw [E.out]; rfl, by rw [E.out]; exact RInts.of1 (Blk.mk' _ _ (by simp) _ _)⟩, by go_grown⟩
  · have E : Hid (partsB sec lab = [sec, lab]) := if_neg h
    have d : (lab == -1) = false := by simp [h]
    go_enter Tryz.func24, Tryz.ntmps24
    go_wp2
    go_ret
    refine ⟨⟨_, _, by rw [E.out]; rfl, by rw [E.out]; exact RInts.of2 (Blk.mk' _ _ (by simp) _ _)⟩, by go_grown⟩

set_option maxHeartbeats 1000000 in
theorem indexI_c (A : Option Addr) (c : Nat) (l : List Int) (x : Int) (w : World) (h : RInts w A l) :
    Calls Tryz.prog 55 #[.slice A l.length c, .int .i64 x] w fun e w' => e = .returned (.int .i64 (idx (fun y => x == y) l)) ∧ w = w' := by
  have hl := h.len
  have H := Lib.hid h
  clear h
  go_enter Tryz.func55, Tryz.ntmps55
  go_wp2
  go_loopg [8] l.length (fun n i wr => ∃ k : Nat, n + k = l.length ∧ i = .int .i64 k ∧ Hid (∀ q, (hq : q < k) → (hk : k ≤ l.length) → (x == (l[q]'(by omega))) = false) ∧ w = wr)
  case atStart => exact ⟨0, by omega, rfl, by intro q hq; omega, rfl⟩
  case round =>
    obtain ⟨k, hk, rfl, ha, rfl⟩ := hrel
    by_cases hlt : k < l.length
    · obtain ⟨ad, rfl, f0⟩ := H.out.at (Below.refl _ _) k hlt
      cases hp : x == l[k]
      · have fin := Lib.hid (fun q (hq : q < k + 1) (_ : k + 1 ≤ l.length) => idx_none_step (p := fun y => x == y) hlt (fun q hq => ha.out q hq (by omega)) hp q hq)
        go_wp2
        go_roundg (gk - 1)
        case measure => omega
        case rel => exact ⟨k + 1, by omega, by go_num, fin, rfl⟩
      · have fin := Lib.hid (idx_some (p := fun y => x == y) hlt (fun q hq => ha.out q hq (by omega)) hp)
        go_wp2
        go_ret
        exact ⟨ret_i64 fin.out.symm, rfl⟩
    · obtain rfl : k = l.length := by omega
      have fin := Lib.hid (idx_none (p := fun y => x == y) (fun q hq => ha.out q hq (Nat.le_refl _)))
      go_wp2
      go_ret
      exact ⟨ret_i64 fin.out.symm, rfl⟩

set_option maxHeartbeats 1000000 in
theorem containsI_c (A : Option Addr) (c : Nat) (l : List Int) (x : Int) (w : World) (h : RInts w A l) :
    Calls Tryz.prog 32 #[.slice A l.length c, .int .i64 x] w fun e w' => e = .returned (.bool (l.any fun y => x == y)) ∧ w = w' := by
  go_enter Tryz.func32, Tryz.ntmps32
  go_wp2_with fail
  refine (indexI_c A c l x _ h).mono ?_
  rintro e w1 ⟨rfl, rfl⟩
  have e1 := Lib.hid (idx_any (fun y => x == y) l)
  generalize idx (fun y => x == y) l = n at *
  go_wp2
  go_ret
  exact ⟨by rw [← e1.out]; rfl, rfl⟩

set_option maxHeartbeats 1000000 in
theorem take11_c (s : Sec) (L : List Seat) (now : Int) (gi : Nat) (hg : gi < 8) (b : Nat) (w : World) (h : Blk w b 51 (resV s L now)) :
    Calls Tryz.prog 20 #[.int .i64 gi, .pointer (some ⟨b, 0, none⟩)] w fun e w' => e = .returned (.bool (decide (0 < resF s L now gi))) ∧ w = w' := by
  have z : w.cell? ⟨b, gi, none⟩ = some (.int .i64 (resF s L now gi)) := by
    have h := h.cell gi (resA_get s L now 8 gi hg)
    have h2 : resC s L now 8 gi = resF s L now gi := by unfold resC; rw [if_pos hg]
    rw [h2] at h
    exact h
  have hwg : IntKind.i64.wrap (gi : Int) = gi := wrapi (by omega) (by omega)
  have hg8 : (gi : Int) < 8 := by omega
  have ea : Addr.add ⟨b, 0, none⟩ gi = ⟨b, gi, none⟩ := add0 _ _
  clear h
  generalize resF s L now gi = R at *
  go_enter Tryz.func20, Tryz.ntmps20
  go_wp2
  go_ret
  exact ⟨rfl, rfl⟩
end Go.Proofs.YteonpdnncodkaaaGreatDoor
