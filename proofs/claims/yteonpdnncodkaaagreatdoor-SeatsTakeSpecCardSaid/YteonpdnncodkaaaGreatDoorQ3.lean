/- The reference of layer 25: Groups. -/
import Derived.Test.YteonpdnncodkaaaGreatDoorQ1
set_option linter.unusedVariables false
set_option linter.unusedSimpArgs false
namespace Go.Proofs.YteonpdnncodkaaaGreatDoor
open Go.RowKit

theorem groupsOk_inc {gs : List Int} : groupsOk gs ↔ Inc id 7 gs := by
  unfold groupsOk Inc
  simp only [id]
  constructor
  · rintro ⟨h1, h2⟩; exact ⟨fun x hx => by have := h1 x hx; omega, h2⟩
  · rintro ⟨h1, h2⟩; exact ⟨fun x hx => by have := h1 x hx; omega, h2⟩

set_option maxRecDepth 100000 in
set_option maxHeartbeats 4000000 in
theorem rgroups_c (A : Option Addr) (c : Nat) (gs : List Int) (w : World) (h : RInts w A gs) :
    Calls Tryz.prog 27 #[.slice A gs.length c] w fun e w' => e = .returned (.bool (decide (groupsOk gs))) ∧ Below w.heap.size w w' := by
  have hl := h.len
  have H := Lib.hid h
  clear h
  go_enter Tryz.func27, Tryz.ntmps27
  go_wp2
  go_loopg [3] gs.length (fun n i wr => ∃ k : Nat, n + k = gs.length ∧ i = .int .i64 k ∧ Hid (Inc id 7 (gs.take k)) ∧ Hid (Below w.heap.size w wr))
  case atStart => exact ⟨0, by omega, rfl, Inc.nil _ _, Below.refl _ _⟩
  case round =>
    obtain ⟨k, hk, rfl, hin, hB⟩ := hrel
    by_cases hlt : k < gs.length
    · have hwk : IntKind.i64.wrap (k : Int) = k := wrapi (by omega) (by omega)
      have dk1 : decide ((k : Int) < gs.length) = true := by simp; omega
      have dk2 : decide (k < gs.length) = true := by simp; omega
      have hla := lastK_ge (by omega) hin.out (by omega)
      obtain ⟨hla1, hla2, _⟩ := hla
      have BAD : Hid (¬ (lastK id gs k + 1 ≤ gs[k] ∧ gs[k] ≤ 7) → decide (groupsOk gs) = false) := fun h => decide_eq_false (fun hg => Inc.no hlt h (groupsOk_inc.1 hg))
      have OK : Hid (lastK id gs k + 1 ≤ gs[k] → gs[k] ≤ 7 → Inc id 7 (gs.take (k + 1))) := fun h1 h2 => hin.out.step hlt (by omega) h1 h2
      have hz : k = 0 → lastK id gs k = -1 := fun e => by subst e; exact lastK_zero _ _
      have hp : ∀ p, k = p + 1 → ∃ y, gs[p]? = some y ∧ lastK id gs k = y := fun p e => by
        subst e
        exact ⟨gs[p], List.getElem?_eq_getElem (by omega), lastK_succ id gs (by omega)⟩
      obtain ⟨x, hx⟩ : ∃ x, x = gs[k] := ⟨_, rfl⟩
      obtain ⟨la, hlaE⟩ : ∃ la, la = lastK id gs k := ⟨_, rfl⟩
      rw [← hx, ← hlaE] at BAD OK
      rw [← hlaE] at hla1 hla2 hz hp
      have HZ := Lib.hid hz
      have HP := Lib.hid hp
      clear hz hp hlaE
      go_wp2_with fail
      obtain ⟨ad, e1, f0⟩ := H.out.at hB.out k hlt
      subst e1
      rw [← hx] at f0
      clear hx
      by_cases g1 : x < 0
      · have fin := Lib.hid (BAD.out (by omega))
        have d1 : decide (x < 0) = true := by simp; omega
        go_quiet (fail)
        go_wp2
        go_ret
        exact ⟨by rw [fin.out]; rfl, bdrewN hB.out _⟩
      have d1 : decide (x < 0) = false := by simp; omega
      by_cases g2 : 8 ≤ x
      · have fin := Lib.hid (BAD.out (by omega))
        have d2 : decide (8 ≤ x) = true := by simp; omega
        go_quiet (fail)
        go_wp2
        go_ret
        exact ⟨by rw [fin.out]; rfl, bdrewN hB.out _⟩
      have d2 : decide (8 ≤ x) = false := by simp; omega
      rcases Nat.eq_zero_or_pos k with hk0 | hk0
      · have e0 := HZ.out hk0
        have fin := Lib.hid (OK.out (by omega) (by omega))
        have d5 : decide ((0 : Int) < k) = false := by simp; omega
        have d6 : decide (0 < k) = false := by simp; omega
        clear e0 hk0
        go_quiet (fail)
        go_wp2
        go_roundg (gk - 1)
        case measure => omega
        case rel => exact ⟨k + 1, by omega, by go_num, fin, bdrewN hB.out _⟩
      · obtain ⟨j, hj⟩ : ∃ j, k = j + 1 := ⟨k - 1, by omega⟩
        obtain ⟨y, hy, hly⟩ := HP.out j hj
        have hjl : j < gs.length := by omega
        have d5 : decide ((0 : Int) < k) = true := by simp; omega
        have d6 : decide (0 < k) = true := by simp; omega
        have hjk : (k : Int) - 1 = j := by omega
        have hwj : IntKind.i64.wrap (j : Int) = j := wrapi (by omega) (by omega)
        have dj1 : decide ((j : Int) < gs.length) = true := by simp; omega
        have dj2 : decide (j < gs.length) = true := by simp; omega
        obtain ⟨_, e1, p0⟩ := H.out.at hB.out j hjl
        cases e1
        have hyj : gs[j] = y := by rw [List.getElem?_eq_getElem hjl] at hy; exact Option.some.inj hy
        rw [hyj] at p0
        clear hy hyj
        subst hly
        by_cases g3 : x ≤ la
        · have fin := Lib.hid (BAD.out (by omega))
          have d7 : decide (x ≤ la) = true := by simp; omega
          clear hj
          go_quiet (fail)
          go_wp2
          go_ret
          exact ⟨by rw [fin.out]; rfl, bdrewN hB.out _⟩
        · have fin := Lib.hid (OK.out (by omega) (by omega))
          have d7 : decide (x ≤ la) = false := by simp; omega
          clear hj
          go_quiet (fail)
          go_wp2
          go_roundg (gk - 1)
          case measure => omega
          case rel => exact ⟨k + 1, by omega, by go_num, fin, bdrewN hB.out _⟩
    · obtain rfl : k = gs.length := by omega
      have fin := hin.out
      rw [List.take_length] at fin
      have FIN := Lib.hid (decide_eq_true (groupsOk_inc.2 fin))
      clear fin
      go_wp2
      go_ret
      exact ⟨by rw [FIN.out]; rfl, hB.out⟩
end Go.Proofs.YteonpdnncodkaaaGreatDoor
