/- sections: formed, check, code: their contracts. -/
import Derived.Test.YteonpdnncodkaaaGreatDoorLeaf
import Derived.Test.YteonpdnncodkaaaGreatDoorSpec2
set_option linter.unusedVariables false
set_option linter.unusedSimpArgs false
namespace Go.Proofs.YteonpdnncodkaaaGreatDoor
open Go.RowKit

theorem wi_c (n lo hi : Int) (w : World) :
    Calls Tryz.prog 92 #[.int .i64 n, .int .i64 lo, .int .i64 hi] w fun e w' => e = .returned (.bool (wi n lo hi)) ∧ w = w' := (within_c n lo hi w).mono fun e w' h => h

set_option maxRecDepth 100000 in
set_option maxHeartbeats 4000000 in
theorem formed_c (s : Sec) (A5 : Option Addr) (c5 : Nat) (A6 : Option Addr) (c6 : Nat) (A7 : Option Addr) (c7 : Nat) (w : World) (h : SecIn w s A5 c5 A6 c6 A7 c7) :
    Calls Tryz.prog 87 #[.agg #[.int .i64 s.id, .int .i64 s.course, .int .i64 s.term, .int .i64 s.campus, .int .i64 s.seats, .slice A5 s.meets.length c5, .slice A6 s.groups.length c6, .slice A7 s.labs.length c7, .bool s.lab]] w fun e w' => e = .returned (.bool (formedB s)) ∧ Below w.heap.size w w' := by
  have hlg := h.g.len
  have hll := h.l.len
  have HG := Lib.hid h.g
  have HL := Lib.hid h.l
  clear h
  go_enter Tryz.func87, Tryz.ntmps87
  go_wp2
  go_loopg [3, 4, 12] s.groups.length (fun n al la i wr => ∃ k : Nat, n + k = s.groups.length ∧ i = .int .i64 k ∧ al = .int .i64 (sumS (s.groups.take k)) ∧ la = .int .i64 (lastK (·.g) s.groups k) ∧ Hid (gpsOk (s.groups.take k)) ∧ Hid (Below w.heap.size w wr) ∧ Blk wr w.heap.size 79 #[.int .i64 s.id, .int .i64 s.course, .int .i64 s.term, .int .i64 s.campus, .int .i64 s.seats, .slice A5 s.meets.length c5, .slice A6 s.groups.length c6, .slice A7 s.labs.length c7, .bool s.lab])
  case atStart => exact ⟨0, by omega, rfl, rfl, rfl, ⟨Inc.nil _ _, by simp⟩, by unfold Hid; go_grown, Blk.new _ _ _⟩
  case round =>
    obtain ⟨k, hk, rfl, rfl, rfl, ha, hB, hbk⟩ := hrel
    obtain ⟨b0, b1, b2, b3, b4, b5, b6, b7, b8, bf⟩ := hbk.c9
    have hsz := hbk.lt
    by_cases hlt : k < s.groups.length
    · obtain ⟨ad, rfl, f0, f1, f2⟩ := HG.out.at hB.out k hlt
      have hlk := lastK_ge (by omega) ha.out.1 (by omega)
      have hl1 := hlk.1
      have hl2 := hlk.2.1
      have hsb := sumS_bound ha.out.2
      have hs1 := hsb.1
      have hs2 : sumS (s.groups.take k) ≤ 4096 * (k : Int) := by have := hsb.2; rw [List.length_take] at this; omega
      have hlk1 : IntKind.i64.wrap (lastK (·.g) s.groups k + 1) = lastK (·.g) s.groups k + 1 := IntWalk.i64_in _ (by omega)
      clear hlk hsb
      cases w1 : wi s.groups[k].g (lastK (·.g) s.groups k + 1) 7
      · have fin := Lib.hid (formedB_false (fun hf => gpsOk.no hlt (.inl w1) hf.2.2.2.2.2.1))
        go_wp2_with (go_at_call 92; refine (wi_c _ _ _ _).mono ?_; rintro e w' ⟨rfl, rfl⟩)
        go_ret
        exact ⟨ret_bool fin.out.symm, by have h := hB.out; go_grown⟩
      · cases w2 : wi s.groups[k].s 0 4096
        · have fin := Lib.hid (formedB_false (fun hf => gpsOk.no hlt (.inr (.inl w2)) hf.2.2.2.2.2.1))
          go_wp2_with (go_at_call 92; refine (wi_c _ _ _ _).mono ?_; rintro e w' ⟨rfl, rfl⟩)
          go_ret
          exact ⟨ret_bool fin.out.symm, by have h := hB.out; go_grown⟩
        · cases w3 : wi s.groups[k].u 0 1048576
          · have fin := Lib.hid (formedB_false (fun hf => gpsOk.no hlt (.inr (.inr w3)) hf.2.2.2.2.2.1))
            go_wp2_with (go_at_call 92; refine (wi_c _ _ _ _).mono ?_; rintro e w' ⟨rfl, rfl⟩)
            go_ret
            exact ⟨ret_bool fin.out.symm, by have h := hB.out; go_grown⟩
          · have fin := Lib.hid (gpsOk.step hlt ha.out w1 w2 w3)
            have e1 := Lib.hid (show sumS (s.groups.take (k + 1)) = sumS (s.groups.take k) + s.groups[k].s by rw [List.take_succ_eq_append_getElem hlt, sumS_snoc])
            have e2 := Lib.hid (lastK_succ (·.g) s.groups hlt)
            have g1 := (wi_true.1 w2).1
            have g2 := (wi_true.1 w2).2
            go_wp2_with (go_at_call 92; refine (wi_c _ _ _ _).mono ?_; rintro e w' ⟨rfl, rfl⟩)
            go_quiet (fail)
            go_wp2
            go_roundg (gk - 1)
            case measure => omega
            case rel => exact ⟨k + 1, by omega, by go_num, by rw [e1.out], by rw [e2.out], fin, by unfold Hid; have h := hB.out; exact bdrewN (by go_grown) _, (hbk.alloc _).drewN _⟩
    · obtain rfl : k = s.groups.length := by omega
      rw [List.take_length] at ha
      rw [List.take_length]
      have HA := ha
      clear ha
      have hsb := sumS_bound HA.out.2
      have hs1 := hsb.1
      have hs2 := hsb.2
      clear hsb
      go_wp2
      go_loopg [4, 44] s.labs.length (fun n la i wr => ∃ k : Nat, n + k = s.labs.length ∧ i = .int .i64 k ∧ la = .int .i64 (lastK id s.labs k) ∧ Hid (labsOk (s.labs.take k)) ∧ Hid (Below w.heap.size w wr) ∧ Blk wr w.heap.size 79 #[.int .i64 s.id, .int .i64 s.course, .int .i64 s.term, .int .i64 s.campus, .int .i64 s.seats, .slice A5 s.meets.length c5, .slice A6 s.groups.length c6, .slice A7 s.labs.length c7, .bool s.lab])
      case atStart => exact ⟨0, by omega, rfl, rfl, Inc.nil _ _, hB, hbk⟩
      case round =>
        obtain ⟨k, hk, rfl, rfl, hla, hB, hbk⟩ := hrel
        obtain ⟨b0, b1, b2, b3, b4, b5, b6, b7, b8, bf⟩ := hbk.c9
        have hsz := hbk.lt
        by_cases hlt : k < s.labs.length
        · obtain ⟨ad, rfl, f0⟩ := HL.out.at hB.out k hlt
          have hlk := lastK_ge (by omega) hla.out (by omega)
          have hl1 := hlk.1
          have hl2 := hlk.2.1
          clear hlk
          cases w1 : wi s.labs[k] (lastK id s.labs k + 1) 3999
          · have fin := Lib.hid (formedB_false (fun hf => Inc.no (f := id) hlt (wi_false.1 w1) hf.2.2.2.2.2.2.2.1))
            go_wp2_with (go_at_call 92; refine (wi_c _ _ _ _).mono ?_; rintro e w' ⟨rfl, rfl⟩)
            go_ret
            exact ⟨ret_bool fin.out.symm, hB.out⟩
          · have fin := Lib.hid (Inc.step (f := id) hlt hla.out (by omega) (wi_true.1 w1).1 (wi_true.1 w1).2)
            have e2 := Lib.hid (lastK_succ id s.labs hlt)
            go_wp2_with (go_at_call 92; refine (wi_c _ _ _ _).mono ?_; rintro e w' ⟨rfl, rfl⟩)
            go_roundg (gk - 1)
            case measure => omega
            case rel => exact ⟨k + 1, by omega, by go_num, by rw [e2.out]; rfl, fin, hB, hbk⟩
        · obtain rfl : k = s.labs.length := by omega
          rw [List.take_length] at hla
          have HLA := hla
          have hgl := HA.out.len
          clear hla
          go_wp2_with (go_at_call 92; refine (wi_c _ _ _ _).mono ?_; rintro e w' ⟨rfl, rfl⟩)
          all_goals
            go_ret
            refine ⟨ret_bool ?_, hB.out⟩
            rw [formedB_eq HA.out HLA.out]
            first | (simp [*]; done) | (simp [*]; omega)

/-- An error of sections, as a value. -/
def errV (n : Int) : Value := if n = 0 then .nilIface else .iface 110 (.agg #[.int .i64 n])
theorem errV_zero : errV 0 = .nilIface := rfl
theorem errV_pos {n : Int} (h : n ≠ 0) : errV n = .iface 110 (.agg #[.int .i64 n]) := if_neg h
end Go.Proofs.YteonpdnncodkaaaGreatDoor
