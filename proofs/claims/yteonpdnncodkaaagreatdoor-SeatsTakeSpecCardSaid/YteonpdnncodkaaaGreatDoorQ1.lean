/- The reference of layer 25, what only reads: Count, Reserved, Has; Has of layer 24. -/
import Derived.Test.YteonpdnncodkaaaGreatDoorLawA
import Derived.Test.YteonpdnncodkaaaGreatDoorRef1
import Derived.Test.YteonpdnncodkaaaGreatDoorTool
set_option linter.unusedVariables false
set_option linter.unusedSimpArgs false
namespace Go.Proofs.YteonpdnncodkaaaGreatDoor
open Go.RowKit

set_option maxHeartbeats 1000000 in
theorem rcount_c (A : Option Addr) (c : Nat) (T : List Seat) (sec g : Int) (w : World) (h : RSeats w A T) :
    Calls Tryz.prog 67 #[.slice A T.length c, .int .i64 sec, .int .i64 g] w fun e w' => e = .returned (.int .i64 (cntS T sec g)) ∧ Below w.heap.size w w' := by
  have hl := h.len
  have H := Lib.hid h
  clear h
  go_enter Tryz.func67, Tryz.ntmps67
  go_wp2
  go_loopg [7, 8] T.length (fun n u i wr => ∃ k : Nat, n + k = T.length ∧ i = .int .i64 k ∧ u = .int .i64 (cntS (T.take k) sec g) ∧ w = wr)
  case atStart => exact ⟨0, by omega, rfl, rfl, rfl⟩
  case round =>
    obtain ⟨k, hk, rfl, rfl, rfl⟩ := hrel
    by_cases hlt : k < T.length
    · obtain ⟨ad, rfl, f0, f1, f2⟩ := H.out.at (Below.refl _ _) k hlt
      have hb := cntS_bound (T.take k) sec g
      have hlk : (T.take k).length = k := by rw [List.length_take]; omega
      rw [hlk] at hb
      obtain ⟨hb0, hb1⟩ := hb
      have hst := cntS_snoc (T.take k) T[k] sec g
      rw [← List.take_succ_eq_append_getElem hlt] at hst
      have HST := Lib.hid hst
      obtain ⟨x, hx⟩ : ∃ x, x = T[k] := ⟨_, rfl⟩
      rw [← hx] at f0 f1 f2 HST
      clear hx hst hlk
      cases hc : (x.sec == sec && (g == -2 || x.grp == g))
      · have fin : Hid (cntS (T.take (k + 1)) sec g = cntS (T.take k) sec g) := by unfold Hid; rw [HST.out, hc]; simp
        have hc2 : (x.sec == sec) = false ∨ ((x.sec == sec) = true ∧ (g == -2) = false ∧ (x.grp == g) = false) := by
          cases h1 : x.sec == sec
          · exact .inl rfl
          · rw [h1, Bool.true_and, Bool.or_eq_false_iff] at hc; exact .inr ⟨rfl, hc⟩
        clear hc
        rcases hc2 with hc | ⟨h1, h2, h3⟩
        all_goals
          go_wp2
          go_roundg (gk - 1)
          case measure => omega
          case rel => exact ⟨k + 1, by omega, by go_num, by rw [fin.out], rfl⟩
      · have fin : Hid (cntS (T.take (k + 1)) sec g = cntS (T.take k) sec g + 1) := by unfold Hid; rw [HST.out, hc]; simp
        rw [Bool.and_eq_true, Bool.or_eq_true] at hc
        obtain ⟨h1, h2⟩ := hc
        have h2' : (g == -2) = true ∨ ((g == -2) = false ∧ (x.grp == g) = true) := by
          cases h3 : g == -2
          · rw [h3] at h2; exact .inr ⟨rfl, by simpa using h2⟩
          · exact .inl rfl
        clear h2
        have hwr : IntKind.i64.wrap (cntS (T.take k) sec g + 1) = cntS (T.take k) sec g + 1 := wrapi (by omega) (by omega)
        rcases h2' with h2 | ⟨h2, h3⟩
        all_goals
          go_wp2
          go_roundg (gk - 1)
          case measure => omega
          case rel => exact ⟨k + 1, by omega, by go_num, by rw [fin.out], rfl⟩
    · obtain rfl : k = T.length := by omega
      rw [List.take_length]
      go_wp2
      go_ret
      exact ⟨rfl, Below.refl _ _⟩

theorem resv_take {L : List Gp} {g : Int} {k : Nat} (hlt : k < L.length) (h : (L.take k).find? (fun x => x.g == g) = none) (h2 : L[k].g = g) : L.find? (fun x => x.g == g) = some L[k] := by
  conv => lhs; rw [← List.take_append_drop k L]
  rw [List.find?_append, h, List.drop_eq_getElem_cons hlt, List.find?_cons_of_pos (by simp [h2])]
  rfl
set_option maxHeartbeats 1000000 in
theorem rresv_c (s : Sec) (A5 : Option Addr) (c5 : Nat) (A6 : Option Addr) (c6 : Nat) (A7 : Option Addr) (c7 : Nat) (g : Int) (w : World) (h : SecIn w s A5 c5 A6 c6 A7 c7) :
    Calls Tryz.prog 68 #[.agg #[.int .i64 s.id, .int .i64 s.course, .int .i64 s.term, .int .i64 s.campus, .int .i64 s.seats, .slice A5 s.meets.length c5, .slice A6 s.groups.length c6, .slice A7 s.labs.length c7, .bool s.lab], .int .i64 g] w fun e w' => e = .returned (.int .i64 (resv s g)) ∧ Below w.heap.size w w' := by
  have hl := h.g.len
  have H := Lib.hid h.g
  clear h
  go_enter Tryz.func68, Tryz.ntmps68
  go_wp2
  go_loopg [5] s.groups.length (fun n i wr => ∃ k : Nat, n + k = s.groups.length ∧ i = .int .i64 k ∧ Hid ((s.groups.take k).find? (fun x => x.g == g) = none) ∧ Hid (Below w.heap.size w wr) ∧ Blk wr w.heap.size 40 #[.int .i64 s.id, .int .i64 s.course, .int .i64 s.term, .int .i64 s.campus, .int .i64 s.seats, .slice A5 s.meets.length c5, .slice A6 s.groups.length c6, .slice A7 s.labs.length c7, .bool s.lab])
  case atStart => exact ⟨0, by omega, rfl, by simp [Hid], by unfold Hid; go_grown, Blk.new _ _ _⟩
  case round =>
    obtain ⟨k, hk, rfl, ha, hB, hbk⟩ := hrel
    have b6 : wr.cell? ⟨w.heap.size, 6, none⟩ = some (.slice A6 s.groups.length c6) := hbk.cell 6 rfl
    by_cases hlt : k < s.groups.length
    · obtain ⟨ad, rfl, f0, f1, f2⟩ := H.out.at hB.out k hlt
      by_cases hid : s.groups[k].g = g
      · have q : (s.groups[k].g == g) = true := by simp [hid]
        have fin := Lib.hid (resv_take hlt ha.out hid)
        clear hid
        go_wp2
        go_ret
        refine ⟨ret_i64 ?_, hB.out⟩
        unfold resv
        rw [fin.out]
      · have q : (s.groups[k].g == g) = false := by simp [hid]
        have fin := Lib.hid (keptIn_none_take (now := 0) hlt ha.out hid)
        clear hid
        go_wp2
        go_roundg (gk - 1)
        case measure => omega
        case rel => exact ⟨k + 1, by omega, by go_num, fin, hB, hbk⟩
    · obtain rfl : k = s.groups.length := by omega
      go_wp2
      go_ret
      refine ⟨ret_i64 ?_, hB.out⟩
      have := ha.out
      rw [List.take_length] at this
      unfold resv
      rw [this]

theorem hasSeat_snoc (T : List Seat) (x : Seat) (stu sec : Int) : hasSeat (T ++ [x]) stu sec = (hasSeat T stu sec || (x.stu == stu && x.sec == sec)) := by
  unfold hasSeat
  rw [List.any_append]
  simp
theorem hasSeat_at {T : List Seat} {k : Nat} (hlt : k < T.length) {stu sec : Int} (h : (T[k].stu == stu && T[k].sec == sec) = true) : hasSeat T stu sec = true := by
  unfold hasSeat
  exact List.any_eq_true.2 ⟨_, List.getElem_mem hlt, h⟩
set_option maxHeartbeats 1000000 in
theorem rhas_c (A : Option Addr) (c : Nat) (T : List Seat) (stu sec : Int) (w : World) (h : RSeats w A T) :
    Calls Tryz.prog 28 #[.slice A T.length c, .int .i64 stu, .int .i64 sec] w fun e w' => e = .returned (.bool (hasSeat T stu sec)) ∧ Below w.heap.size w w' := by
  have hl := h.len
  have H := Lib.hid h
  clear h
  go_enter Tryz.func28, Tryz.ntmps28
  go_wp2
  go_loopg [7] T.length (fun n i wr => ∃ k : Nat, n + k = T.length ∧ i = .int .i64 k ∧ Hid (hasSeat (T.take k) stu sec = false) ∧ w = wr)
  case atStart => exact ⟨0, by omega, rfl, rfl, rfl⟩
  case round =>
    obtain ⟨k, hk, rfl, ha, rfl⟩ := hrel
    by_cases hlt : k < T.length
    · obtain ⟨ad, rfl, f0, f1, f2⟩ := H.out.at (Below.refl _ _) k hlt
      have hst := hasSeat_snoc (T.take k) T[k] stu sec
      rw [← List.take_succ_eq_append_getElem hlt, ha.out, Bool.false_or] at hst
      have HST := Lib.hid hst
      have HAT := Lib.hid (fun h => hasSeat_at (stu := stu) (sec := sec) hlt h)
      obtain ⟨x, hx⟩ : ∃ x, x = T[k] := ⟨_, rfl⟩
      rw [← hx] at f0 f1 f2 HST HAT
      clear hx hst
      cases h1 : (x.stu == stu)
      · have fin : Hid (hasSeat (T.take (k + 1)) stu sec = false) := by unfold Hid; rw [HST.out, h1]; rfl
        go_wp2
        go_roundg (gk - 1)
        case measure => omega
        case rel => exact ⟨k + 1, by omega, by go_num, fin, rfl⟩
      · cases h2 : (x.sec == sec)
        · have fin : Hid (hasSeat (T.take (k + 1)) stu sec = false) := by unfold Hid; rw [HST.out, h1, h2]; rfl
          go_wp2
          go_roundg (gk - 1)
          case measure => omega
          case rel => exact ⟨k + 1, by omega, by go_num, fin, rfl⟩
        · have fin : Hid (hasSeat T stu sec = true) := HAT.out (by rw [h1, h2]; rfl)
          go_wp2
          go_ret
          exact ⟨by rw [fin.out]; rfl, Below.refl _ _⟩
    · obtain rfl : k = T.length := by omega
      have fin := ha.out
      rw [List.take_length] at fin
      have FIN := Lib.hid fin
      clear fin
      go_wp2
      go_ret
      exact ⟨by rw [FIN.out]; rfl, Below.refl _ _⟩

set_option maxHeartbeats 1000000 in
theorem rhasI_c (A : Option Addr) (c : Nat) (L : List Int) (n0 : Int) (w : World) (h : RInts w A L) :
    Calls Tryz.prog 49 #[.slice A L.length c, .int .i64 n0] w fun e w' => e = .returned (.bool (L.any fun y => n0 == y)) ∧ Below w.heap.size w w' := by
  have hl := h.len
  have H := Lib.hid h
  clear h
  go_enter Tryz.func49, Tryz.ntmps49
  go_wp2
  go_loopg [5] L.length (fun n i wr => ∃ k : Nat, n + k = L.length ∧ i = .int .i64 k ∧ Hid ((L.take k).any (fun y => n0 == y) = false) ∧ w = wr)
  case atStart => exact ⟨0, by omega, rfl, rfl, rfl⟩
  case round =>
    obtain ⟨k, hk, rfl, ha, rfl⟩ := hrel
    by_cases hlt : k < L.length
    · obtain ⟨ad, rfl, f0⟩ := H.out.at (Below.refl _ _) k hlt
      have hst : (L.take (k + 1)).any (fun y => n0 == y) = (n0 == L[k]) := by rw [List.take_succ_eq_append_getElem hlt, List.any_append, ha.out]; simp
      have HST := Lib.hid hst
      have HAT : Hid ((n0 == L[k]) = true → L.any (fun y => n0 == y) = true) := fun h => List.any_eq_true.2 ⟨_, List.getElem_mem hlt, h⟩
      obtain ⟨x, hx⟩ : ∃ x, x = L[k] := ⟨_, rfl⟩
      rw [← hx] at f0 HST HAT
      clear hx hst
      by_cases h1 : x = n0
      · have fin : Hid (L.any (fun y => n0 == y) = true) := HAT.out (by simp [h1])
        have d1 : (x == n0) = true := by simp [h1]
        clear h1
        go_wp2
        go_ret
        exact ⟨by rw [fin.out]; rfl, Below.refl _ _⟩
      · have fin : Hid ((L.take (k + 1)).any (fun y => n0 == y) = false) := by unfold Hid; rw [HST.out, beq_eq_false_iff_ne]; exact fun h => h1 h.symm
        have d1 : (x == n0) = false := by simp [h1]
        clear h1
        go_wp2
        go_roundg (gk - 1)
        case measure => omega
        case rel => exact ⟨k + 1, by omega, by go_num, fin, rfl⟩
    · obtain rfl : k = L.length := by omega
      have fin := ha.out
      rw [List.take_length] at fin
      have FIN := Lib.hid fin
      clear fin
      go_wp2
      go_ret
      exact ⟨by rw [FIN.out]; rfl, Below.refl _ _⟩
end Go.Proofs.YteonpdnncodkaaaGreatDoor
