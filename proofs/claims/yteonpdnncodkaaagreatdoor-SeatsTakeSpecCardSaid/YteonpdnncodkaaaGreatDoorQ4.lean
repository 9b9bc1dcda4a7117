/- The reference of layer 23: Formed (printed by q4.py). -/
import Derived.Test.YteonpdnncodkaaaGreatDoorQ3
set_option linter.unusedVariables false
set_option linter.unusedSimpArgs false
namespace Go.Proofs.YteonpdnncodkaaaGreatDoor
open Go.RowKit

set_option maxRecDepth 100000 in
set_option maxHeartbeats 8000000 in
theorem rformed_c (s : Sec) (A5 : Option Addr) (c5 : Nat) (A6 : Option Addr) (c6 : Nat) (A7 : Option Addr) (c7 : Nat) (w : World) (h : SecIn w s A5 c5 A6 c6 A7 c7) :
    Calls Tryz.prog 81 #[.agg #[.int .i64 s.id, .int .i64 s.course, .int .i64 s.term, .int .i64 s.campus, .int .i64 s.seats, .slice A5 s.meets.length c5, .slice A6 s.groups.length c6, .slice A7 s.labs.length c7, .bool s.lab]] w fun e w' => e = .returned (.bool (formedB s)) ∧ Below w.heap.size w w' := by
  have hlg := h.g.len
  have hll := h.l.len
  have HG := Lib.hid h.g
  have HL := Lib.hid h.l
  clear h
  obtain ⟨lb, hlb⟩ : ∃ lb, lb = s.lab := ⟨_, rfl⟩
  obtain ⟨nl, hnl⟩ : ∃ nl, nl = s.labs.length := ⟨_, rfl⟩
  have hlab : (lb = true ∧ 0 < nl) ∨ ((lb = true ∧ nl = 0) ∨ lb = false) := by
    cases lb
    · exact .inr (.inr rfl)
    · rcases Nat.eq_zero_or_pos nl with h | h
      · exact .inr (.inl ⟨rfl, h⟩)
      · exact .inl ⟨rfl, h⟩
  rw [← hnl] at hll
  rw [← hlb, ← hnl]
  have HLB := Lib.hid hlb
  have HNL := Lib.hid hnl
  clear hlb hnl
  go_enter Tryz.func81, Tryz.ntmps81
  by_cases ida : s.id < 0
  · have fin := Lib.hid (formedB_false (s := s) (fun hf => by have := wi_true.1 hf.1; omega))
    go_wp2
    go_ret
    exact ⟨ret_bool fin.out.symm, by go_grown⟩
  by_cases idb : 4000 ≤ s.id
  · have fin := Lib.hid (formedB_false (s := s) (fun hf => by have := wi_true.1 hf.1; omega))
    go_wp2
    go_ret
    exact ⟨ret_bool fin.out.symm, by go_grown⟩
  by_cases coursea : s.course < 0
  · have fin := Lib.hid (formedB_false (s := s) (fun hf => by have := wi_true.1 hf.2.1; omega))
    go_wp2
    go_ret
    exact ⟨ret_bool fin.out.symm, by go_grown⟩
  by_cases courseb : 4096 ≤ s.course
  · have fin := Lib.hid (formedB_false (s := s) (fun hf => by have := wi_true.1 hf.2.1; omega))
    go_wp2
    go_ret
    exact ⟨ret_bool fin.out.symm, by go_grown⟩
  by_cases terma : s.term < 0
  · have fin := Lib.hid (formedB_false (s := s) (fun hf => by have := wi_true.1 hf.2.2.1; omega))
    go_wp2
    go_ret
    exact ⟨ret_bool fin.out.symm, by go_grown⟩
  by_cases termb : 1024 ≤ s.term
  · have fin := Lib.hid (formedB_false (s := s) (fun hf => by have := wi_true.1 hf.2.2.1; omega))
    go_wp2
    go_ret
    exact ⟨ret_bool fin.out.symm, by go_grown⟩
  by_cases campusa : s.campus < 0
  · have fin := Lib.hid (formedB_false (s := s) (fun hf => by have := wi_true.1 hf.2.2.2.1; omega))
    go_wp2
    go_ret
    exact ⟨ret_bool fin.out.symm, by go_grown⟩
  by_cases campusb : 7 ≤ s.campus
  · have fin := Lib.hid (formedB_false (s := s) (fun hf => by have := wi_true.1 hf.2.2.2.1; omega))
    go_wp2
    go_ret
    exact ⟨ret_bool fin.out.symm, by go_grown⟩
  by_cases seatsa : s.seats < 0
  · have fin := Lib.hid (formedB_false (s := s) (fun hf => by have := wi_true.1 hf.2.2.2.2.1; omega))
    go_wp2
    go_ret
    exact ⟨ret_bool fin.out.symm, by go_grown⟩
  by_cases seatsb : 4096 < s.seats
  · have fin := Lib.hid (formedB_false (s := s) (fun hf => by have := wi_true.1 hf.2.2.2.2.1; omega))
    go_wp2
    go_ret
    exact ⟨ret_bool fin.out.symm, by go_grown⟩
  by_cases g8 : 8 < s.groups.length
  · have fin := Lib.hid (formedB_false (s := s) (fun hf => by have := gpsOk.len hf.2.2.2.2.2.1; omega))
    have d8 : (8 : Int) < s.groups.length := by omega
    go_wp2
    go_ret
    exact ⟨ret_bool fin.out.symm, by go_grown⟩
  have d8 : ¬ (8 : Int) < s.groups.length := by omega
  rcases hlab with ⟨l1, l2⟩ | hlab
  · have fin := Lib.hid (formedB_false (s := s) (fun hf => by
      rcases hf.2.2.2.2.2.2.2.2 with h | h
      · rw [← HLB.out, l1] at h; cases h
      · have e := HNL.out; rw [h] at e; simp at e; omega))
    subst l1
    have d9 : (0 : Int) < nl := by omega
    go_wp2
    go_ret
    exact ⟨ret_bool fin.out.symm, by go_grown⟩
  have HEAD : Hid (gpsOk s.groups → labsOk s.labs → formedB s = decide (sumS s.groups ≤ s.seats)) := by
    intro hg hl
    unfold formedB
    refine decide_eq_decide.2 ⟨fun hf => hf.2.2.2.2.2.2.1, fun h => ⟨wi_true.2 ⟨by omega, by omega⟩, wi_true.2 ⟨by omega, by omega⟩, wi_true.2 ⟨by omega, by omega⟩, wi_true.2 ⟨by omega, by omega⟩, wi_true.2 ⟨by omega, by omega⟩, hg, h, hl, ?_⟩⟩
    rcases hlab with ⟨_, h2⟩ | h1
    · exact .inr (List.length_eq_zero_iff.1 (HNL.out.symm.trans h2))
    · exact .inl (HLB.out.symm.trans h1)
  have hi1 : s.seats ≤ 4096 := by omega
  have hg8 : s.groups.length ≤ 8 := by omega
  go_upto_region 1 with (fail)
  go_cut [70] (fun s70 wx => s70 = .bool false ∧ wx = w.alloc (.cells #[.int .i64 s.id, .int .i64 s.course, .int .i64 s.term, .int .i64 s.campus, .int .i64 s.seats, .slice A5 s.meets.length c5, .slice A6 s.groups.length c6, .slice A7 nl c7, .bool lb] 40))
  case first =>
    rcases hlab with ⟨l1, l2⟩ | l1
    · subst l1
      subst l2
      have d9 : ¬ (0 : Int) < (0 : Nat) := by omega
      go_wp2_with fail
      go_meet
      exact ⟨rfl, rfl⟩
    · subst l1
      go_wp2_with fail
      go_meet
      exact ⟨rfl, rfl⟩
  case rest =>
  obtain ⟨rfl, rfl⟩ := hcut
  obtain rfl := HLB.out
  obtain rfl := HNL.out
  clear HLB HNL hlab
  have ky0 := Blk.new w 40 #[.int .i64 s.id, .int .i64 s.course, .int .i64 s.term, .int .i64 s.campus, .int .i64 s.seats, .slice A5 s.meets.length c5, .slice A6 s.groups.length c6, .slice A7 s.labs.length c7, .bool s.lab]
  have hb0 : Hid (Below w.heap.size w (w.alloc (.cells #[.int .i64 s.id, .int .i64 s.course, .int .i64 s.term, .int .i64 s.campus, .int .i64 s.seats, .slice A5 s.meets.length c5, .slice A6 s.groups.length c6, .slice A7 s.labs.length c7, .bool s.lab] 40))) := by unfold Hid; go_grown
  go_wp2
  go_loopg [3, 4] s.groups.length (fun n al i wr => ∃ k : Nat, n + k = s.groups.length ∧ i = .int .i64 k ∧ al = .int .i64 (sumS (s.groups.take k)) ∧ Hid (gpsOk (s.groups.take k)) ∧ Hid (Below w.heap.size w wr) ∧ Blk wr w.heap.size 40 #[.int .i64 s.id, .int .i64 s.course, .int .i64 s.term, .int .i64 s.campus, .int .i64 s.seats, .slice A5 s.meets.length c5, .slice A6 s.groups.length c6, .slice A7 s.labs.length c7, .bool s.lab])
  case atStart => exact ⟨0, by omega, rfl, rfl, ⟨Inc.nil _ _, by simp⟩, hb0, ky0⟩
  case round =>
    clear hb0 ky0
    obtain ⟨k, hk, rfl, rfl, ha, hB, hbk⟩ := hrel
    obtain ⟨b0, b1, b2, b3, b4, b5, b6, b7, b8, bf⟩ := hbk.c9
    have hsz := hbk.lt
    by_cases hlt : k < s.groups.length
    · as_aux_lemma =>
      obtain ⟨ad, e6, f0, f1, f2⟩ := HG.out.at hB.out k hlt
      subst e6
      have hlk := lastK_ge (by omega) ha.out.1 (by omega)
      obtain ⟨hl1, hl2, _⟩ := hlk
      have hsb := sumS_bound ha.out.2
      obtain ⟨hs1, hs2'⟩ := hsb
      have hs2 : sumS (s.groups.take k) ≤ 4096 * (k : Int) := by rw [List.length_take] at hs2'; omega
      clear hs2'
      have hwk : IntKind.i64.wrap (k : Int) = k := wrapi (by omega) (by omega)
      have e1 := Lib.hid (show sumS (s.groups.take (k + 1)) = sumS (s.groups.take k) + s.groups[k].s by rw [List.take_succ_eq_append_getElem hlt, sumS_snoc])
      have NO : Hid (wi s.groups[k].g (lastK (·.g) s.groups k + 1) 7 = false ∨ wi s.groups[k].s 0 4096 = false ∨ wi s.groups[k].u 0 1048576 = false → formedB s = false) := fun h => formedB_false (fun hf => gpsOk.no hlt h hf.2.2.2.2.2.1)
      have YES : Hid (wi s.groups[k].g (lastK (·.g) s.groups k + 1) 7 = true → wi s.groups[k].s 0 4096 = true → wi s.groups[k].u 0 1048576 = true → gpsOk (s.groups.take (k + 1))) := fun w1 w2 w3 => gpsOk.step hlt ha.out w1 w2 w3
      have HCK : Hid ((k = 0 ∧ lastK (·.g) s.groups k = -1) ∨ ∃ j, ∃ hj : j < s.groups.length, k = j + 1 ∧ lastK (·.g) s.groups k = s.groups[j].g) := by
        rcases Nat.eq_zero_or_pos k with e | e
        · subst e; exact .inl ⟨rfl, lastK_zero _ _⟩
        · obtain ⟨j, rfl⟩ : ∃ j, k = j + 1 := ⟨k - 1, by omega⟩
          exact .inr ⟨j, by omega, rfl, lastK_succ (fun x : Gp => x.g) s.groups (by omega)⟩
      obtain ⟨la, hla⟩ : ∃ la, la = lastK (·.g) s.groups k := ⟨_, rfl⟩
      rw [← hla] at hl1 hl2 NO YES HCK
      obtain ⟨S, hS⟩ : ∃ S, S = sumS (s.groups.take k) := ⟨_, rfl⟩
      rw [← hS] at hs1 hs2 e1
      rw [← hS]
      obtain ⟨x, hx⟩ : ∃ x, x = s.groups[k] := ⟨_, rfl⟩
      rw [← hx] at f0 f1 f2 NO YES e1
      clear hx hS hla
      obtain ⟨xg, xs, xu⟩ := x
      simp only at f0 f1 f2 NO YES e1
      have hB1 : Hid (Below w.heap.size w (wr.alloc (.cells #[.int .i64 xg, .int .i64 xs, .int .i64 xu] 36))) := by unfold Hid; have h := hB.out; have hs := h.size; go_grown
      have hbk1 := hbk.alloc (.cells #[.int .i64 xg, .int .i64 xs, .int .i64 xu] 36)
      by_cases gq : xg < 0
      · have fin := Lib.hid (NO.out (.inl (wi_false.2 (by omega))))
        have d1 : decide (xg < 0) = true := by simp; omega
        go_wp2_with fail
        go_quiet (fail)
        go_wp2
        go_ret
        exact ⟨ret_bool fin.out.symm, bdrewN hB1.out _⟩
      have d2059 : decide (xg < 0) = false := by simp; omega
      by_cases gq : 8 ≤ xg
      · have fin := Lib.hid (NO.out (.inl (wi_false.2 (by omega))))
        have d1 : decide (8 ≤ xg) = true := by simp; omega
        go_wp2_with fail
        go_quiet (fail)
        go_wp2
        go_ret
        exact ⟨ret_bool fin.out.symm, bdrewN hB1.out _⟩
      have d7342 : decide (8 ≤ xg) = false := by simp; omega
      rcases HCK.out with ⟨hk0, hla⟩ | ⟨j, hj, hk0, hla⟩
      · have d5 : decide ((0 : Int) < k) = false := by simp; omega
        have d6 : decide (0 < k) = false := by simp; omega
        have hk1 : k < s.groups.length := hlt
        clear hk0
        by_cases gq : xs < 0
        · have fin := Lib.hid (NO.out (.inr (.inl (wi_false.2 (by omega)))))
          have d1 : decide (xs < 0) = true := by simp; omega
          go_wp2_with fail
          go_quiet (fail)
          go_wp2
          go_ret
          exact ⟨ret_bool fin.out.symm, bdrewN hB1.out _⟩
        have d1916 : decide (xs < 0) = false := by simp; omega
        by_cases gq : 4096 < xs
        · have fin := Lib.hid (NO.out (.inr (.inl (wi_false.2 (by omega)))))
          have d1 : decide (4096 < xs) = true := by simp; omega
          go_wp2_with fail
          go_quiet (fail)
          go_wp2
          go_ret
          exact ⟨ret_bool fin.out.symm, bdrewN hB1.out _⟩
        have d5032 : decide (4096 < xs) = false := by simp; omega
        by_cases gq : xu < 0
        · have fin := Lib.hid (NO.out (.inr (.inr (wi_false.2 (by omega)))))
          have d1 : decide (xu < 0) = true := by simp; omega
          go_wp2_with fail
          go_quiet (fail)
          go_wp2
          go_ret
          exact ⟨ret_bool fin.out.symm, bdrewN hB1.out _⟩
        have d4026 : decide (xu < 0) = false := by simp; omega
        by_cases gq : 1048576 < xu
        · have fin := Lib.hid (NO.out (.inr (.inr (wi_false.2 (by omega)))))
          have d1 : decide (1048576 < xu) = true := by simp; omega
          go_wp2_with fail
          go_quiet (fail)
          go_wp2
          go_ret
          exact ⟨ret_bool fin.out.symm, bdrewN hB1.out _⟩
        have d9168 : decide (1048576 < xu) = false := by simp; omega
        have fin := Lib.hid (YES.out (wi_true.2 ⟨by omega, by omega⟩) (wi_true.2 ⟨by omega, by omega⟩) (wi_true.2 ⟨by omega, by omega⟩))
        have hwS : IntKind.i64.wrap (S + xs) = S + xs := wrapi (by omega) (by omega)
        go_wp2_with fail
        go_quiet (fail)
        go_wp2
        go_roundg (gk - 1)
        case measure => omega
        case rel => exact ⟨k + 1, by omega, by go_num, by rw [e1.out], fin, bdrewN hB1.out _, hbk1.drewN _⟩
      · have d5 : decide ((0 : Int) < k) = true := by simp; omega
        have d6 : decide (0 < k) = true := by simp; omega
        have hjk : (k : Int) - 1 = j := by omega
        have hwj : IntKind.i64.wrap (j : Int) = j := wrapi (by omega) (by omega)
        have dj1 : decide ((j : Int) < s.groups.length) = true := by simp; omega
        have dj2 : decide (j < s.groups.length) = true := by simp; omega
        obtain ⟨_, e7, p0, p1, p2⟩ := HG.out.at hB.out j hj
        cases e7
        rw [← hla] at p0
        have hne1 : ¬ (ad.add (j * 3)).block = wr.heap.size := Nat.ne_of_lt (block_lt p0)
        have hne2 : ¬ wr.heap.size = (ad.add (j * 3)).block := fun h => hne1 h.symm
        obtain ⟨_, e7, r0, _, _⟩ := HG.out.at hB1.out j hj
        cases e7
        rw [← hla] at r0
        clear hk0 p1 p2 hla
        by_cases gq : xg ≤ la
        · have fin := Lib.hid (NO.out (.inl (wi_false.2 (by omega))))
          have d1 : decide (xg ≤ la) = true := by simp; omega
          go_wp2_with fail
          go_quiet (fail)
          go_wp2
          go_ret
          exact ⟨ret_bool fin.out.symm, bdrewN hB1.out _⟩
        have d6047 : decide (xg ≤ la) = false := by simp; omega
        by_cases gq : xs < 0
        · have fin := Lib.hid (NO.out (.inr (.inl (wi_false.2 (by omega)))))
          have d1 : decide (xs < 0) = true := by simp; omega
          go_wp2_with fail
          go_quiet (fail)
          go_wp2
          go_ret
          exact ⟨ret_bool fin.out.symm, bdrewN hB1.out _⟩
        have d1916 : decide (xs < 0) = false := by simp; omega
        by_cases gq : 4096 < xs
        · have fin := Lib.hid (NO.out (.inr (.inl (wi_false.2 (by omega)))))
          have d1 : decide (4096 < xs) = true := by simp; omega
          go_wp2_with fail
          go_quiet (fail)
          go_wp2
          go_ret
          exact ⟨ret_bool fin.out.symm, bdrewN hB1.out _⟩
        have d5032 : decide (4096 < xs) = false := by simp; omega
        by_cases gq : xu < 0
        · have fin := Lib.hid (NO.out (.inr (.inr (wi_false.2 (by omega)))))
          have d1 : decide (xu < 0) = true := by simp; omega
          go_wp2_with fail
          go_quiet (fail)
          go_wp2
          go_ret
          exact ⟨ret_bool fin.out.symm, bdrewN hB1.out _⟩
        have d4026 : decide (xu < 0) = false := by simp; omega
        by_cases gq : 1048576 < xu
        · have fin := Lib.hid (NO.out (.inr (.inr (wi_false.2 (by omega)))))
          have d1 : decide (1048576 < xu) = true := by simp; omega
          go_wp2_with fail
          go_quiet (fail)
          go_wp2
          go_ret
          exact ⟨ret_bool fin.out.symm, bdrewN hB1.out _⟩
        have d9168 : decide (1048576 < xu) = false := by simp; omega
        have fin := Lib.hid (YES.out (wi_true.2 ⟨by omega, by omega⟩) (wi_true.2 ⟨by omega, by omega⟩) (wi_true.2 ⟨by omega, by omega⟩))
        have hwS : IntKind.i64.wrap (S + xs) = S + xs := wrapi (by omega) (by omega)
        go_wp2_with fail
        go_quiet (fail)
        go_wp2
        go_roundg (gk - 1)
        case measure => omega
        case rel => exact ⟨k + 1, by omega, by go_num, by rw [e1.out], fin, bdrewN hB1.out _, hbk1.drewN _⟩
    · obtain rfl : k = s.groups.length := by omega
      rw [List.take_length] at ha
      rw [List.take_length]
      have hsb := sumS_bound ha.out.2
      obtain ⟨hs1, hs2⟩ := hsb
      clear hlt hk
      go_wp2
      go_loopg [6] s.labs.length (fun n i wr => ∃ k : Nat, n + k = s.labs.length ∧ i = .int .i64 k ∧ Hid (labsOk (s.labs.take k)) ∧ Hid (Below w.heap.size w wr) ∧ Blk wr w.heap.size 40 #[.int .i64 s.id, .int .i64 s.course, .int .i64 s.term, .int .i64 s.campus, .int .i64 s.seats, .slice A5 s.meets.length c5, .slice A6 s.groups.length c6, .slice A7 s.labs.length c7, .bool s.lab])
      case atStart => exact ⟨0, by omega, rfl, Inc.nil _ _, hB, hbk⟩
      case round =>
        clear hB hbk b0 b1 b2 b3 b4 b5 b6 b7 b8 bf hsz
        obtain ⟨k, hk, rfl, hin, hB, hbk⟩ := hrel
        obtain ⟨b0, b1, b2, b3, b4, b5, b6, b7, b8, bf⟩ := hbk.c9
        by_cases hlt : k < s.labs.length
        · as_aux_lemma =>
          have hwk : IntKind.i64.wrap (k : Int) = k := wrapi (by omega) (by omega)
          have dk1 : decide ((k : Int) < s.labs.length) = true := by simp; omega
          have dk2 : decide (k < s.labs.length) = true := by simp; omega
          have hla := lastK_ge (by omega) hin.out (by omega)
          obtain ⟨hla1, hla2, _⟩ := hla
          have NO : Hid (¬ (lastK id s.labs k + 1 ≤ s.labs[k] ∧ s.labs[k] ≤ 3999) → formedB s = false) := fun h => formedB_false (fun hf => Inc.no hlt h hf.2.2.2.2.2.2.2.1)
          have YES : Hid (lastK id s.labs k + 1 ≤ s.labs[k] → s.labs[k] ≤ 3999 → labsOk (s.labs.take (k + 1))) := fun h1 h2 => Inc.step hlt hin.out (by omega) h1 h2
          have HCK : Hid ((k = 0 ∧ lastK id s.labs k = -1) ∨ ∃ j, ∃ hj : j < s.labs.length, k = j + 1 ∧ lastK id s.labs k = s.labs[j]) := by
            rcases Nat.eq_zero_or_pos k with e | e
            · subst e; exact .inl ⟨rfl, lastK_zero _ _⟩
            · obtain ⟨j, rfl⟩ : ∃ j, k = j + 1 := ⟨k - 1, by omega⟩
              exact .inr ⟨j, by omega, rfl, lastK_succ id s.labs (by omega)⟩
          obtain ⟨la, hlaE⟩ : ∃ la, la = lastK id s.labs k := ⟨_, rfl⟩
          rw [← hlaE] at hla1 hla2 NO YES HCK
          obtain ⟨ad, e7, f0⟩ := HL.out.at hB.out k hlt
          subst e7
          obtain ⟨x, hx⟩ : ∃ x, x = s.labs[k] := ⟨_, rfl⟩
          rw [← hx] at f0 NO YES
          clear hx hlaE
          have hB1 := hB
          by_cases gq : x < 0
          · have fin := Lib.hid (NO.out (by omega))
            have d1 : decide (x < 0) = true := by simp; omega
            go_wp2_with fail
            go_quiet (fail)
            go_wp2
            go_ret
            exact ⟨ret_bool fin.out.symm, bdrewN hB1.out _⟩
          have d6882 : decide (x < 0) = false := by simp; omega
          by_cases gq : 4000 ≤ x
          · have fin := Lib.hid (NO.out (by omega))
            have d1 : decide (4000 ≤ x) = true := by simp; omega
            go_wp2_with fail
            go_quiet (fail)
            go_wp2
            go_ret
            exact ⟨ret_bool fin.out.symm, bdrewN hB1.out _⟩
          have d3245 : decide (4000 ≤ x) = false := by simp; omega
          rcases HCK.out with ⟨hk0, hla⟩ | ⟨j, hj, hk0, hla⟩
          · have d5 : decide ((0 : Int) < k) = false := by simp; omega
            have d6 : decide (0 < k) = false := by simp; omega
            clear hk0
            have fin := Lib.hid (YES.out (by omega) (by omega))
            go_wp2_with fail
            go_quiet (fail)
            go_wp2
            go_roundg (gk - 1)
            case measure => omega
            case rel => exact ⟨k + 1, by omega, by go_num, fin, bdrewN hB1.out _, hbk.drewN _⟩
          · have d5 : decide ((0 : Int) < k) = true := by simp; omega
            have d6 : decide (0 < k) = true := by simp; omega
            have hjk : (k : Int) - 1 = j := by omega
            have hwj : IntKind.i64.wrap (j : Int) = j := wrapi (by omega) (by omega)
            have dj1 : decide ((j : Int) < s.labs.length) = true := by simp; omega
            have dj2 : decide (j < s.labs.length) = true := by simp; omega
            obtain ⟨_, e7, p0⟩ := HL.out.at hB.out j hj
            cases e7
            rw [← hla] at p0
            clear hk0 hla
            by_cases gq : x ≤ la
            · have fin := Lib.hid (NO.out (by omega))
              have d1 : decide (x ≤ la) = true := by simp; omega
              go_wp2_with fail
              go_quiet (fail)
              go_wp2
              go_ret
              exact ⟨ret_bool fin.out.symm, bdrewN hB1.out _⟩
            have d4571 : decide (x ≤ la) = false := by simp; omega
            have fin := Lib.hid (YES.out (by omega) (by omega))
            go_wp2_with fail
            go_quiet (fail)
            go_wp2
            go_roundg (gk - 1)
            case measure => omega
            case rel => exact ⟨k + 1, by omega, by go_num, fin, bdrewN hB1.out _, hbk.drewN _⟩
        · obtain rfl : k = s.labs.length := by omega
          have fin := hin.out
          rw [List.take_length] at fin
          have FIN := Lib.hid (HEAD.out ha.out fin)
          clear fin hlt hk
          go_wp2
          go_ret
          exact ⟨ret_bool (by rw [FIN.out]), hB.out⟩
end Go.Proofs.YteonpdnncodkaaaGreatDoor
