/- The references of layers 22 and 23 that only read: their contracts. -/
import Derived.Test.YteonpdnncodkaaaGreatDoorLeaf
set_option linter.unusedVariables false
set_option linter.unusedSimpArgs false
namespace Go.Proofs.YteonpdnncodkaaaGreatDoor
open Go.RowKit

/-- What Find hands back. -/
def FindR (w w' : World) (o : Option Sec) (e : Ending) : Prop :=
  ∃ A5 c5 A6 c6 A7 c7, e = .returned (.tuple #[.agg #[.int .i64 (o.getD Sec.zero).id, .int .i64 (o.getD Sec.zero).course, .int .i64 (o.getD Sec.zero).term, .int .i64 (o.getD Sec.zero).campus, .int .i64 (o.getD Sec.zero).seats, .slice A5 (o.getD Sec.zero).meets.length c5, .slice A6 (o.getD Sec.zero).groups.length c6, .slice A7 (o.getD Sec.zero).labs.length c7, .bool (o.getD Sec.zero).lab], .bool o.isSome]) ∧ SecIn w' (o.getD Sec.zero) A5 c5 A6 c6 A7 c7 ∧ Below w.heap.size w w'

theorem SecIn.zero (w : World) : SecIn w Sec.zero none 0 none 0 none 0 := ⟨Rd.nil _ _ _ _, Rd.nil _ _ _ _, Rd.nil _ _ _ _, Nat.le_refl _, Nat.le_refl _, Nat.le_refl _⟩

theorem find_none_take {l : List Sec} {id : Int} {k : Nat} (hlt : k < l.length) (h : find (l.take k) id = none) (h2 : ¬ l[k].id = id) : find (l.take (k + 1)) id = none := by
  unfold find at *
  rw [List.take_succ_eq_append_getElem hlt, List.find?_append, h]
  simp [h2]
theorem find_some_take {l : List Sec} {id : Int} {k : Nat} (hlt : k < l.length) (h : find (l.take k) id = none) (h2 : l[k].id = id) : find l id = some l[k] := by
  unfold find at *
  conv => lhs; rw [← List.take_append_drop k l]
  rw [List.find?_append, h, List.drop_eq_getElem_cons hlt, List.find?_cons_of_pos (by simp [h2])]
  rfl

set_option maxHeartbeats 1000000 in
theorem find23_c (A : Option Addr) (c : Nat) (l : List Sec) (id : Int) (w : World) (h : RSecs w A l) :
    Calls Tryz.prog 48 #[.slice A l.length c, .int .i64 id] w fun e w' => FindR w w' (find l id) e := by
  have hl := h.len
  have H := Lib.hid h
  clear h
  go_enter Tryz.func48, Tryz.ntmps48
  go_wp2
  go_loopg [6] l.length (fun n i wr => ∃ k : Nat, n + k = l.length ∧ i = .int .i64 k ∧ Hid (find (l.take k) id = none) ∧ Hid (Below w.heap.size w wr) ∧ Blk wr w.heap.size 40 #[.int .i64 0, .int .i64 0, .int .i64 0, .int .i64 0, .int .i64 0, .slice none 0 0, .slice none 0 0, .slice none 0 0, .bool false])
  case atStart => exact ⟨0, by omega, rfl, by simp [Hid, find], by unfold Hid; go_grown, Blk.new _ _ _⟩
  case round =>
    obtain ⟨k, hk, rfl, ha, hB, hbk⟩ := hrel
    have b0 := hbk.cell 0 rfl
    have b1 := hbk.cell 1 rfl
    have b2 := hbk.cell 2 rfl
    have b3 := hbk.cell 3 rfl
    have b4 := hbk.cell 4 rfl
    have b5 := hbk.cell 5 rfl
    have b6 := hbk.cell 6 rfl
    have b7 := hbk.cell 7 rfl
    have b8 := hbk.cell 8 rfl
    have bf := hbk.frozen
    by_cases hlt : k < l.length
    · obtain ⟨ad, A5, c5, A6, c6, A7, c7, rfl, hs, f0, f1, f2, f3, f4, f5, f6, f7, f8⟩ := H.out.at hB.out k hlt
      by_cases hid : l[k].id = id
      · have q : (l[k].id == id) = true := by simp [hid]
        have fin := Lib.hid (find_some_take hlt ha.out hid)
        have hs' := Lib.hid hs
        clear hid hs
        go_wp2
        refine bodyPost_ret (by simp only [results, Tryz.results48]; go_simp <;> rfl) rfl ?_
        rw [fin.out]
        refine ⟨A5, c5, A6, c6, A7, c7, rfl, hs'.out.below ?_, ?_⟩ <;> (have hB' := hB.out; go_grown)
      · have q : (l[k].id == id) = false := by simp [hid]
        have fin := Lib.hid (find_none_take hlt ha.out hid)
        clear hid hs
        go_wp2
        go_roundg (gk - 1)
        case measure => omega
        case rel => exact ⟨k + 1, by omega, by go_num, fin, hB, hbk⟩
    · obtain rfl : k = l.length := by omega
      go_wp2
      refine bodyPost_ret (by simp only [results, Tryz.results48]; go_simp <;> rfl) rfl ?_
      have e : find l id = none := by have := ha.out; rwa [List.take_length] at this
      rw [e]
      refine ⟨none, 0, none, 0, none, 0, rfl, SecIn.zero _, ?_⟩
      have hB' := hB.out; go_grown

theorem keptIn_none_take {l : List Gp} {g now : Int} {k : Nat} (hlt : k < l.length) (h : (l.take k).find? (fun x => x.g == g) = none) (h2 : ¬ l[k].g = g) : (l.take (k + 1)).find? (fun x => x.g == g) = none := by
  rw [List.take_succ_eq_append_getElem hlt, List.find?_append, h]
  simp [h2]
theorem keptIn_some_take {l : List Gp} {g now : Int} {k : Nat} (hlt : k < l.length) (h : (l.take k).find? (fun x => x.g == g) = none) (h2 : l[k].g = g) : keptIn l g now = if now < l[k].u then l[k].s else 0 := by
  unfold keptIn
  have e : l.find? (fun x => x.g == g) = some l[k] := by
    conv => lhs; rw [← List.take_append_drop k l]
    rw [List.find?_append, h, List.drop_eq_getElem_cons hlt, List.find?_cons_of_pos (by simp [h2])]
    rfl
  rw [e]

set_option maxHeartbeats 1000000 in
theorem kept23_c (s : Sec) (A5 : Option Addr) (c5 : Nat) (A6 : Option Addr) (c6 : Nat) (A7 : Option Addr) (c7 : Nat) (g now : Int) (w : World) (h : SecIn w s A5 c5 A6 c6 A7 c7) :
    Calls Tryz.prog 71 #[.agg #[.int .i64 s.id, .int .i64 s.course, .int .i64 s.term, .int .i64 s.campus, .int .i64 s.seats, .slice A5 s.meets.length c5, .slice A6 s.groups.length c6, .slice A7 s.labs.length c7, .bool s.lab], .int .i64 g, .int .i64 now] w fun e w' => e = .returned (.int .i64 (kept s g now)) ∧ Below w.heap.size w w' := by
  have hl := h.g.len
  have H := Lib.hid h.g
  clear h
  go_enter Tryz.func71, Tryz.ntmps71
  go_wp2
  go_loopg [7] s.groups.length (fun n i wr => ∃ k : Nat, n + k = s.groups.length ∧ i = .int .i64 k ∧ Hid ((s.groups.take k).find? (fun x => x.g == g) = none) ∧ Hid (Below w.heap.size w wr) ∧ Blk wr w.heap.size 40 #[.int .i64 s.id, .int .i64 s.course, .int .i64 s.term, .int .i64 s.campus, .int .i64 s.seats, .slice A5 s.meets.length c5, .slice A6 s.groups.length c6, .slice A7 s.labs.length c7, .bool s.lab])
  case atStart => exact ⟨0, by omega, rfl, by simp [Hid], by unfold Hid; go_grown, Blk.new _ _ _⟩
  case round =>
    obtain ⟨k, hk, rfl, ha, hB, hbk⟩ := hrel
    have b6 : wr.cell? ⟨w.heap.size, 6, none⟩ = some (.slice A6 s.groups.length c6) := hbk.cell 6 rfl
    by_cases hlt : k < s.groups.length
    · obtain ⟨ad, rfl, f0, f1, f2⟩ := H.out.at hB.out k hlt
      by_cases hid : s.groups[k].g = g
      · have q : (s.groups[k].g == g) = true := by simp [hid]
        have fin := Lib.hid (keptIn_some_take (now := now) hlt ha.out hid)
        clear hid
        by_cases hn : now < s.groups[k].u
        all_goals
          go_wp2
          go_ret
          refine ⟨ret_i64 ?_, hB.out⟩
          unfold kept
          rw [fin.out]
          first | rw [if_pos (by omega)] | rw [if_neg (by omega)]
      · have q : (s.groups[k].g == g) = false := by simp [hid]
        have fin := Lib.hid (keptIn_none_take (now := now) hlt ha.out hid)
        clear hid
        go_wp2
        go_roundg (gk - 1)
        case measure => omega
        case rel => exact ⟨k + 1, by omega, by go_num, fin, hB, hbk⟩
    · obtain rfl : k = s.groups.length := by omega
      go_wp2
      go_ret
      refine ⟨ret_i64 ?_, hB.out⟩
      have := ha.out
      rw [List.take_length] at this
      unfold kept keptIn
      rw [this]

/-! ### layer 22: Check -/

set_option maxHeartbeats 2000000 in
set_option maxRecDepth 100000 in
theorem check22_c (A : Option Addr) (c : Nat) (l : List Mt) (w : World) (h : RMts w A l) :
    Calls Tryz.prog 69 #[.slice A l.length c] w fun e w' => e = .returned (.int .i64 (meetCheck l)) ∧ Below w.heap.size w w' := by
  have hl := h.len
  have H := Lib.hid h
  clear h
  by_cases hlong : 16 < l.length
  · have fin := Lib.hid (meetCheck_long hlong)
    go_enter Tryz.func69, Tryz.ntmps69
    go_wp2
    go_ret
    exact ⟨ret_i64 fin.out.symm, Below.refl _ _⟩
  go_enter Tryz.func69, Tryz.ntmps69
  go_wp2
  go_loopg [3] l.length (fun n i wr => ∃ k : Nat, n + k = l.length ∧ i = .int .i64 k ∧ Hid (MOk (l.take k)) ∧ Hid (Below w.heap.size w wr))
  case atStart => exact ⟨0, by omega, rfl, by simp [Hid, MOk], by unfold Hid; go_grown⟩
  case round =>
    obtain ⟨i, hk, rfl, ha, hB⟩ := hrel
    obtain ⟨n1, rfl⟩ : ∃ n1, n1 = gk := ⟨_, rfl⟩
    obtain ⟨wo, rfl⟩ : ∃ wo, wo = wr := ⟨_, rfl⟩
    by_cases hlt : i < l.length
    · obtain ⟨ad, rfl, f0, f1, f2, f3, f4⟩ := H.out.at hB.out i hlt
      go_wp2_with fail
      refine (Valid22_c l[i] _).mono ?_
      rintro e w1 ⟨rfl, hb1⟩
      have hB1 := Lib.hid (hB.out.trans (hb1.mono hB.out.size))
      clear hb1 hB f0 f1 f2 f3 f4
      by_cases hv : l[i].ok = true
      · go_wp2
        go_loopg [4] i (fun n j wq => ∃ k : Nat, n + k = i ∧ j = .int .i64 k ∧ Hid (∀ q, (hq : q < k) → (hi : k ≤ i) → (l[q]'(by omega)).meets l[i] = false) ∧ Hid (Below w.heap.size w wq))
        case atStart => exact ⟨0, by omega, rfl, by intro q hq; omega, hB1⟩
        case round =>
          obtain ⟨k, hk2, rfl, hc, hB2⟩ := hrel
          by_cases hlt2 : k < i
          · obtain ⟨_, e1, f0, f1, f2, f3, f4⟩ := H.out.at hB2.out i hlt
            obtain rfl := Option.some.inj e1
            obtain ⟨_, e1, g0, g1, g2, g3, g4⟩ := H.out.at hB2.out k (by omega)
            obtain rfl := Option.some.inj e1
            have hlt3 : k < l.length := by omega
            go_wp2_with fail
            go_still_tail 8, (by kernel_rfl)
            change wpList _ _ _ _ _ wr.drew
            have hb2 := Lib.hid hB2.out.drew
            generalize wr.drew = w2 at *
            go_wp2_with fail
            refine (Over22_c l[k] l[i] _).mono ?_
            rintro e w3 ⟨rfl, hb3⟩
            have hB3 := Lib.hid (hb2.out.trans (hb3.mono hb2.out.size))
            clear hb3
            cases ho : l[k].meets l[i]
            · have fin : ∀ q, (hq : q < k + 1) → (hi : k + 1 ≤ i) → (l[q]'(by omega)).meets l[i] = false := by
                intro q hq hi
                by_cases e : q = k
                · subst e; exact ho
                · exact hc.out q (by omega) (by omega)
              have Fin := Lib.hid fin
              clear fin ho
              go_wp2
              go_roundg (gk - 1)
              case measure => omega
              case rel => exact ⟨k + 1, by omega, by go_num, Fin, hB3⟩
            · have fin := Lib.hid (meetCheck_clash hlt2 hlt ho)
              clear ho
              go_wp2
              go_ret
              exact ⟨ret_i64 fin.out.symm, hB3.out⟩
          · obtain rfl : k = i := by omega
            have fin := Lib.hid (MOk.step hlt ha.out hv (fun q hq => hc.out q hq (Nat.le_refl _)))
            clear hv
            go_wp2
            go_roundg (n1 - 1)
            case measure => omega
            case rel => exact ⟨k + 1, by omega, by go_num, fin, hB2⟩
      · have hv' : l[i].ok = false := by simpa using hv
        have fin := Lib.hid (meetCheck_invalid hlt hv')
        rw [hv']
        clear hv hv'
        go_wp2
        go_ret
        exact ⟨ret_i64 fin.out.symm, hB1.out⟩
    · obtain rfl : i = l.length := by omega
      have fin := Lib.hid (meetCheck_ok (l := l) (by omega) (by have := ha.out; rwa [List.take_length] at this))
      go_wp2
      go_ret
      exact ⟨ret_i64 fin.out.symm, hB.out⟩
end Go.Proofs.YteonpdnncodkaaaGreatDoor
