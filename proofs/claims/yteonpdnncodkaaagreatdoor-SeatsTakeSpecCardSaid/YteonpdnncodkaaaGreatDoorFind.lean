/- sections.Find and sections.Kept, with what they hand to slices.IndexFunc: their contracts. -/
import Derived.Test.YteonpdnncodkaaaGreatDoorRef1
set_option linter.unusedVariables false
set_option linter.unusedSimpArgs false
namespace Go.Proofs.YteonpdnncodkaaaGreatDoor
open Go.RowKit

theorem kept1_c (x : Gp) (g : Int) (B : Nat) (w : World) (hB : B < w.heap.size) (hb : w.cell? ⟨B, 0, none⟩ = some (.int .i64 g)) :
    Calls Tryz.prog 63 #[.agg #[.int .i64 x.g, .int .i64 x.s, .int .i64 x.u], .pointer (some ⟨B, 0, none⟩)] w fun e w' => e = .returned (.bool (x.g == g)) ∧ Below w.heap.size w w' := by
  go_enter Tryz.func63, Tryz.ntmps63
  go_wp2
  go_ret
  exact ⟨rfl, by go_grown⟩

set_option maxHeartbeats 1000000 in
theorem idxGp_c (A : Option Addr) (c : Nat) (l : List Gp) (g : Int) (B : Nat) (w : World) (h : RGps w A l) (hB0 : B < w.heap.size) (hb : w.cell? ⟨B, 0, none⟩ = some (.int .i64 g)) :
    Calls Tryz.prog 62 #[.slice A l.length c, .func (.func 63) #[] #[.pointer (some ⟨B, 0, none⟩)]] w fun e w' => e = .returned (.int .i64 (idx (fun x => x.g == g) l)) ∧ Below w.heap.size w w' := by
  have hl := h.len
  have H := Lib.hid h
  have HB := Lib.hid hb
  clear h hb
  go_enter Tryz.func62, Tryz.ntmps62
  go_wp2
  go_loopg [8] l.length (fun n i wr => ∃ k : Nat, n + k = l.length ∧ i = .int .i64 k ∧ Hid (∀ q, (hq : q < k) → (hk : k ≤ l.length) → ((l[q]'(by omega)).g == g) = false) ∧ Hid (Below w.heap.size w wr))
  case atStart => exact ⟨0, by omega, rfl, by intro q hq; omega, by unfold Hid; go_grown⟩
  case round =>
    obtain ⟨k, hk, rfl, ha, hB⟩ := hrel
    by_cases hlt : k < l.length
    · obtain ⟨ad, rfl, f0, f1, f2⟩ := H.out.at hB.out k hlt
      go_wp2_with fail
      refine (kept1_c l[k] g B _ (Nat.lt_of_lt_of_le hB0 hB.out.size) (cell_kept hB.out HB.out)).mono ?_
      rintro e w1 ⟨rfl, hb1⟩
      have hB1 := Lib.hid (hB.out.trans (hb1.mono hB.out.size))
      clear hb1 hB
      cases hp : l[k].g == g
      · have fin := Lib.hid (fun q (hq : q < k + 1) (_ : k + 1 ≤ l.length) => idx_none_step (p := fun x => x.g == g) hlt (fun q hq => ha.out q hq (by omega)) hp q hq)
        clear hp
        go_wp2
        go_roundg (gk - 1)
        case measure => omega
        case rel => exact ⟨k + 1, by omega, by go_num, fin, hB1⟩
      · have fin := Lib.hid (idx_some (p := fun x => x.g == g) hlt (fun q hq => ha.out q hq (by omega)) hp)
        clear hp
        go_wp2
        go_ret
        exact ⟨ret_i64 fin.out.symm, hB1.out⟩
    · obtain rfl : k = l.length := by omega
      have fin := Lib.hid (idx_none (p := fun x => x.g == g) (fun q hq => ha.out q hq (Nat.le_refl _)))
      go_wp2
      go_ret
      exact ⟨ret_i64 fin.out.symm, hB.out⟩

set_option maxHeartbeats 1000000 in
theorem kept_c (s : Sec) (A5 : Option Addr) (c5 : Nat) (A6 : Option Addr) (c6 : Nat) (A7 : Option Addr) (c7 : Nat) (g now : Int) (w : World) (h : SecIn w s A5 c5 A6 c6 A7 c7) :
    Calls Tryz.prog 41 #[.agg #[.int .i64 s.id, .int .i64 s.course, .int .i64 s.term, .int .i64 s.campus, .int .i64 s.seats, .slice A5 s.meets.length c5, .slice A6 s.groups.length c6, .slice A7 s.labs.length c7, .bool s.lab], .int .i64 g, .int .i64 now] w fun e w' => e = .returned (.int .i64 (kept s g now)) ∧ Below w.heap.size w w' := by
  have hl := h.g.len
  have H := Lib.hid h.g
  clear h
  go_enter Tryz.func41, Tryz.ntmps41
  go_wp2_with fail
  have W0 : Below w.heap.size w ((w.alloc (.cells #[.int .i64 s.id, .int .i64 s.course, .int .i64 s.term, .int .i64 s.campus, .int .i64 s.seats, .slice A5 s.meets.length c5, .slice A6 s.groups.length c6, .slice A7 s.labs.length c7, .bool s.lab] 40)).alloc (.cells #[.int .i64 g] 3)) := by go_grown
  have K0 := (Blk.new w 40 #[.int .i64 s.id, .int .i64 s.course, .int .i64 s.term, .int .i64 s.campus, .int .i64 s.seats, .slice A5 s.meets.length c5, .slice A6 s.groups.length c6, .slice A7 s.labs.length c7, .bool s.lab]).alloc (.cells #[.int .i64 g] 3)
  refine (idxGp_c A6 c6 s.groups g _ _ (H.out.below W0) (by simp) (by simp)).mono ?_
  rintro e w1 ⟨rfl, hb1⟩
  have K1 := K0.kept hb1 (by simp <;> omega)
  have hB1 := Lib.hid (W0.trans (hb1.mono W0.size))
  have b6 : w1.cell? ⟨w.heap.size, 6, none⟩ = some (.slice A6 s.groups.length c6) := K1.cell 6 rfl
  clear W0 K0 K1 hb1
  rcases idx_cases (fun x => x.g == g) s.groups with ⟨hi, hn⟩ | ⟨k, hk, hi, hp, hq⟩
  · have fin := Lib.hid (keptIn_idx_none now hn)
    rw [hi]
    clear hi hn
    go_wp2
    go_ret
    exact ⟨ret_i64 fin.out.symm, hB1.out⟩
  · have fin := Lib.hid (keptIn_idx now hk hp hq)
    rw [hi]
    clear hi hp hq
    obtain ⟨ad, rfl, f0, f1, f2⟩ := H.out.at hB1.out k hk
    by_cases hn : now < s.groups[k].u
    all_goals
      go_wp2
      go_ret
      refine ⟨ret_i64 ?_, hB1.out⟩
      unfold kept
      rw [fin.out]
      first | rw [if_pos (by omega)] | rw [if_neg (by omega)]

/-! ### sections.Find -/
theorem find1_c (s : Sec) (v5 v6 v7 : Value) (id : Int) (B : Nat) (w : World) (hv5 : v5.oneCell' = true) (hv6 : v6.oneCell' = true) (hv7 : v7.oneCell' = true) (hB : B < w.heap.size) (hb : w.cell? ⟨B, 0, none⟩ = some (.int .i64 id)) :
    Calls Tryz.prog 39 #[.agg #[.int .i64 s.id, .int .i64 s.course, .int .i64 s.term, .int .i64 s.campus, .int .i64 s.seats, v5, v6, v7, .bool s.lab], .pointer (some ⟨B, 0, none⟩)] w fun e w' => e = .returned (.bool (s.id == id)) ∧ Below w.heap.size w w' := by
  go_enter Tryz.func39, Tryz.ntmps39
  have HB := Lib.hid hb
  go_wp2_with fail
  go_region_with (go_at_call 40; refine (number_c s.id s.course s.term s.campus s.seats v5 v6 v7 (.bool s.lab) _).mono ?_; rintro e w1 ⟨rfl, hb1⟩; have b1 : w1.cell? ⟨B, 0, none⟩ = some (.int .i64 id) := cell_kept hb1 (cell_kept (show Below w.heap.size w _ by go_grown) HB.out); have hB1 := Lib.hid (show Below w.heap.size w w1 from bthen (by go_grown) (by simp) hb1); clear hb1)
  all_goals
    go_wp2
    go_ret
    exact ⟨rfl, by have h := hB1.out; go_grown⟩

set_option maxHeartbeats 1000000 in
theorem idxSec_c (A : Option Addr) (c : Nat) (l : List Sec) (id : Int) (B : Nat) (w : World) (h : RSecs w A l) (hB0 : B < w.heap.size) (hb : w.cell? ⟨B, 0, none⟩ = some (.int .i64 id)) :
    Calls Tryz.prog 38 #[.slice A l.length c, .func (.func 39) #[] #[.pointer (some ⟨B, 0, none⟩)]] w fun e w' => e = .returned (.int .i64 (idx (fun x => x.id == id) l)) ∧ Below w.heap.size w w' := by
  have hl := h.len
  have H := Lib.hid h
  have HB := Lib.hid hb
  clear h hb
  go_enter Tryz.func38, Tryz.ntmps38
  go_wp2
  go_loopg [8] l.length (fun n i wr => ∃ k : Nat, n + k = l.length ∧ i = .int .i64 k ∧ Hid (∀ q, (hq : q < k) → (hk : k ≤ l.length) → ((l[q]'(by omega)).id == id) = false) ∧ Hid (Below w.heap.size w wr))
  case atStart => exact ⟨0, by omega, rfl, by intro q hq; omega, by unfold Hid; go_grown⟩
  case round =>
    obtain ⟨k, hk, rfl, ha, hB⟩ := hrel
    by_cases hlt : k < l.length
    · obtain ⟨ad, A5, c5, A6, c6, A7, c7, rfl, hs, f0, f1, f2, f3, f4, f5, f6, f7, f8⟩ := H.out.at hB.out k hlt
      clear hs
      go_wp2_with fail
      refine (find1_c l[k] _ _ _ id B _ rfl rfl rfl (Nat.lt_of_lt_of_le hB0 hB.out.size) (cell_kept hB.out HB.out)).mono ?_
      rintro e w1 ⟨rfl, hb1⟩
      have hB1 := Lib.hid (bthen hB.out hB.out.size hb1)
      clear hb1 hB f0 f1 f2 f3 f4 f5 f6 f7 f8
      cases hp : l[k].id == id
      · have fin := Lib.hid (fun q (hq : q < k + 1) (_ : k + 1 ≤ l.length) => idx_none_step (p := fun x => x.id == id) hlt (fun q hq => ha.out q hq (by omega)) hp q hq)
        clear hp
        go_wp2
        go_roundg (gk - 1)
        case measure => omega
        case rel => exact ⟨k + 1, by omega, by go_num, fin, hB1⟩
      · have fin := Lib.hid (idx_some (p := fun x => x.id == id) hlt (fun q hq => ha.out q hq (by omega)) hp)
        clear hp
        go_wp2
        go_ret
        exact ⟨ret_i64 fin.out.symm, hB1.out⟩
    · obtain rfl : k = l.length := by omega
      have fin := Lib.hid (idx_none (p := fun x => x.id == id) (fun q hq => ha.out q hq (Nat.le_refl _)))
      go_wp2
      go_ret
      exact ⟨ret_i64 fin.out.symm, hB.out⟩

set_option maxHeartbeats 1000000 in
theorem find_c (A : Option Addr) (c : Nat) (l : List Sec) (id : Int) (w : World) (h : RSecs w A l) :
    Calls Tryz.prog 17 #[.slice A l.length c, .int .i64 id] w fun e w' => FindR w w' (find l id) e := by
  have hl := h.len
  have H := Lib.hid h
  clear h
  go_enter Tryz.func17, Tryz.ntmps17
  go_wp2_with fail
  have W0 : Below w.heap.size w ((w.alloc (.cells #[.int .i64 id] 3)).alloc (.cells #[.int .i64 0, .int .i64 0, .int .i64 0, .int .i64 0, .int .i64 0, .slice none 0 0, .slice none 0 0, .slice none 0 0, .bool false] 40)) := by go_grown
  have K0 := Blk.mk' (w.alloc (.cells #[.int .i64 id] 3)) (w.heap.size + 1) (by simp) 40 #[.int .i64 0, .int .i64 0, .int .i64 0, .int .i64 0, .int .i64 0, .slice none 0 0, .slice none 0 0, .slice none 0 0, .bool false]
  refine (idxSec_c A c l id w.heap.size _ (H.out.below W0) (by simp <;> omega) (by simp [World.cell?_alloc_past])).mono ?_
  rintro e w1 ⟨rfl, hb1⟩
  have K1 := K0.kept hb1 (by simp <;> omega)
  have hB1 := Lib.hid (bthen W0 W0.size hb1)
  obtain ⟨b0, b1, b2, b3, b4, b5, b6, b7, b8, bf⟩ := K1.c9
  clear W0 K0 K1 hb1
  rcases idx_cases (fun x => x.id == id) l with ⟨hi, hn⟩ | ⟨k, hk, hi, hp, hq⟩
  · have fin := Lib.hid (find_idx_none hn)
    rw [hi]
    clear hi hn
    go_wp2
    refine bodyPost_ret (by simp only [results, Tryz.results17]; go_simp <;> rfl) rfl ?_
    rw [fin.out]
    refine ⟨none, 0, none, 0, none, 0, rfl, SecIn.zero _, ?_⟩
    have hB' := hB1.out; go_grown
  · have fin := Lib.hid (find_idx hk hp hq)
    rw [hi]
    clear hi hp hq
    obtain ⟨ad, A5, c5, A6, c6, A7, c7, rfl, hs, f0, f1, f2, f3, f4, f5, f6, f7, f8⟩ := H.out.at hB1.out k hk
    have hs' := Lib.hid hs
    clear hs
    go_wp2
    refine bodyPost_ret (by simp only [results, Tryz.results17]; go_simp <;> rfl) rfl ?_
    rw [fin.out]
    refine ⟨A5, c5, A6, c6, A7, c7, rfl, hs'.out.below ?_, ?_⟩ <;> (have hB' := hB1.out; go_grown)
end Go.Proofs.YteonpdnncodkaaaGreatDoor
