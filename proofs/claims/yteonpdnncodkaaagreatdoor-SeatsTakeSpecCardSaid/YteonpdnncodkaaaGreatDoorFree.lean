/- seats.free, seats.Free: their contracts. -/
import Derived.Test.YteonpdnncodkaaaGreatDoorSeat2
set_option linter.unusedVariables false
set_option linter.unusedSimpArgs false
namespace Go.Proofs.YteonpdnncodkaaaGreatDoor
open Go.RowKit

/-- What is free in all. -/
def allF (s : Sec) (L : List Seat) : Int := s.seats - L.length
/-- What is free for group g. -/
def resF (s : Sec) (L : List Seat) (now : Int) (g : Int) : Int := min (max (kept s g now - cn L g) 0) (allF s L)
def gsum (s : Sec) (L : List Seat) (now : Int) : Nat → Int
  | 0 => 0
  | k + 1 => gsum s L now k + max (kept s k now) (cn L k)
/-- The general seats that are free. -/
def genF (s : Sec) (L : List Seat) (now : Int) : Int := max (s.seats - cn L (-1) - gsum s L now 8) 0
def resC (s : Sec) (L : List Seat) (now : Int) (k i : Nat) : Int := if i < k then resF s L now i else 0
def resA (s : Sec) (L : List Seat) (now : Int) (k : Nat) : Array Value := #[.int .i64 (resC s L now k 0), .int .i64 (resC s L now k 1), .int .i64 (resC s L now k 2), .int .i64 (resC s L now k 3), .int .i64 (resC s L now k 4), .int .i64 (resC s L now k 5), .int .i64 (resC s L now k 6), .int .i64 (resC s L now k 7)]
/-- The array of what is reserved. -/
def resV (s : Sec) (L : List Seat) (now : Int) : Array Value := resA s L now 8
theorem resC_succ (s : Sec) (L : List Seat) (now : Int) (k i : Nat) : resC s L now (k + 1) i = if i = k then resF s L now k else resC s L now k i := by
  unfold resC
  by_cases h : i = k
  · subst h; rw [if_pos rfl, if_pos (by omega)]
  · rw [if_neg h]
    by_cases h2 : i < k
    · rw [if_pos h2, if_pos (by omega)]
    · rw [if_neg h2, if_neg (by omega)]
theorem resA_step (s : Sec) (L : List Seat) (now : Int) (k : Nat) (hk : k < 8) : resA s L now (k + 1) = (resA s L now k).setIfInBounds k (.int .i64 (resF s L now k)) := by
  have hk' : k = 0 ∨ k = 1 ∨ k = 2 ∨ k = 3 ∨ k = 4 ∨ k = 5 ∨ k = 6 ∨ k = 7 := by omega
  rcases hk' with rfl | rfl | rfl | rfl | rfl | rfl | rfl | rfl <;> (unfold resA; simp only [resC_succ]; simp)
theorem resA_get (s : Sec) (L : List Seat) (now : Int) (k i : Nat) (hi : i < 8) : (resA s L now k)[i]? = some (.int .i64 (resC s L now k i)) := by
  have hk' : i = 0 ∨ i = 1 ∨ i = 2 ∨ i = 3 ∨ i = 4 ∨ i = 5 ∨ i = 6 ∨ i = 7 := by omega
  rcases hk' with rfl | rfl | rfl | rfl | rfl | rfl | rfl | rfl <;> rfl
theorem cntA_get (l : List Seat) (i : Nat) (hi : i < 8) : (cntA l)[i]? = some (.int .i64 (cn l i)) := by
  have hk' : i = 0 ∨ i = 1 ∨ i = 2 ∨ i = 3 ∨ i = 4 ∨ i = 5 ∨ i = 6 ∨ i = 7 := by omega
  rcases hk' with rfl | rfl | rfl | rfl | rfl | rfl | rfl | rfl <;> rfl
theorem kept_bound {s : Sec} (h : Formed s) (g now : Int) : 0 ≤ kept s g now ∧ kept s g now ≤ 4096 := by
  unfold kept keptIn
  split
  · rename_i x hx
    have := h.2.2.2.2.2.1.2 x (List.mem_of_find?_eq_some hx)
    unfold gpFits at this
    split <;> omega
  · omega
theorem gsum_bound {s : Sec} (h : Formed s) {L : List Seat} (hL : L.length ≤ 140737488355328) (now : Int) (k : Nat) : 0 ≤ gsum s L now k ∧ gsum s L now k ≤ k * 140737488355328 := by
  induction k with
  | zero => exact ⟨by simp [gsum], by simp [gsum]⟩
  | succ k ih =>
    have h1 := kept_bound h k now
    have h2 := cn_bound L k
    simp only [gsum]
    constructor <;> omega

theorem Blk.c8 {w : World} {g : Nat} {t : TypeId} {v0 v1 v2 v3 v4 v5 v6 v7 : Value} (h : Blk w g t #[v0, v1, v2, v3, v4, v5, v6, v7]) : w.cell? ⟨g, 0, none⟩ = some v0 ∧ w.cell? ⟨g, 1, none⟩ = some v1 ∧ w.cell? ⟨g, 2, none⟩ = some v2 ∧ w.cell? ⟨g, 3, none⟩ = some v3 ∧ w.cell? ⟨g, 4, none⟩ = some v4 ∧ w.cell? ⟨g, 5, none⟩ = some v5 ∧ w.cell? ⟨g, 6, none⟩ = some v6 ∧ w.cell? ⟨g, 7, none⟩ = some v7 ∧ ∀ i, w.frozen? ⟨g, i, none⟩ = false := ⟨h.cell 0 rfl, h.cell 1 rfl, h.cell 2 rfl, h.cell 3 rfl, h.cell 4 rfl, h.cell 5 rfl, h.cell 6 rfl, h.cell 7 rfl, h.frozen⟩

set_option maxRecDepth 100000 in
set_option maxHeartbeats 4000000 in
theorem free_c (s : Sec) (A5 : Option Addr) (c5 : Nat) (A6 : Option Addr) (c6 : Nat) (A7 : Option Addr) (c7 : Nat) (B : Option Addr) (d : Nat) (taken : List Seat) (now : Int) (w : World) (h : SecIn w s A5 c5 A6 c6 A7 c7) (ht : RSeats w B taken) (hf : Formed s) :
    Calls Tryz.prog 18 #[.agg #[.int .i64 s.id, .int .i64 s.course, .int .i64 s.term, .int .i64 s.campus, .int .i64 s.seats, .slice A5 s.meets.length c5, .slice A6 s.groups.length c6, .slice A7 s.labs.length c7, .bool s.lab], .slice B taken.length d, .int .i64 now] w fun e w' => e = .returned (.tuple #[.int .i64 (allF s (ofSec taken s.id)), .int .i64 (genF s (ofSec taken s.id) now), .agg (resV s (ofSec taken s.id) now)]) ∧ Below w.heap.size w w' := by
  have H := Lib.hid h
  have HT := Lib.hid ht
  have hlt := ht.len
  have hll : (ofSec taken s.id).length ≤ taken.length := List.length_filter_le _ _
  have HF := Lib.hid hf
  have hse := wi_true.1 hf.2.2.2.2.1
  obtain ⟨hse0, hse1⟩ := hse
  clear h ht hf
  go_enter Tryz.func18, Tryz.ntmps18
  go_wp2_with fail
  have W0 : Below w.heap.size w ((w.alloc (.cells #[.int .i64 s.id, .int .i64 s.course, .int .i64 s.term, .int .i64 s.campus, .int .i64 s.seats, .slice A5 s.meets.length c5, .slice A6 s.groups.length c6, .slice A7 s.labs.length c7, .bool s.lab] 40)).alloc (.cells #[.int .i64 0, .int .i64 0, .int .i64 0, .int .i64 0, .int .i64 0, .int .i64 0, .int .i64 0, .int .i64 0] 51)) := by go_grown
  have K0 := (Blk.new w 40 #[.int .i64 s.id, .int .i64 s.course, .int .i64 s.term, .int .i64 s.campus, .int .i64 s.seats, .slice A5 s.meets.length c5, .slice A6 s.groups.length c6, .slice A7 s.labs.length c7, .bool s.lab]).alloc (.cells #[.int .i64 0, .int .i64 0, .int .i64 0, .int .i64 0, .int .i64 0, .int .i64 0, .int .i64 0, .int .i64 0] 51)
  have R0 := Blk.mk' (w.alloc (.cells #[.int .i64 s.id, .int .i64 s.course, .int .i64 s.term, .int .i64 s.campus, .int .i64 s.seats, .slice A5 s.meets.length c5, .slice A6 s.groups.length c6, .slice A7 s.labs.length c7, .bool s.lab] 40)) (w.heap.size + 1) (by simp) 51 #[.int .i64 0, .int .i64 0, .int .i64 0, .int .i64 0, .int .i64 0, .int .i64 0, .int .i64 0, .int .i64 0]
  refine (count_c B d taken s.id _ (HT.out.below W0)).mono ?_
  rintro e w1 ⟨rfl, hb1⟩
  have K1 := K0.kept hb1 K0.lt
  have R1 := R0.kept hb1 R0.lt
  have hB1 := Lib.hid (bthen W0 W0.size hb1)
  have hsz1 := R1.lt
  have hsz0 := K1.lt
  clear W0 K0 R0 hb1
  obtain ⟨L, hL⟩ : ∃ L, L = ofSec taken s.id := ⟨_, rfl⟩
  rw [← hL] at hll
  rw [← hL]
  have HL := Lib.hid hL
  clear hL
  obtain ⟨hm0, hm1⟩ := cn_bound L (-1)
  obtain ⟨b0, b1, b2, b3, b4, b5, b6, b7, b8, bf⟩ := K1.c9
  obtain ⟨al, hal⟩ : ∃ al, al = allF s L := ⟨_, rfl⟩
  have hal2 : al = s.seats - L.length := hal
  have hal3 : s.seats - (L.length : Int) = al := hal2.symm
  have HAL := Lib.hid hal
  clear hal hal2
  unfold cntA
  go_wp2
  go_loopg [7, 27] 8 (fun n ge i wr => ∃ k : Nat, n + k = 8 ∧ i = .int .i64 k ∧ ge = .int .i64 (s.seats - cn L (-1) - gsum s L now k) ∧ Blk wr w.heap.size 40 #[.int .i64 s.id, .int .i64 s.course, .int .i64 s.term, .int .i64 s.campus, .int .i64 s.seats, .slice A5 s.meets.length c5, .slice A6 s.groups.length c6, .slice A7 s.labs.length c7, .bool s.lab] ∧ Blk wr (w.heap.size + 1) 51 (resA s L now k) ∧ Blk wr w1.heap.size 73 (cntA L) ∧ Hid (Below w.heap.size w wr))
  case atStart => exact ⟨0, by omega, rfl, by simp [gsum], K1.alloc _, R1.alloc _, Blk.new _ _ _, by unfold Hid; have h := hB1.out; have hs := h.size; go_grown⟩
  case round =>
    clear hB1 b0 b1 b2 b3 b4 b5 b6 b7 b8 bf K1 R1
    obtain ⟨k, hk, rfl, rfl, K1, R1, C1, hB⟩ := hrel
    have hs1 := K1.lt
    have hs2 := R1.lt
    have hs3 := C1.lt
    by_cases hk8 : k < 8
    · have hk8' : (k : Int) < 8 := by omega
      have hk9 : (k : Int) < 9 := by omega
      have hwk : IntKind.i64.wrap (k : Int) = k := wrapi (by omega) (by omega)
      obtain ⟨b0, b1, b2, b3, b4, b5, b6, b7, b8, bf⟩ := K1.c9
      go_wp2_with fail
      refine (kept_c s A5 c5 A6 c6 A7 c7 k now _ (H.out.below hB.out)).mono ?_
      rintro e w2 ⟨rfl, hb2⟩
      have K2 := K1.kept hb2 K1.lt
      have R2 := R1.kept hb2 R1.lt
      have C2 := C1.kept hb2 C1.lt
      have hB2 := Lib.hid (bthen hB.out hB.out.size hb2)
      clear K1 R1 C1 hb2 hB hs1 hs2 hs3 b0 b1 b2 b3 b4 b5 b6 b7 b8 bf
      have hs1 := K2.lt
      have hs2 := R2.lt
      have hs3 := C2.lt
      have hs4 : w.heap.size ≤ w2.heap.size := hB2.out.size
      obtain ⟨hc0, hc1⟩ := cn_bound L k
      obtain ⟨hq0, hq1⟩ := kept_bound HF.out k now
      obtain ⟨ha0, ha1⟩ := gsum_bound HF.out (L := L) (by omega) now k
      have z0 : w2.cell? ⟨w1.heap.size, k, none⟩ = some (.int .i64 (cn L k)) := C2.cell k (cntA_get _ k hk8)
      have e1 : Addr.add ⟨w1.heap.size, 0, none⟩ k = ⟨w1.heap.size, k, none⟩ := add0 _ _
      have e2 : Addr.add ⟨w.heap.size + 1, 0, none⟩ k = ⟨w.heap.size + 1, k, none⟩ := add0 _ _
      have rf := R2.frozen
      have r0 := R2.cell k (resA_get s L now k k hk8)
      have hne1 : ¬ w1.heap.size = w.heap.size + 1 := by omega
      have hne2 : ¬ w.heap.size + 1 = w1.heap.size := by omega
      have hr : resF s L now k = min (max (kept s k now - cn L k) 0) al := by rw [HAL.out]; rfl
      have E1 := Lib.hid (resA_step s L now k hk8)
      rw [hr] at E1
      have E2 : Hid (gsum s L now (k + 1) = gsum s L now k + max (kept s k now) (cn L k)) := rfl
      clear hr
      obtain ⟨K, hK⟩ : ∃ K, K = kept s k now := ⟨_, rfl⟩
      obtain ⟨C, hC⟩ : ∃ C, C = cn L k := ⟨_, rfl⟩
      obtain ⟨G, hG⟩ : ∃ G, G = gsum s L now k := ⟨_, rfl⟩
      rw [← hK] at hq0 hq1 E1 E2
      rw [← hC] at hc0 hc1 z0 E1 E2
      rw [← hG] at ha0 ha1 E2
      rw [← hK, ← hG]
      have HC := Lib.hid hC
      clear hK hC hG
      by_cases hKC : C ≤ K
      · by_cases hal4 : K - C ≤ al
        · (
 have eV : min (max (K - C) 0) al = K - C := by omega
 have eM : max K C = K := by omega
 rw [eV] at E1
 rw [eM] at E2
 have R3 := R2.set k (.int .i64 (K - C))
 rw [← E1.out] at R3
 have K3 := K2.far (p := ⟨w.heap.size + 1, k, none⟩) (by simp) (.int .i64 (K - C))
 have C3 := C2.far (p := ⟨w.heap.size + 1, k, none⟩) (by simp; omega) (.int .i64 (K - C))
 have hB3 : Hid (Below w.heap.size w (w2.setCell ⟨w.heap.size + 1, k, none⟩ (.int .i64 (K - C)))) := hB2.out.setCell (p := ⟨w.heap.size + 1, k, none⟩) (by simp) _
 have z3 : (w2.setCell ⟨w.heap.size + 1, k, none⟩ (.int .i64 (K - C))).cell? ⟨w1.heap.size, k, none⟩ = some (.int .i64 C) := by have h := C3.cell k (cntA_get L k hk8); rw [← HC.out] at h; exact h
 clear K2 R2 C2 hB2 eV eM
 go_wp2_with fail
 go_roundg (gk - 1)
 case measure => omega
 case rel => exact ⟨k + 1, by omega, by go_num, (by rw [E2.out]; exact congrArg (Value.int .i64) (by omega)), K3, R3, C3, hB3⟩)
        · (
 have eV : min (max (K - C) 0) al = al := by omega
 have eM : max K C = K := by omega
 rw [eV] at E1
 rw [eM] at E2
 have R3 := R2.set k (.int .i64 (al))
 rw [← E1.out] at R3
 have K3 := K2.far (p := ⟨w.heap.size + 1, k, none⟩) (by simp) (.int .i64 (al))
 have C3 := C2.far (p := ⟨w.heap.size + 1, k, none⟩) (by simp; omega) (.int .i64 (al))
 have hB3 : Hid (Below w.heap.size w (w2.setCell ⟨w.heap.size + 1, k, none⟩ (.int .i64 (al)))) := hB2.out.setCell (p := ⟨w.heap.size + 1, k, none⟩) (by simp) _
 have z3 : (w2.setCell ⟨w.heap.size + 1, k, none⟩ (.int .i64 (al))).cell? ⟨w1.heap.size, k, none⟩ = some (.int .i64 C) := by have h := C3.cell k (cntA_get L k hk8); rw [← HC.out] at h; exact h
 clear K2 R2 C2 hB2 eV eM
 go_wp2_with fail
 go_roundg (gk - 1)
 case measure => omega
 case rel => exact ⟨k + 1, by omega, by go_num, (by rw [E2.out]; exact congrArg (Value.int .i64) (by omega)), K3, R3, C3, hB3⟩)
      · by_cases hal4 : 0 ≤ al
        · (
 have eV : min (max (K - C) 0) al = 0 := by omega
 have eM : max K C = C := by omega
 rw [eV] at E1
 rw [eM] at E2
 have R3 := R2.set k (.int .i64 (0))
 rw [← E1.out] at R3
 have K3 := K2.far (p := ⟨w.heap.size + 1, k, none⟩) (by simp) (.int .i64 (0))
 have C3 := C2.far (p := ⟨w.heap.size + 1, k, none⟩) (by simp; omega) (.int .i64 (0))
 have hB3 : Hid (Below w.heap.size w (w2.setCell ⟨w.heap.size + 1, k, none⟩ (.int .i64 (0)))) := hB2.out.setCell (p := ⟨w.heap.size + 1, k, none⟩) (by simp) _
 have z3 : (w2.setCell ⟨w.heap.size + 1, k, none⟩ (.int .i64 (0))).cell? ⟨w1.heap.size, k, none⟩ = some (.int .i64 C) := by have h := C3.cell k (cntA_get L k hk8); rw [← HC.out] at h; exact h
 clear K2 R2 C2 hB2 eV eM
 go_wp2_with fail
 go_roundg (gk - 1)
 case measure => omega
 case rel => exact ⟨k + 1, by omega, by go_num, (by rw [E2.out]; exact congrArg (Value.int .i64) (by omega)), K3, R3, C3, hB3⟩)
        · (
 have eV : min (max (K - C) 0) al = al := by omega
 have eM : max K C = C := by omega
 rw [eV] at E1
 rw [eM] at E2
 have R3 := R2.set k (.int .i64 (al))
 rw [← E1.out] at R3
 have K3 := K2.far (p := ⟨w.heap.size + 1, k, none⟩) (by simp) (.int .i64 (al))
 have C3 := C2.far (p := ⟨w.heap.size + 1, k, none⟩) (by simp; omega) (.int .i64 (al))
 have hB3 : Hid (Below w.heap.size w (w2.setCell ⟨w.heap.size + 1, k, none⟩ (.int .i64 (al)))) := hB2.out.setCell (p := ⟨w.heap.size + 1, k, none⟩) (by simp) _
 have z3 : (w2.setCell ⟨w.heap.size + 1, k, none⟩ (.int .i64 (al))).cell? ⟨w1.heap.size, k, none⟩ = some (.int .i64 C) := by have h := C3.cell k (cntA_get L k hk8); rw [← HC.out] at h; exact h
 clear K2 R2 C2 hB2 eV eM
 go_wp2_with fail
 go_roundg (gk - 1)
 case measure => omega
 case rel => exact ⟨k + 1, by omega, by go_num, (by rw [E2.out]; exact congrArg (Value.int .i64) (by omega)), K3, R3, C3, hB3⟩)
    · obtain rfl : k = 8 := by omega
      have hr : genF s L now = max (s.seats - cn L (-1) - gsum s L now 8) 0 := rfl
      obtain ⟨G, hG⟩ : ∃ G, G = s.seats - cn L (-1) - gsum s L now 8 := ⟨_, rfl⟩
      have HR := Lib.hid hr
      rw [← hG] at HR
      rw [← hG]
      clear hr hG
      rw [show (8 : Nat) = 8 from rfl] at R1
      obtain ⟨v0, v1, v2, v3, v4, v5, v6, v7, hv, H8⟩ : ∃ v0 v1 v2 v3 v4 v5 v6 v7, resV s L now = #[.int .i64 v0, .int .i64 v1, .int .i64 v2, .int .i64 v3, .int .i64 v4, .int .i64 v5, .int .i64 v6, .int .i64 v7] ∧ Blk wr (w.heap.size + 1) 51 #[.int .i64 v0, .int .i64 v1, .int .i64 v2, .int .i64 v3, .int .i64 v4, .int .i64 v5, .int .i64 v6, .int .i64 v7] := ⟨_, _, _, _, _, _, _, _, rfl, R1⟩
      have HV := Lib.hid hv
      clear hv R1
      obtain ⟨z0, z1, z2, z3, z4, z5, z6, z7, zf⟩ := H8.c8
      by_cases hG0 : 0 ≤ G
      · (
 go_wp2_with fail
 go_still_tail 6, (by kernel_rfl)
 change wpList _ _ _ _ _ wr.drew
 obtain ⟨W, hW⟩ : ∃ W, wr.drew = W := ⟨_, rfl⟩
 have K9 : Blk W (w.heap.size + 1) 51 #[.int .i64 v0, .int .i64 v1, .int .i64 v2, .int .i64 v3, .int .i64 v4, .int .i64 v5, .int .i64 v6, .int .i64 v7] := by rw [← hW]; exact H8.drew
 have hBW : Hid (Below w.heap.size w W) := by unfold Hid; rw [← hW]; exact bdrewN hB.out 1
 rw [hW]
 clear hW z0 z1 z2 z3 z4 z5 z6 z7 zf H8 hB
 obtain ⟨z0, z1, z2, z3, z4, z5, z6, z7, zf⟩ := K9.c8
 go_wp2_with fail
 obtain ⟨Wf, hWf⟩ : ∃ Wf, (((((((W.setCell ⟨w.heap.size + 1, 0, none⟩ (.int .i64 v0)).setCell ⟨w.heap.size + 1, 1, none⟩ (.int .i64 v1)).setCell ⟨w.heap.size + 1, 2, none⟩ (.int .i64 v2)).setCell ⟨w.heap.size + 1, 3, none⟩ (.int .i64 v3)).setCell ⟨w.heap.size + 1, 4, none⟩ (.int .i64 v4)).setCell ⟨w.heap.size + 1, 5, none⟩ (.int .i64 v5)).setCell ⟨w.heap.size + 1, 6, none⟩ (.int .i64 v6)).setCell ⟨w.heap.size + 1, 7, none⟩ (.int .i64 v7) = Wf := ⟨_, rfl⟩
 have kf : Blk Wf (w.heap.size + 1) 51 #[.int .i64 v0, .int .i64 v1, .int .i64 v2, .int .i64 v3, .int .i64 v4, .int .i64 v5, .int .i64 v6, .int .i64 v7] := by rw [← hWf]; exact ((((((((K9.same 0 rfl).same 1 rfl).same 2 rfl).same 3 rfl).same 4 rfl).same 5 rfl).same 6 rfl).same 7 rfl)
 have hBf : Below w.heap.size w Wf := by
   have h := hBW.out
   rw [← hWf]
   go_grown
 rw [hWf]
 obtain ⟨y0, y1, y2, y3, y4, y5, y6, y7, _⟩ := kf.c8
 refine bodyPost_ret (by simp only [results, Tryz.results18]; go_simp <;> rfl) rfl ?_
 exact ⟨by rw [← HL.out, HV.out, HR.out, show max G 0 = G by omega, ← HAL.out], hBf⟩)
      · (
 go_wp2_with fail
 go_still_tail 6, (by kernel_rfl)
 change wpList _ _ _ _ _ wr.drew
 obtain ⟨W, hW⟩ : ∃ W, wr.drew = W := ⟨_, rfl⟩
 have K9 : Blk W (w.heap.size + 1) 51 #[.int .i64 v0, .int .i64 v1, .int .i64 v2, .int .i64 v3, .int .i64 v4, .int .i64 v5, .int .i64 v6, .int .i64 v7] := by rw [← hW]; exact H8.drew
 have hBW : Hid (Below w.heap.size w W) := by unfold Hid; rw [← hW]; exact bdrewN hB.out 1
 rw [hW]
 clear hW z0 z1 z2 z3 z4 z5 z6 z7 zf H8 hB
 obtain ⟨z0, z1, z2, z3, z4, z5, z6, z7, zf⟩ := K9.c8
 go_wp2_with fail
 obtain ⟨Wf, hWf⟩ : ∃ Wf, (((((((W.setCell ⟨w.heap.size + 1, 0, none⟩ (.int .i64 v0)).setCell ⟨w.heap.size + 1, 1, none⟩ (.int .i64 v1)).setCell ⟨w.heap.size + 1, 2, none⟩ (.int .i64 v2)).setCell ⟨w.heap.size + 1, 3, none⟩ (.int .i64 v3)).setCell ⟨w.heap.size + 1, 4, none⟩ (.int .i64 v4)).setCell ⟨w.heap.size + 1, 5, none⟩ (.int .i64 v5)).setCell ⟨w.heap.size + 1, 6, none⟩ (.int .i64 v6)).setCell ⟨w.heap.size + 1, 7, none⟩ (.int .i64 v7) = Wf := ⟨_, rfl⟩
 have kf : Blk Wf (w.heap.size + 1) 51 #[.int .i64 v0, .int .i64 v1, .int .i64 v2, .int .i64 v3, .int .i64 v4, .int .i64 v5, .int .i64 v6, .int .i64 v7] := by rw [← hWf]; exact ((((((((K9.same 0 rfl).same 1 rfl).same 2 rfl).same 3 rfl).same 4 rfl).same 5 rfl).same 6 rfl).same 7 rfl)
 have hBf : Below w.heap.size w Wf := by
   have h := hBW.out
   rw [← hWf]
   go_grown
 rw [hWf]
 obtain ⟨y0, y1, y2, y3, y4, y5, y6, y7, _⟩ := kf.c8
 refine bodyPost_ret (by simp only [results, Tryz.results18]; go_simp <;> rfl) rfl ?_
 exact ⟨by rw [← HL.out, HV.out, HR.out, show max G 0 = 0 by omega, ← HAL.out], hBf⟩)
end Go.Proofs.YteonpdnncodkaaaGreatDoor
