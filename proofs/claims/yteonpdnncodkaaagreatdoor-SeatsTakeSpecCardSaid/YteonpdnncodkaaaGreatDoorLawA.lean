/- The helpers of the laws of layer 25 that only read: their contracts. -/
import Derived.Test.YteonpdnncodkaaaGreatDoorLeave
set_option linter.unusedVariables false
set_option linter.unusedSimpArgs false
namespace Go.Proofs.YteonpdnncodkaaaGreatDoor
open Go.RowKit

/-- count. -/
def cntS (T : List Seat) (sec g : Int) : Int := (T.countP fun x => x.sec == sec && (g == -2 || x.grp == g) : Nat)
theorem cntS_snoc (T : List Seat) (x : Seat) (sec g : Int) : cntS (T ++ [x]) sec g = cntS T sec g + if (x.sec == sec && (g == -2 || x.grp == g)) = true then 1 else 0 := by
  unfold cntS
  rw [List.countP_append]
  cases h : (x.sec == sec && (g == -2 || x.grp == g)) <;> simp [h]
theorem cntS_bound (T : List Seat) (sec g : Int) : 0 ≤ cntS T sec g ∧ cntS T sec g ≤ T.length := by
  unfold cntS
  have := List.countP_le_length (p := fun x : Seat => x.sec == sec && (g == -2 || x.grp == g)) (l := T)
  omega
theorem cntS_all (T : List Seat) (sec : Int) : cntS T sec (-2) = (ofSec T sec).length := by
  unfold cntS ofSec
  rw [List.countP_eq_length_filter]
  congr 3
  funext x
  simp
theorem cntS_grp (T : List Seat) (sec g : Int) (hg : g ≠ -2) : cntS T sec g = cn (ofSec T sec) g := by
  unfold cntS cn ofSec
  rw [List.countP_filter]
  congr 2
  funext x
  have : (g == -2) = false := by simp [hg]
  rw [this, Bool.false_or, Bool.and_comm]

/-- Few. -/
def fewSec25 (s : Sec) : Bool := decide (s.meets.length ≤ 20 ∧ s.groups.length ≤ 12 ∧ s.labs.length ≤ 12)
def few25 (l : List Sec) (T : List Seat) : Bool := decide (l.length ≤ 8 ∧ T.length ≤ 40) && l.all fewSec25
theorem few25_true {l : List Sec} {T : List Seat} (h : few25 l T = true) : l.length ≤ 8 ∧ T.length ≤ 40 := by
  unfold few25 at h
  rw [Bool.and_eq_true, decide_eq_true_eq] at h
  exact h.1

set_option maxRecDepth 100000 in
set_option maxHeartbeats 2000000 in
theorem few25_c (A : Option Addr) (c : Nat) (l : List Sec) (B : Option Addr) (d : Nat) (T : List Seat) (w : World) (h : RSecs w A l) (hT : T.length ≤ 140737488355328) :
    Calls Tryz.prog 5 #[.slice A l.length c, .slice B T.length d] w fun e w' => e = .returned (.bool (few25 l T)) ∧ w = w' := by
  have hl := h.len
  have H := Lib.hid h
  clear h
  by_cases hs : l.length ≤ 8 ∧ T.length ≤ 40
  case neg =>
    have fin : Hid (few25 l T = false) := by unfold Hid few25; rw [decide_eq_false hs]; rfl
    have hs2 : 8 < l.length ∨ (l.length ≤ 8 ∧ 40 < T.length) := by omega
    clear hs
    rcases hs2 with hs | ⟨hs, hs2⟩
    all_goals
      go_enter Tryz.func5, Tryz.ntmps5
      go_wp2
      go_ret
      exact ⟨ret_bool fin.out.symm, rfl⟩
  have HS := Lib.hid hs
  obtain ⟨hs1, hs2⟩ := hs
  go_enter Tryz.func5, Tryz.ntmps5
  go_wp2
  go_loopg [5] l.length (fun n i wr => ∃ k : Nat, n + k = l.length ∧ i = .int .i64 k ∧ w = wr ∧ Hid ((l.take k).all fewSec25 = true))
  case atStart => exact ⟨0, by omega, rfl, rfl, by simp [Hid]⟩
  case round =>
    obtain ⟨k, hk, rfl, rfl, ha⟩ := hrel
    by_cases hlt : k < l.length
    · obtain ⟨ad, A5, c5, A6, c6, A7, c7, rfl, hs, f0, f1, f2, f3, f4, f5, f6, f7, f8⟩ := H.out.at (Below.refl _ _) k hlt
      clear hs
      have no : fewSec25 l[k] = false → Ending.returned (.bool false) = .returned (.bool (few25 l T)) := fun h => ret_bool (by
        unfold few25
        rw [List.all_eq_false.2 ⟨_, List.getElem_mem hlt, by simp [h]⟩, Bool.and_false])
      have yes : fewSec25 l[k] = true → (l.take (k + 1)).all fewSec25 = true := fun h => by
        rw [List.take_succ_eq_append_getElem hlt, List.all_append, ha.out]; simp [h]
      have No := Lib.hid no
      have Yes := Lib.hid yes
      clear no yes
      go_wp2
      all_goals first
        | (go_roundg (gk - 1)
           case measure => omega
           case rel => exact ⟨k + 1, by omega, by go_num, rfl, Yes.out (by simp [fewSec25]; omega)⟩)
        | (go_ret; exact ⟨No.out (by simp [fewSec25]; omega), rfl⟩)
    · obtain rfl : k = l.length := by omega
      have fin : few25 l T = true := by
        have := ha.out
        rw [List.take_length] at this
        unfold few25; rw [this, decide_eq_true HS.out]; rfl
      have Fin := Lib.hid fin
      clear fin
      go_wp2
      go_ret
      exact ⟨ret_bool Fin.out.symm, rfl⟩

/-- Same. -/
def sameS (a b : List Seat) : Bool := decide (a = b)
set_option maxRecDepth 100000 in
set_option maxHeartbeats 2000000 in
theorem same25_c (A : Option Addr) (c : Nat) (a : List Seat) (B : Option Addr) (d : Nat) (b : List Seat) (w : World) (h : RSeats w A a) (k : RSeats w B b) :
    Calls Tryz.prog 10 #[.slice A a.length c, .slice B b.length d] w fun e w' => e = .returned (.bool (sameS a b)) ∧ Below w.heap.size w w' := by
  have hla := h.len
  have hlb := k.len
  have H := Lib.hid h
  have K := Lib.hid k
  clear h k
  by_cases hl : a.length = b.length
  case neg =>
    have fin : Hid (sameS a b = false) := decide_eq_false (fun e => hl (by rw [e]))
    have d1 : ((a.length : Int) != (b.length : Int)) = true := by rw [bne_iff_ne]; omega
    clear hl
    go_enter Tryz.func10, Tryz.ntmps10
    go_wp2
    go_ret
    exact ⟨ret_bool fin.out.symm, Below.refl _ _⟩
  have HL := Lib.hid hl
  have d1 : ((a.length : Int) != (b.length : Int)) = false := by rw [hl]; simp
  clear hl
  go_enter Tryz.func10, Tryz.ntmps10
  go_wp2
  clear d1
  go_loopg [5] a.length (fun n i wr => ∃ k : Nat, n + k = a.length ∧ i = .int .i64 k ∧ Hid (a.take k = b.take k) ∧ Hid (Below w.heap.size w wr))
  case atStart => exact ⟨0, by omega, rfl, rfl, Below.refl _ _⟩
  case round =>
    obtain ⟨k, hk, rfl, ha, hB⟩ := hrel
    by_cases hlt : k < a.length
    · have hlt2 : k < b.length := by rw [← HL.out]; exact hlt
      obtain ⟨ad, rfl, f0, f1, f2⟩ := H.out.at hB.out k hlt
      obtain ⟨bd, rfl, g0, g1, g2⟩ := K.out.at hB.out k hlt2
      obtain ⟨x, hx⟩ : ∃ x, x = a[k] := ⟨_, rfl⟩
      obtain ⟨y, hy⟩ : ∃ y, y = b[k] := ⟨_, rfl⟩
      rw [← hx] at f0 f1 f2
      rw [← hy] at g0 g1 g2
      have HX := Lib.hid hx
      have HY := Lib.hid hy
      clear hx hy
      have hyes : Hid (x = y → a.take (k + 1) = b.take (k + 1)) := by
        intro e
        rw [List.take_succ_eq_append_getElem hlt, List.take_succ_eq_append_getElem hlt2, ha.out, ← HX.out, ← HY.out, e]
      have hno : Hid (x ≠ y → sameS a b = false) := by
        intro e
        refine decide_eq_false (fun e2 => e ?_)
        rw [HX.out, HY.out]
        subst e2
        rfl
      by_cases hxy : x = y
      · have fin := Lib.hid (hyes.out hxy)
        subst hxy
        go_wp2_with fail
        go_quiet (fail)
        go_wp2
        go_roundg (gk - 1)
        case measure => omega
        case rel => exact ⟨k + 1, by omega, by go_num, fin, bdrewN hB.out _⟩
      · have fin := Lib.hid (hno.out hxy)
        have hne : (x.stu == y.stu) = false ∨ ((x.stu == y.stu) = true ∧ (x.sec == y.sec) = false) ∨ ((x.stu == y.stu) = true ∧ (x.sec == y.sec) = true ∧ (x.grp == y.grp) = false) := by
          by_cases h1 : x.stu = y.stu
          · by_cases h2 : x.sec = y.sec
            · by_cases h3 : x.grp = y.grp
              · exact absurd (by cases x; cases y; simp_all) hxy
              · exact .inr (.inr ⟨by simp [h1], by simp [h2], by simp [h3]⟩)
            · exact .inr (.inl ⟨by simp [h1], by simp [h2]⟩)
          · exact .inl (by simp [h1])
        clear hxy
        rcases hne with h1 | ⟨h1, h2⟩ | ⟨h1, h2, h3⟩
        all_goals
          go_wp2_with fail
          go_quiet (fail)
          go_wp2
          go_ret
          exact ⟨ret_bool fin.out.symm, bdrewN hB.out _⟩
    · obtain rfl : k = a.length := by omega
      have fin : Hid (sameS a b = true) := by
        have := ha.out
        rw [List.take_length, HL.out, List.take_length] at this
        exact decide_eq_true this
      go_wp2
      go_ret
      exact ⟨ret_bool fin.out.symm, hB.out⟩
end Go.Proofs.YteonpdnncodkaaaGreatDoor
