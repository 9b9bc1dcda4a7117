/- slices.Insert of one seat into a row that the call has made itself: the contract, all roads. -/
import Derived.Test.YteonpdnncodkaaaGreatDoorIns2
import Derived.Test.YteonpdnncodkaaaGreatDoorIns3
set_option linter.unusedVariables false
set_option linter.unusedSimpArgs false
namespace Go.Proofs.YteonpdnncodkaaaGreatDoor
open Go.RowKit

theorem grown_of_below {w w' : World} (h : Below w.heap.size w w') (row : Option Nat) : w.grownBy w' row := ⟨h.os, h.tape, h.output, h.size, fun k hk _ => h.block k hk⟩
theorem OwnS.below {B : Nat} {w w' : World} {v : Value} {l : List Seat} (h : OwnS B w v l) (hb : Below w.heap.size w w') : OwnS B w' v l := World.ownsRow.kept h (grown_of_below hb none) (by
  cases hv : v.ownBlock with
  | none => exact .inl rfl
  | some g => exact .inr (by simp))
theorem OwnS.reach {B : Nat} {w : World} {v : Value} {l : List Seat} (h : OwnS B w v l) : ∀ k, v.ownBlock = some k → B ≤ k ∧ k < w.heap.size := fun k hk => World.ownsRow.lt h k hk
/-- A block of another type is not the row's. -/
theorem OwnS.apart {B : Nat} {w : World} {v : Value} {l : List Seat} (h : OwnS B w v l) {b : Nat} {t : TypeId} {cs : Array Value} (hb : Blk w b t cs) (ht : t ≠ 44) : some b ≠ v.ownBlock := by
  rcases h.cases with ⟨rfl, _⟩ | ⟨g, cap, rest, rfl, _, hg, _⟩
  · simp [Value.ownBlock]
  · intro e
    simp only [Value.ownBlock, Option.some.injEq] at e
    subst e
    rw [hb.is] at hg
    simp only [Option.some.injEq, Obj.cells.injEq] at hg
    exact ht hg.2.1
theorem grown_setRow {w W : World} {g : Nat} {cs : Array Value} (h : w.grownBy W (some g)) : w.grownBy (W.setRow g cs) (some g) :=
  ⟨by rw [setRow_os]; exact h.os, by rw [setRow_tape]; exact h.tape, by rw [setRow_output]; exact h.output, by rw [setRow_size]; exact h.size, fun k hk hn => by rw [setRow_other _ _ _ _ (fun e => hn (by rw [e]))]; exact h.block k hk hn⟩

set_option maxHeartbeats 1000000 in
theorem ins_c (B : Nat) (v : Value) (l : List Seat) (x : Seat) (i vb : Nat) (w : World) (hBw : B ≤ w.heap.size) (h : OwnS B w v l) (hb : l.length ≤ 999999) (hi : i ≤ l.length) (hvb : v.ownBlock ≠ some vb) (hx : Blk w vb 44 #[.int .i64 x.stu, .int .i64 x.sec, .int .i64 x.grp]) :
    Calls Tryz.prog 23 #[v, .int .i64 i, .slice (some ⟨vb, 0, none⟩) 1 1] w fun e w' => ∃ v', e = .returned v' ∧ OwnS B w' v' (insS l i x) ∧ w.grownBy w' v.ownBlock := by
  by_cases hil : i = l.length
  · subst hil
    refine (insEnd_c B v l x vb w hBw h (by omega) hx).mono ?_
    rintro e w' ⟨v', rfl, ho, hg⟩
    refine ⟨v', rfl, ?_, hg⟩
    have e : insS l l.length x = l ++ [x] := by unfold insS; simp
    rw [e]; exact ho
  · rcases h.cases with ⟨_, rfl⟩ | ⟨g, cap, rest, rfl, hB, hg, hl, hm⟩
    · simp at hi; simp at hil; omega
    · have hgv : vb ≠ g := fun e => hvb (by rw [e]; rfl)
      by_cases hroom : l.length + 1 ≤ cap
      · refine (insShift_c g cap i vb l x rest w (by omega) hroom hm hgv hg hl hx).mono ?_
        rintro e w' ⟨rfl, cs, rfl, hcs⟩
        refine ⟨_, rfl, ?_, grown_setRow ⟨rfl, rfl, rfl, Nat.le_refl _, fun _ _ _ => rfl⟩⟩
        have e := setRow_heap w.drew g _ cs _ _ hg
        rw [show cs = (cellsS (insS l i x) ++ rest.drop 3).toArray by rw [← hcs]] at e ⊢
        rw [← insS_length hi x]
        exact OwnS.mk hB e (by rw [insS_length hi, List.length_drop]; omega) hm
      · refine (insGrow_c g cap i vb l x rest w (by omega) (by omega) (by omega) (by omega) hg hx).mono ?_
        rintro e w' ⟨G, r, rfl, hh, hr, hGm, hbel⟩
        refine ⟨_, rfl, ?_, grown_of_below hbel _⟩
        rw [← insS_length hi x]
        exact OwnS.mk hBw hh (by rw [insS_length hi]; omega) hGm
end Go.Proofs.YteonpdnncodkaaaGreatDoor
