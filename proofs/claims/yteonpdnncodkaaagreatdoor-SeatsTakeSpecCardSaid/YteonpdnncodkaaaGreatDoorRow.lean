/- Rows of seats that a call has made itself; slices.Clone of seats. -/
import Derived.Test.YteonpdnncodkaaaGreatDoorParts
import Derived.Laws.AppendOwn
import Derived.Laws.CopyRow
import Derived.Lib.SliceRun
set_option linter.unusedVariables false
set_option linter.unusedSimpArgs false
namespace Go.Proofs.YteonpdnncodkaaaGreatDoor
open Go.RowKit

def cellsS (l : List Seat) : List Value := l.flatMap stC
theorem cellsS_nil : cellsS [] = [] := rfl
theorem cellsS_append (a b : List Seat) : cellsS (a ++ b) = cellsS a ++ cellsS b := by simp [cellsS]
theorem cellsS_length (l : List Seat) : (cellsS l).length = l.length * 3 := by
  induction l with
  | nil => rfl
  | cons x t ih => simp only [cellsS, List.flatMap_cons, List.length_append, List.length_cons] at ih ⊢; rw [ih]; simp [stC]; omega
theorem cellsS_split (l : List Seat) (n : Nat) : cellsS l = cellsS (l.take n) ++ cellsS (l.drop n) := by rw [← cellsS_append, List.take_append_drop]
theorem cellsS_take (l : List Seat) (n : Nat) : cellsS (l.take n) = (cellsS l).take (n * 3) := by
  by_cases h : n ≤ l.length
  · rw [cellsS_split l n, List.take_left' (by rw [cellsS_length, List.length_take]; omega)]
  · rw [List.take_of_length_le (by omega), List.take_of_length_le (by rw [cellsS_length]; omega)]
theorem cellsS_drop (l : List Seat) (n : Nat) : cellsS (l.drop n) = (cellsS l).drop (n * 3) := by
  by_cases h : n ≤ l.length
  · rw [cellsS_split l n, List.drop_left' (by rw [cellsS_length, List.length_take]; omega)]
  · rw [List.drop_eq_nil_of_le (by omega), List.drop_eq_nil_of_le (by rw [cellsS_length]; omega)]; rfl
theorem cellsS_get (l : List Seat) (k j : Nat) (hk : k < l.length) (hj : j < 3) : (cellsS l)[k * 3 + j]? = (stC l[k])[j]? := by
  have e : l = l.take k ++ (l[k] :: l.drop (k + 1)) := by rw [← List.drop_eq_getElem_cons hk, List.take_append_drop]
  conv => lhs; rw [e, cellsS_append]
  rw [List.getElem?_append_right (by rw [cellsS_length, List.length_take]; omega), cellsS_length, List.length_take, show k * 3 + j - min k l.length * 3 = j by omega]
  show ((stC l[k]) ++ cellsS (l.drop (k + 1)))[j]? = _
  rw [List.getElem?_append_left (by simp [stC]; omega)]
theorem cellsS_one (l : List Seat) : ∀ u ∈ cellsS l, u.oneCell' = true := by
  intro u hu
  obtain ⟨s, _, hs⟩ := List.mem_flatMap.1 hu
  simp only [stC, List.mem_cons, List.not_mem_nil, or_false] at hs
  rcases hs with rfl | rfl | rfl <;> rfl
theorem cellOf_add (a : Addr) (k j : Nat) : cellOf (a.add k) j = a.add (k + j) := by
  obtain ⟨b, o, s⟩ := a
  unfold cellOf Addr.add
  by_cases h : j = 0
  · subst h; simp
  · by_cases hk : k = 0
    · subst hk; simp [h]
    · have : ¬ k + j = 0 := by omega
      simp [h, hk, Nat.add_assoc]
theorem RSeats.cells {w : World} {ad : Addr} {l : List Seat} (h : RSeats w (some ad) l) : ∀ j u, (cellsS l)[j]? = some u → w.cell? (ad.add j) = some u := by
  intro j u hu
  have hj : j < l.length * 3 := by
    have := (List.getElem?_eq_some_iff.1 hu).1
    rwa [cellsS_length] at this
  have hk : j / 3 < l.length := by omega
  obtain ⟨ad', cs, e, hl, rfl, hc⟩ := h.2 (j / 3) hk
  cases e
  have e : j = j / 3 * 3 + j % 3 := by omega
  rw [e, cellsS_get l (j / 3) (j % 3) hk (by omega)] at hu
  obtain ⟨h1, h2⟩ := List.getElem?_eq_some_iff.1 hu
  have := hc (j % 3) h1
  rw [cellOf_add, ← e, h2] at this
  exact this
theorem RSeats.of_cells {w : World} {ad : Addr} {l : List Seat} (hb : l.length * 3 ≤ 140737488355328) (h : ∀ j u, (cellsS l)[j]? = some u → w.cell? (ad.add j) = some u) : RSeats w (some ad) l :=
  ⟨hb, fun k hk => ⟨ad, stC l[k], rfl, rfl, rfl, fun j hj => by
    rw [cellOf_add]
    refine h _ _ ?_
    rw [cellsS_get l k j hk (by simpa [stC] using hj), List.getElem?_eq_getElem hj]⟩⟩

/-- v is a row of seats that the call has made itself (blocks from B on). -/
def OwnS (B : Nat) (w : World) (v : Value) (l : List Seat) : Prop := w.ownsRow B 44 3 v l.length (cellsS l)
theorem OwnS.shape {B : Nat} {w : World} {v : Value} {l : List Seat} (h : OwnS B w v l) : ∃ A c, v = .slice A l.length c := by
  rcases h.2 with ⟨rfl, h0⟩ | ⟨g, cap, cur, rfl, _⟩
  · exact ⟨none, 0, by rw [h0]⟩
  · exact ⟨_, _, rfl⟩
theorem OwnS.reads {B : Nat} {w : World} {A : Option Addr} {n c : Nat} {l : List Seat} (h : OwnS B w (.slice A n c) l) (hb : l.length * 3 ≤ 140737488355328) : n = l.length ∧ RSeats w A l := by
  rcases h.2 with ⟨e, h0⟩ | ⟨g, cap, cur, e, hB, hg, hn, hm, hc, hx⟩
  · cases e
    have : l = [] := List.eq_nil_of_length_eq_zero h0
    subst this
    exact ⟨rfl, Rd.nil _ _ _ _⟩
  · cases e
    refine ⟨rfl, RSeats.of_cells hb (fun j u hu => ?_)⟩
    rw [add0]
    rw [← hx, List.getElem?_take] at hu
    split at hu
    · simp only [World.cell?, hg]
      simpa using hu
    · cases hu
end Go.Proofs.YteonpdnncodkaaaGreatDoor
