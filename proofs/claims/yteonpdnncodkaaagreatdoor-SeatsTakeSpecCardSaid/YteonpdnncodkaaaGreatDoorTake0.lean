/- What seats.Take computes, step by step, over numbers and lists alone. -/
import Derived.Test.YteonpdnncodkaaaGreatDoorPlain
set_option linter.unusedVariables false
set_option linter.unusedSimpArgs false
namespace Go.Proofs.YteonpdnncodkaaaGreatDoor

theorem groupsOk_nil : groupsOk [] := ⟨by simp, .nil⟩
theorem groupsOk_step {groups : List Int} {k : Nat} (hk : k < groups.length) : groupsOk (groups.take (k + 1)) ↔ groupsOk (groups.take k) ∧ 0 ≤ groups[k] ∧ groups[k] < 8 ∧ ∀ h : 0 < k, groups[k - 1]'(by omega) < groups[k] := by
  rw [List.take_succ_eq_append_getElem hk]
  constructor
  · rintro ⟨h1, h2⟩
    rw [List.pairwise_append] at h2
    refine ⟨⟨fun g hg => h1 g (List.mem_append.2 (.inl hg)), h2.1⟩, (h1 _ (List.mem_append.2 (.inr (List.mem_singleton.2 rfl)))).1, (h1 _ (List.mem_append.2 (.inr (List.mem_singleton.2 rfl)))).2, fun h0 => ?_⟩
    refine h2.2.2 _ ?_ _ (by simp)
    rw [List.mem_take_iff_getElem]
    exact ⟨k - 1, by omega, rfl⟩
  · rintro ⟨⟨h1, h2⟩, h3, h4, h5⟩
    refine ⟨fun g hg => ?_, List.pairwise_append.2 ⟨h2, List.pairwise_singleton _ _, fun a ha b hb => ?_⟩⟩
    · rcases List.mem_append.1 hg with hg | hg
      · exact h1 g hg
      · rw [List.mem_singleton.1 hg]; exact ⟨h3, h4⟩
    · rw [List.mem_singleton.1 hb]
      obtain ⟨i, hi, rfl⟩ := List.mem_iff_getElem.1 ha
      have hi' : i < k := by rw [List.length_take] at hi; omega
      have h6 := h5 (by omega)
      rw [List.getElem_take]
      by_cases e : i = k - 1
      · subst e; exact h6
      · have := List.pairwise_iff_getElem.1 h2 i (k - 1) hi (by rw [List.length_take]; omega) (by omega)
        rw [List.getElem_take, List.getElem_take] at this
        omega
def okG (stu : Int) (groups : List Int) : Bool := decide (0 ≤ stu ∧ stu < 20000 ∧ groupsOk groups)
theorem okG_step {stu : Int} {groups : List Int} {k : Nat} (hk : k < groups.length) : okG stu (groups.take (k + 1)) = (okG stu (groups.take k) && decide (0 ≤ groups[k] ∧ groups[k] < 8 ∧ ∀ h : 0 < k, groups[k - 1]'(by omega) < groups[k])) := by
  unfold okG
  rw [Bool.eq_iff_iff]
  simp only [decide_eq_true_eq, Bool.and_eq_true, groupsOk_step hk]
  constructor
  · rintro ⟨a, b, c, d⟩; exact ⟨⟨a, b, c⟩, d⟩
  · rintro ⟨⟨a, b, c⟩, d⟩; exact ⟨a, b, c, d⟩

def takeN (l : List Sec) (T : List Seat) (stu : Int) (groups : List Int) (now : Int) (ps : List Int) : Nat → Option (List Seat)
  | 0 => some T
  | k + 1 => match takeN l T stu groups now ps k with
    | none => none
    | some L => match ps[k]? with
      | none => none
      | some p => takeOne l L stu p groups now
section
variable {l : List Sec} {T : List Seat} {stu sec lab : Int} {groups : List Int} {now : Int}
theorem takeN_succ {ps : List Int} {k : Nat} {L : List Seat} {p : Int} (hk : ps[k]? = some p) (h : takeN l T stu groups now ps k = some L) : takeN l T stu groups now ps (k + 1) = takeOne l L stu p groups now := by
  simp only [takeN]
  rw [h]
  simp only
  rw [hk]
theorem takeE_1 (h : seatCheck l T ≠ 0) : takeE l T stu sec lab groups now = seatCheck l T := by unfold takeE; rw [if_pos h]
theorem takeE_2 (h1 : seatCheck l T = 0) (h : bunCheck l sec lab ≠ 0) : takeE l T stu sec lab groups now = bunCheck l sec lab := by unfold takeE; rw [if_neg (by simp [h1]), if_pos h]
theorem takeE_3 (h1 : seatCheck l T = 0) (h2 : bunCheck l sec lab = 0) (h : okG stu groups = false) : takeE l T stu sec lab groups now = 1 := by unfold takeE; rw [if_neg (by simp [h1]), if_neg (by simp [h2]), if_pos (of_decide_eq_false h)]
theorem takeE_4 (h1 : seatCheck l T = 0) (h2 : bunCheck l sec lab = 0) (h3 : okG stu groups = true) (h : hasAny T stu (partsB sec lab) = true) : takeE l T stu sec lab groups now = 250 := by
  unfold takeE; rw [if_neg (by simp [h1]), if_neg (by simp [h2]), if_neg (by have := of_decide_eq_true h3; exact fun h => h this), if_pos h]
theorem takeE_tail (h1 : seatCheck l T = 0) (h2 : bunCheck l sec lab = 0) (h3 : okG stu groups = true) (h4 : hasAny T stu (partsB sec lab) = false) : takeE l T stu sec lab groups now = (match takeOne l T stu sec groups now with
  | none => 251
  | some x => if lab = -1 then 0 else
    match takeOne l x stu lab groups now with
    | none => 251
    | some _ => 0) := by
  unfold takeE; rw [if_neg (by simp [h1]), if_neg (by simp [h2]), if_neg (by have := of_decide_eq_true h3; exact fun h => h this), if_neg (by simp [h4])]; rfl
theorem parts_cases (sec lab : Int) : (lab = -1 ∧ partsB sec lab = [sec]) ∨ (lab ≠ -1 ∧ partsB sec lab = [sec, lab]) := by
  unfold partsB
  by_cases h : lab = -1
  · exact .inl ⟨h, if_pos h⟩
  · exact .inr ⟨h, if_neg h⟩
theorem takeN_none (h1 : seatCheck l T = 0) (h2 : bunCheck l sec lab = 0) (h3 : okG stu groups = true) (h4 : hasAny T stu (partsB sec lab) = false) {k : Nat} {L : List Seat} {p : Int} (hk : (partsB sec lab)[k]? = some p) (hL : takeN l T stu groups now (partsB sec lab) k = some L) (h : takeOne l L stu p groups now = none) : takeE l T stu sec lab groups now = 251 := by
  rw [takeE_tail h1 h2 h3 h4]
  rcases parts_cases sec lab with ⟨e, hp⟩ | ⟨e, hp⟩
  · simp only [hp] at *
    obtain rfl : k = 0 := by have := (List.getElem?_eq_some_iff.1 hk).1; simp at this; omega
    simp only [List.getElem?_cons_zero, Option.some.injEq] at hk
    subst hk
    simp only [takeN, Option.some.injEq] at hL
    subst hL
    rw [h]
  · simp only [hp] at *
    have hk' : k = 0 ∨ k = 1 := by have := (List.getElem?_eq_some_iff.1 hk).1; simp at this; omega
    rcases hk' with rfl | rfl <;> simp only [List.getElem?_cons_zero, List.getElem?_cons_succ, Option.some.injEq] at hk <;> subst hk
    · simp only [takeN, Option.some.injEq] at hL
      subst hL
      rw [h]
    · simp only [takeN, List.getElem?_cons_zero] at hL
      rw [hL]
      simp only
      rw [if_neg e, h]
theorem takeN_some (h1 : seatCheck l T = 0) (h2 : bunCheck l sec lab = 0) (h3 : okG stu groups = true) (h4 : hasAny T stu (partsB sec lab) = false) {L : List Seat} (hL : takeN l T stu groups now (partsB sec lab) (partsB sec lab).length = some L) : takeE l T stu sec lab groups now = 0 ∧ takeX l T stu sec lab groups now = L := by
  have hE : takeE l T stu sec lab groups now = 0 ∧ (match takeOne l T stu sec groups now with
    | none => []
    | some x => if lab = -1 then x else (takeOne l x stu lab groups now).getD []) = L := by
    rw [takeE_tail h1 h2 h3 h4]
    rcases parts_cases sec lab with ⟨e, hp⟩ | ⟨e, hp⟩
    · simp only [hp, List.length_cons, List.length_nil, takeN, List.getElem?_cons_zero] at hL
      rw [hL]
      simp [e]
    · simp only [hp, List.length_cons, List.length_nil, takeN, List.getElem?_cons_zero, List.getElem?_cons_succ] at hL
      cases h5 : takeOne l T stu sec groups now with
      | none => rw [h5] at hL; cases hL
      | some x =>
        rw [h5] at hL
        simp only at hL ⊢
        rw [hL]
        simp [e]
  refine ⟨hE.1, ?_⟩
  unfold takeX
  rw [if_neg (by simp [hE.1])]
  exact hE.2
theorem takeN_ok (h1 : seatCheck l T = 0) (h2 : bunCheck l sec lab = 0) (h3 : okG stu groups = true) (h4 : hasAny T stu (partsB sec lab) = false) {k : Nat} {L : List Seat} {p : Int} (hk : (partsB sec lab)[k]? = some p) (hL : takeN l T stu groups now (partsB sec lab) k = some L) : L.Pairwise seatLt ∧ L.length ≤ T.length + 2 ∧ ∃ s, find l p = some s ∧ Formed s := by
  obtain ⟨h0, hv⟩ := seatCheck_zero h1
  obtain ⟨_, s, hf, hsl, hlab⟩ := bunCheck_zero h2
  have hF := formed_of h0 (find_mem hf).1
  rcases parts_cases sec lab with ⟨e, hp⟩ | ⟨e, hp⟩
  · simp only [hp] at *
    obtain rfl : k = 0 := by have := (List.getElem?_eq_some_iff.1 hk).1; simp at this; omega
    simp only [List.getElem?_cons_zero, Option.some.injEq] at hk
    subst hk
    simp only [takeN, Option.some.injEq] at hL
    subst hL
    exact ⟨hv.2.1, by omega, s, hf, hF⟩
  · have h4' := hasAny_false.1 h4
    simp only [hp] at hk hL ⊢
    have hk' : k = 0 ∨ k = 1 := by have := (List.getElem?_eq_some_iff.1 hk).1; simp at this; omega
    rcases hk' with rfl | rfl <;> simp only [List.getElem?_cons_zero, List.getElem?_cons_succ, Option.some.injEq] at hk <;> subst hk
    · simp only [takeN, Option.some.injEq] at hL
      subst hL
      exact ⟨hv.2.1, by omega, s, hf, hF⟩
    · simp only [takeN, List.getElem?_cons_zero] at hL
      rw [takeOne_eq hf] at hL
      rcases hlab with ⟨hlab, _⟩ | ⟨_, _, t, ht, _⟩
      · exact absurd hlab e
      · cases h5 : pick s (ofSec T sec) groups now with
        | none => rw [h5] at hL; cases hL
        | some g =>
          rw [h5] at hL
          simp only [Option.map_some, Option.some.injEq] at hL
          subst hL
          refine ⟨addS_sorted hv.2.1 (fun y hy hk => ?_), by rw [addS_length]; omega, t, ht, formed_of h0 (find_mem ht).1⟩
          have := h4' y hy
          rw [ownS_iff.2 ⟨hk.1, .inl hk.2⟩] at this
          cases this
end
theorem takeX_length (l : List Sec) (T : List Seat) (stu sec lab : Int) (groups : List Int) (now : Int) : (takeX l T stu sec lab groups now).length ≤ T.length + 2 := by
  by_cases h : takeE l T stu sec lab groups now = 0
  · have := (take_ok h).len
    split at this <;> omega
  · rw [takeX_err h]; simp
end Go.Proofs.YteonpdnncodkaaaGreatDoor
