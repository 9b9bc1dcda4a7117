/- Taking and leaving seats, over numbers and lists alone. -/
import Derived.Test.YteonpdnncodkaaaGreatDoorParts
set_option linter.unusedVariables false
set_option linter.unusedSimpArgs false
namespace Go.Proofs.YteonpdnncodkaaaGreatDoor

/-! ### a seat at its place -/
def ltS (a b : Seat) : Bool := decide (seatLt a b)
/-- The seats with x at its place. -/
def addS (l : List Seat) (x : Seat) : List Seat := l.takeWhile (fun y => ltS y x) ++ x :: l.dropWhile (fun y => ltS y x)
theorem addS_at {l : List Seat} {x : Seat} {p : Nat} (hp : p ≤ l.length) (h1 : ∀ k, (hk : k < l.length) → k < p → cmpSeat l[k] x < 0) (h2 : ∀ k, (hk : k < l.length) → p ≤ k → 0 ≤ cmpSeat l[k] x) : addS l x = l.take p ++ x :: l.drop p := by
  have e1 : ∀ y ∈ l.take p, ltS y x = true := by
    intro y hy
    obtain ⟨i, hi, rfl⟩ := List.mem_iff_getElem.1 hy
    rw [List.length_take] at hi
    rw [List.getElem_take]
    exact decide_eq_true (cmpSeat_neg.1 (h1 i (by omega) (by omega)))
  have e2 : ∀ y, (l.drop p).head? = some y → ltS y x = false := by
    intro y hy
    rw [List.head?_drop] at hy
    obtain ⟨hl, rfl⟩ := List.getElem?_eq_some_iff.1 hy
    exact decide_eq_false (fun h => by have := h2 p hl (Nat.le_refl _); have := cmpSeat_neg.2 h; omega)
  have e3 : (l.drop p).takeWhile (fun y => ltS y x) = [] ∧ (l.drop p).dropWhile (fun y => ltS y x) = l.drop p := by
    cases h : l.drop p with
    | nil => exact ⟨rfl, rfl⟩
    | cons y t =>
      have := e2 y (by rw [h]; rfl)
      exact ⟨by simp [List.takeWhile_cons, this], by simp [List.dropWhile_cons, this]⟩
  unfold addS
  conv => lhs; rw [← List.take_append_drop p l]
  rw [List.takeWhile_append_of_pos e1, List.dropWhile_append_of_pos e1, e3.1, e3.2, List.append_nil]
theorem addS_perm (l : List Seat) (x : Seat) : (addS l x).Perm (x :: l) := by
  unfold addS
  refine List.perm_middle.trans ?_
  rw [List.takeWhile_append_dropWhile]
theorem addS_length (l : List Seat) (x : Seat) : (addS l x).length = l.length + 1 := (addS_perm l x).length_eq
theorem addS_mem {l : List Seat} {x y : Seat} : y ∈ addS l x ↔ y = x ∨ y ∈ l := by rw [(addS_perm l x).mem_iff, List.mem_cons]
theorem addS_sorted {l : List Seat} {x : Seat} (h : l.Pairwise seatLt) (hn : ∀ y ∈ l, ¬ (y.stu = x.stu ∧ y.sec = x.sec)) : (addS l x).Pairwise seatLt := by
  unfold addS
  have h0 := h
  rw [← List.takeWhile_append_dropWhile (p := fun y => ltS y x) (l := l), List.pairwise_append] at h0
  obtain ⟨h1, h2, h3⟩ := h0
  have hd : ∀ y ∈ l.dropWhile (fun y => ltS y x), seatLt x y := by
    intro y hy
    cases e : l.dropWhile (fun y => ltS y x) with
    | nil => rw [e] at hy; cases hy
    | cons z t =>
      have hz : ltS z x = false := by
        have := List.head_dropWhile_not (fun y => ltS y x) (l := l) (by rw [e]; simp)
        simpa [e] using this
      have hzm : z ∈ l := (List.dropWhile_sublist _).subset (by rw [e]; simp)
      have hz2 : seatLt x z := by
        have := hn z hzm
        have := of_decide_eq_false hz
        unfold seatLt at *; omega
      rw [e] at hy
      rcases List.mem_cons.1 hy with rfl | hy
      · exact hz2
      · rw [e] at h2
        exact seatLt_trans hz2 (List.rel_of_pairwise_cons h2 hy)
  have ht : ∀ y ∈ l.takeWhile (fun y => ltS y x), seatLt y x := fun y hy => of_decide_eq_true (List.all_eq_true.1 (List.all_takeWhile (p := fun y => ltS y x) (l := l)) y hy)
  refine List.pairwise_append.2 ⟨h1, List.pairwise_cons.2 ⟨hd, h2⟩, fun a ha b hb => ?_⟩
  rcases List.mem_cons.1 hb with rfl | hb
  · exact ht a ha
  · exact h3 a ha b hb
theorem addS_filter (l : List Seat) (x : Seat) (p : Seat → Bool) (hx : p x = false) : (addS l x).filter p = l.filter p := by
  unfold addS
  rw [List.filter_append, List.filter_cons, hx, if_neg (by simp), ← List.filter_append, List.takeWhile_append_dropWhile]
theorem ofSec_add (l : List Seat) (x : Seat) (sec : Int) : ((ofSec (addS l x) sec).length : Int) = (ofSec l sec).length + (if x.sec = sec then 1 else 0) := by
  unfold ofSec
  rw [((addS_perm l x).filter _).length_eq, List.filter_cons]
  by_cases h : x.sec = sec <;> simp [h]
theorem cn_add (l : List Seat) (x : Seat) (sec g : Int) : cn (ofSec (addS l x) sec) g = cn (ofSec l sec) g + (if x.sec = sec ∧ x.grp = g then 1 else 0) := by
  unfold cn ofSec
  rw [((addS_perm l x).filter _).countP_eq, List.filter_cons]
  by_cases h : x.sec = sec <;> by_cases h2 : x.grp = g <;> simp [h, h2, List.countP_cons]
theorem hasSeat_add (l : List Seat) (x : Seat) (stu sec : Int) : hasSeat (addS l x) stu sec = (decide (x.stu = stu ∧ x.sec = sec) || hasSeat l stu sec) := by
  rw [Bool.eq_iff_iff]
  unfold hasSeat
  simp only [List.any_eq_true, addS_mem, Bool.or_eq_true, decide_eq_true_eq, Bool.and_eq_true, beq_iff_eq]
  constructor
  · rintro ⟨y, rfl | hy, h⟩
    · exact .inl h
    · exact .inr ⟨y, hy, h⟩
  · rintro (h | ⟨y, hy, h⟩)
    · exact ⟨x, .inl rfl, h⟩
    · exact ⟨y, .inr hy, h⟩
theorem hasSeat_false {l : List Seat} {stu sec : Int} : hasSeat l stu sec = false ↔ ∀ y ∈ l, ¬ (y.stu = stu ∧ y.sec = sec) := by
  unfold hasSeat
  simp [List.any_eq_false]
theorem hasSeat_true {l : List Seat} {stu sec : Int} : hasSeat l stu sec = true ↔ ∃ y ∈ l, y.stu = stu ∧ y.sec = sec := by
  unfold hasSeat
  simp [List.any_eq_true]

/-! ### counts -/
def gsumC (L : List Seat) : Nat → Int
  | 0 => 0
  | k + 1 => gsumC L k + cn L k
theorem cn_cons (x : Seat) (l : List Seat) (g : Int) : cn (x :: l) g = cn l g + if x.grp = g then 1 else 0 := by
  unfold cn
  rw [List.countP_cons]
  by_cases h : x.grp = g <;> simp [h]
theorem len_counts {L : List Seat} (h : ∀ x ∈ L, -1 ≤ x.grp ∧ x.grp < 8) : (L.length : Int) = cn L (-1) + gsumC L 8 := by
  induction L with
  | nil => simp [gsumC, cn]
  | cons x t ih =>
    have h1 := ih (fun y hy => h y (by simp [hy]))
    have h2 := h x (by simp)
    simp only [gsumC, cn_cons, List.length_cons] at h1 ⊢
    have h3 : x.grp = -1 ∨ x.grp = 0 ∨ x.grp = 1 ∨ x.grp = 2 ∨ x.grp = 3 ∨ x.grp = 4 ∨ x.grp = 5 ∨ x.grp = 6 ∨ x.grp = 7 := by omega
    rcases h3 with h3 | h3 | h3 | h3 | h3 | h3 | h3 | h3 | h3 <;> (simp [h3]; simp at h1; omega)
theorem gsum_ge (s : Sec) (L : List Seat) (now : Int) (k : Nat) : gsumC L k ≤ gsum s L now k := by
  induction k with
  | zero => simp [gsumC, gsum]
  | succ k ih => simp only [gsumC, gsum]; omega
theorem gsum_ge_at (s : Sec) (L : List Seat) (now : Int) (k g : Nat) (hg : g < k) : gsumC L k + max (kept s g now - cn L g) 0 ≤ gsum s L now k := by
  induction k with
  | zero => omega
  | succ k ih =>
    simp only [gsumC, gsum]
    by_cases e : g = k
    · subst e; have := gsum_ge s L now g; omega
    · have := ih (by omega); omega
theorem ofSec_ok {l : List Sec} {T : List Seat} (h : isIn l T) (sec : Int) : ∀ x ∈ ofSec T sec, -1 ≤ x.grp ∧ x.grp < 8 := fun x hx => by
  have := (h x (List.mem_filter.1 hx).1).1
  exact ⟨this.2.2.1, this.2.2.2⟩
theorem allF_nonneg {l : List Sec} {T : List Seat} (h : ValidS l T) {s : Sec} (hs : s ∈ l) : 0 ≤ allF s (ofSec T s.id) := by
  have := (h.2.2 s hs).1
  unfold allF; omega
theorem genF_le {s : Sec} {L : List Seat} (hL : ∀ x ∈ L, -1 ≤ x.grp ∧ x.grp < 8) (h0 : 0 ≤ allF s L) (now : Int) : 0 ≤ genF s L now ∧ genF s L now ≤ allF s L := by
  have h1 := len_counts hL
  have h2 := gsum_ge s L now 8
  unfold genF allF at *
  omega
theorem resF_le {s : Sec} {L : List Seat} (h0 : 0 ≤ allF s L) (now g : Int) : 0 ≤ resF s L now g ∧ resF s L now g ≤ allF s L := by
  unfold resF
  omega
theorem keptIn_le (l : List Gp) (hl : ∀ g ∈ l, gpFits g) (g now : Int) : keptIn l g now ≤ (match l.find? fun x => x.g == g with | some x => x.s | none => 0) ∧ 0 ≤ keptIn l g now := by
  unfold keptIn
  cases e : l.find? (fun x => x.g == g) with
  | none => exact ⟨Int.le_refl _, Int.le_refl _⟩
  | some x =>
    have := hl x (List.mem_of_find?_eq_some e)
    unfold gpFits at this
    simp only
    split <;> omega
theorem kept_le {s : Sec} (h : Formed s) (g now : Int) : kept s g now ≤ resv s g ∧ 0 ≤ kept s g now := keptIn_le s.groups h.2.2.2.2.2.1.2 g now
theorem kept_later {s : Sec} (h : Formed s) (g : Int) {now later : Int} (hn : now ≤ later) : kept s g later ≤ kept s g now := by
  unfold kept keptIn
  cases e : s.groups.find? (fun x => x.g == g) with
  | none => exact Int.le_refl _
  | some x =>
    have := h.2.2.2.2.2.1.2 x (List.mem_of_find?_eq_some e)
    unfold gpFits at this
    simp only
    split <;> split <;> omega
theorem gsum_later {s : Sec} (h : Formed s) (L : List Seat) {now later : Int} (hn : now ≤ later) (k : Nat) : gsum s L later k ≤ gsum s L now k := by
  induction k with
  | zero => exact Int.le_refl _
  | succ k ih => have := kept_later h k hn; simp only [gsum]; omega
theorem genF_later {s : Sec} (h : Formed s) (L : List Seat) {now later : Int} (hn : now ≤ later) : genF s L now ≤ genF s L later := by
  have := gsum_later h L hn 8
  unfold genF; omega

/-! ### one seat -/
/-- The group for which a seat is taken: the first one with a free seat that is kept for it. -/
def pick (s : Sec) (L : List Seat) (groups : List Int) (now : Int) : Option Int :=
  match groups.find? fun g => decide (0 < resF s L now g) with
  | some g => some g
  | none => if genF s L now = 0 then none else some (-1)
def takeOne (l : List Sec) (x : List Seat) (stu sec : Int) (groups : List Int) (now : Int) : Option (List Seat) :=
  (pick ((find l sec).getD Sec.zero) (ofSec x ((find l sec).getD Sec.zero).id) groups now).map fun g => addS x ⟨stu, sec, g⟩
def groupsOk (groups : List Int) : Prop := (∀ g ∈ groups, 0 ≤ g ∧ g < 8) ∧ groups.Pairwise (· < ·)
instance (groups : List Int) : Decidable (groupsOk groups) := inferInstanceAs (Decidable (_ ∧ _))
theorem pick_some {s : Sec} {L : List Seat} {groups : List Int} {now g : Int} (h : pick s L groups now = some g) : (g ∈ groups ∧ 0 < resF s L now g) ∨ (g = -1 ∧ genF s L now ≠ 0 ∧ ∀ h ∈ groups, resF s L now h ≤ 0) := by
  unfold pick at h
  cases e : groups.find? (fun g => decide (0 < resF s L now g)) with
  | some y =>
    rw [e] at h
    simp only [Option.some.injEq] at h
    subst h
    have := List.find?_some e
    exact .inl ⟨List.mem_of_find?_eq_some e, by simpa using this⟩
  | none =>
    rw [e] at h
    simp only at h
    split at h
    · cases h
    · rename_i hg
      simp only [Option.some.injEq] at h
      refine .inr ⟨h.symm, hg, fun k hk => ?_⟩
      have := List.find?_eq_none.1 e k hk
      simpa using this
theorem pick_none {s : Sec} {L : List Seat} {groups : List Int} {now : Int} (h : pick s L groups now = none) : genF s L now = 0 ∧ ∀ h ∈ groups, resF s L now h ≤ 0 := by
  unfold pick at h
  cases e : groups.find? (fun g => decide (0 < resF s L now g)) with
  | some y => rw [e] at h; cases h
  | none =>
    rw [e] at h
    simp only at h
    split at h
    · rename_i hg
      refine ⟨hg, fun k hk => ?_⟩
      have := List.find?_eq_none.1 e k hk
      simpa using this
    · cases h
theorem ids_of {l : List Sec} (h : checkAllS l = 0) : l.Pairwise (fun a b => a.id < b.id) := (checkAllS_zero h).2.1
/-- A seat that is free can be taken. -/
theorem ValidS.add {l : List Sec} {T : List Seat} (hc : checkAllS l = 0) (h : ValidS l T) {s : Sec} {x : Seat} (hf : find l x.sec = some s) (ho : seatOk x) (hn : hasSeat T x.stu x.sec = false) (now : Int)
    (hg : (0 ≤ x.grp ∧ 0 < resF s (ofSec T s.id) now x.grp) ∨ (x.grp = -1 ∧ genF s (ofSec T s.id) now ≠ 0)) : ValidS l (addS T x) := by
  obtain ⟨h1, h2, h3⟩ := h
  obtain ⟨hm, hi⟩ := find_mem hf
  refine ⟨fun y hy => ?_, addS_sorted h2 (hasSeat_false.1 hn), fun t ht => ?_⟩
  · rcases addS_mem.1 hy with rfl | hy
    · exact ⟨ho, by rw [hf]; rfl⟩
    · exact h1 y hy
  · obtain ⟨r1, r2⟩ := h3 t ht
    by_cases e : x.sec = t.id
    · obtain rfl : t = s := ids_unique (ids_of hc) ht hm (by omega)
      have hF := formed_of hc hm
      have hb := genF_le (s := t) (L := ofSec T t.id) (ofSec_ok h1 t.id) (by unfold allF; omega) now
      have hL : 1 ≤ allF t (ofSec T t.id) := by
        rcases hg with ⟨_, hg⟩ | ⟨_, hg⟩
        · unfold resF at hg; omega
        · omega
      unfold allF at hL
      refine ⟨by have := ofSec_add T x t.id; rw [if_pos e] at this; omega, fun g hg8 => ?_⟩
      rw [cn_add]
      have := r2 g hg8
      by_cases e2 : x.sec = t.id ∧ x.grp = g
      · rw [if_pos e2]
        rcases hg with ⟨_, hg⟩ | ⟨hg, _⟩
        · have := kept_le hF g now
          unfold resF at hg
          rw [e2.2] at hg
          omega
        · exfalso
          rw [hg] at e2
          rw [← e2.2] at hg8
          simp at hg8
      · rw [if_neg e2]; omega
    · refine ⟨by have := ofSec_add T x t.id; rw [if_neg e] at this; omega, fun g hg8 => ?_⟩
      rw [cn_add, if_neg (by omega)]
      have := r2 g hg8
      omega

/-! ### bundles -/
def clashV (a b : List Mt) : Bool := decide (meetCheck a = 0) && (decide (meetCheck b = 0) && a.any fun x => b.any fun y => x.over y)
def clashE (a b : List Mt) : Int := if meetCheck a ≠ 0 then meetCheck a else meetCheck b
def bunCheck (l : List Sec) (sec lab : Int) : Int :=
  if checkAllS l ≠ 0 then checkAllS l else
  match find l sec with
  | none => 240
  | some s =>
    if s.lab = true then 240 else
    if s.labs.length = 0 ∧ lab = -1 then 0 else
    match find l lab with
    | none => 240
    | some x => if (s.labs.any fun y => lab == y) = false ∨ x.lab = false ∨ x.term ≠ s.term ∨ clashV s.meets x.meets = true then 240 else 0
theorem bunCheck_zero {l : List Sec} {sec lab : Int} (h : bunCheck l sec lab = 0) : checkAllS l = 0 ∧ ∃ s, find l sec = some s ∧ s.lab = false ∧ ((lab = -1 ∧ s.labs.length = 0) ∨ (0 ≤ lab ∧ lab ≠ sec ∧ ∃ x, find l lab = some x ∧ x.lab = true)) := by
  unfold bunCheck at h
  by_cases h0 : checkAllS l = 0
  · rw [if_neg (by simp [h0])] at h
    refine ⟨h0, ?_⟩
    cases e : find l sec with
    | none => rw [e] at h; cases h
    | some s =>
      rw [e] at h
      simp only at h
      split at h
      · cases h
      · rename_i hl
        refine ⟨s, rfl, by simpa using hl, ?_⟩
        split at h
        · rename_i h1; exact .inl ⟨h1.2, h1.1⟩
        · cases e2 : find l lab with
          | none => rw [e2] at h; cases h
          | some x =>
            rw [e2] at h
            simp only at h
            split at h
            · cases h
            · rename_i h2
              have h3 : x.lab = true := by
                cases hx : x.lab
                · exact absurd (.inr (.inl hx)) h2
                · rfl
              obtain ⟨hm, hi⟩ := find_mem e2
              have hF := wi_true.1 (formed_of h0 hm).1
              refine .inr ⟨by omega, ?_, x, rfl, h3⟩
              rintro rfl
              rw [e] at e2
              cases e2
              rw [h3] at hl
              exact hl rfl
  · rw [if_pos h0] at h; exact absurd h h0

/-! ### Take and Leave -/
def hasAny (T : List Seat) (stu : Int) (ps : List Int) : Bool := ps.any fun p => hasSeat T stu p
def takeE (l : List Sec) (T : List Seat) (stu sec lab : Int) (groups : List Int) (now : Int) : Int :=
  if seatCheck l T ≠ 0 then seatCheck l T else
  if bunCheck l sec lab ≠ 0 then bunCheck l sec lab else
  if ¬ (0 ≤ stu ∧ stu < 20000 ∧ groupsOk groups) then 1 else
  if hasAny T stu (partsB sec lab) = true then 250 else
  match takeOne l T stu sec groups now with
  | none => 251
  | some x => if lab = -1 then 0 else
    match takeOne l x stu lab groups now with
    | none => 251
    | some _ => 0
def takeX (l : List Sec) (T : List Seat) (stu sec lab : Int) (groups : List Int) (now : Int) : List Seat :=
  if takeE l T stu sec lab groups now ≠ 0 then [] else
  match takeOne l T stu sec groups now with
  | none => []
  | some x => if lab = -1 then x else (takeOne l x stu lab groups now).getD []
def ownS (stu sec lab : Int) (s : Seat) : Bool := s.stu == stu && (partsB sec lab).any fun p => p == s.sec
def leaveE (T : List Seat) (stu sec lab : Int) : Int := if ((partsB sec lab).any fun p => !hasSeat T stu p) = true then 250 else 0
def leaveX (T : List Seat) (stu sec lab : Int) : List Seat := if leaveE T stu sec lab ≠ 0 then [] else T.filter fun s => !ownS stu sec lab s

theorem mem_partsB {sec lab p : Int} : p ∈ partsB sec lab ↔ p = sec ∨ (lab ≠ -1 ∧ p = lab) := by
  unfold partsB
  by_cases h : lab = -1 <;> simp [h]
theorem ownS_iff {stu sec lab : Int} {s : Seat} : ownS stu sec lab s = true ↔ s.stu = stu ∧ (s.sec = sec ∨ (lab ≠ -1 ∧ s.sec = lab)) := by
  unfold ownS
  simp only [Bool.and_eq_true, beq_iff_eq, List.any_eq_true]
  constructor
  · rintro ⟨h1, p, hp, rfl⟩; exact ⟨h1, mem_partsB.1 hp⟩
  · rintro ⟨h1, h2⟩; exact ⟨h1, s.sec, mem_partsB.2 h2, rfl⟩
theorem hasAny_false {T : List Seat} {stu sec lab : Int} : hasAny T stu (partsB sec lab) = false ↔ ∀ y ∈ T, ownS stu sec lab y = false := by
  unfold hasAny
  rw [List.any_eq_false]
  constructor
  · intro h y hy
    rw [Bool.eq_false_iff]
    intro ho
    obtain ⟨h1, h2⟩ := ownS_iff.1 ho
    exact h y.sec (mem_partsB.2 h2) (hasSeat_true.2 ⟨y, hy, h1, rfl⟩)
  · intro h p hp hs
    obtain ⟨y, hy, h1, rfl⟩ := hasSeat_true.1 hs
    have := h y hy
    rw [ownS_iff.2 ⟨h1, mem_partsB.1 hp⟩] at this
    cases this

/-- What a bundle that was taken has come to. -/
structure Took (l : List Sec) (T : List Seat) (stu sec lab : Int) (groups : List Int) (now : Int) (X : List Seat) : Prop where
  check : seatCheck l T = 0
  bun : bunCheck l sec lab = 0
  stuOk : 0 ≤ stu ∧ stu < 20000
  grpOk : groupsOk groups
  free : ∀ y ∈ T, ownS stu sec lab y = false
  valid : ValidS l X
  is : ∃ s g1, find l sec = some s ∧ pick s (ofSec T sec) groups now = some g1 ∧ ((lab = -1 ∧ X = addS T ⟨stu, sec, g1⟩) ∨
    (0 ≤ lab ∧ lab ≠ sec ∧ ∃ t g2, find l lab = some t ∧ pick t (ofSec (addS T ⟨stu, sec, g1⟩) lab) groups now = some g2 ∧ X = addS (addS T ⟨stu, sec, g1⟩) ⟨stu, lab, g2⟩))
theorem pick_ok {s : Sec} {L : List Seat} {groups : List Int} {now g stu sec : Int} (hg : groupsOk groups) (hs : 0 ≤ stu ∧ stu < 20000) (h : pick s L groups now = some g) : seatOk ⟨stu, sec, g⟩ ∧ ((0 ≤ g ∧ 0 < resF s L now g) ∨ (g = -1 ∧ genF s L now ≠ 0)) := by
  unfold seatOk
  rcases pick_some h with ⟨h1, h2⟩ | ⟨rfl, h1, _⟩
  · have := hg.1 g h1
    exact ⟨⟨hs.1, hs.2, by simp only; omega, this.2⟩, .inl ⟨this.1, h2⟩⟩
  · exact ⟨⟨hs.1, hs.2, by simp, by simp⟩, .inr ⟨rfl, h1⟩⟩
theorem takeOne_eq {l : List Sec} {x : List Seat} {stu sec : Int} {groups : List Int} {now : Int} {s : Sec} (h : find l sec = some s) : takeOne l x stu sec groups now = (pick s (ofSec x sec) groups now).map fun g => addS x ⟨stu, sec, g⟩ := by
  unfold takeOne
  rw [h]
  simp only [Option.getD_some]
  rw [(find_mem h).2]
theorem take_ok {l : List Sec} {T : List Seat} {stu sec lab : Int} {groups : List Int} {now : Int} (h : takeE l T stu sec lab groups now = 0) : Took l T stu sec lab groups now (takeX l T stu sec lab groups now) := by
  have hX : takeX l T stu sec lab groups now = (match takeOne l T stu sec groups now with
    | none => []
    | some x => if lab = -1 then x else (takeOne l x stu lab groups now).getD []) := by
    unfold takeX; rw [if_neg (by simp [h])]
  generalize takeX l T stu sec lab groups now = X at *
  unfold takeE at h
  by_cases h1 : seatCheck l T = 0
  · rw [if_neg (by simp [h1])] at h
    by_cases h2 : bunCheck l sec lab = 0
    · rw [if_neg (by simp [h2])] at h
      by_cases h3 : 0 ≤ stu ∧ stu < 20000 ∧ groupsOk groups
      · rw [if_neg (by simp [h3])] at h
        by_cases h4 : hasAny T stu (partsB sec lab) = true
        · rw [if_pos h4] at h; cases h
        · rw [if_neg h4] at h
          have h5 := hasAny_false.1 (by simpa using h4)
          obtain ⟨h0, hv⟩ := seatCheck_zero h1
          obtain ⟨_, s, hf, hl, hlab⟩ := bunCheck_zero h2
          rw [takeOne_eq hf] at h hX
          cases e : pick s (ofSec T sec) groups now with
          | none => rw [e] at h; cases h
          | some g1 =>
            rw [e] at h hX
            simp only [Option.map_some] at h hX
            have hn : hasSeat T stu sec = false := hasSeat_false.2 fun y hy hk => by
              have := h5 y hy
              rw [ownS_iff.2 ⟨hk.1, .inl hk.2⟩] at this
              cases this
            obtain ⟨p1, p2⟩ := pick_ok (sec := sec) h3.2.2 ⟨h3.1, h3.2.1⟩ e
            have hv1 : ValidS l (addS T ⟨stu, sec, g1⟩) := hv.add h0 (x := ⟨stu, sec, g1⟩) hf p1 hn now (by rw [(find_mem hf).2]; exact p2)
            by_cases hl1 : lab = -1
            · rw [if_pos hl1] at hX
              subst hX
              exact ⟨h1, h2, ⟨h3.1, h3.2.1⟩, h3.2.2, h5, hv1, s, g1, hf, e, .inl ⟨hl1, rfl⟩⟩
            · rcases hlab with ⟨hlab, _⟩ | ⟨k1, k2, t, k3, k4⟩
              · exact absurd hlab hl1
              · rw [if_neg hl1, takeOne_eq k3] at h hX
                cases e2 : pick t (ofSec (addS T ⟨stu, sec, g1⟩) lab) groups now with
                | none => rw [e2] at h; cases h
                | some g2 =>
                  rw [e2] at hX
                  simp only [Option.map_some, Option.getD_some] at hX
                  subst hX
                  obtain ⟨q1, q2⟩ := pick_ok (sec := lab) h3.2.2 ⟨h3.1, h3.2.1⟩ e2
                  have hn2 : hasSeat (addS T ⟨stu, sec, g1⟩) stu lab = false := by
                    rw [hasSeat_add, Bool.or_eq_false_iff]
                    refine ⟨by simp; omega, hasSeat_false.2 fun y hy hk => ?_⟩
                    have := h5 y hy
                    rw [ownS_iff.2 ⟨hk.1, .inr ⟨hl1, hk.2⟩⟩] at this
                    cases this
                  have hv2 := hv1.add h0 (x := ⟨stu, lab, g2⟩) k3 q1 hn2 now (by rw [(find_mem k3).2]; exact q2)
                  exact ⟨h1, h2, ⟨h3.1, h3.2.1⟩, h3.2.2, h5, hv2, s, g1, hf, e, .inr ⟨k1, k2, t, g2, k3, e2, rfl⟩⟩
      · rw [if_pos h3] at h; cases h
    · rw [if_pos h2] at h; exact absurd h h2
  · rw [if_pos h1] at h; exact absurd h h1
theorem takeX_err {l : List Sec} {T : List Seat} {stu sec lab : Int} {groups : List Int} {now : Int} (h : takeE l T stu sec lab groups now ≠ 0) : takeX l T stu sec lab groups now = [] := if_pos h
section
variable {l : List Sec} {T X : List Seat} {stu sec lab : Int} {groups : List Int} {now : Int}
theorem Took.checkX (h : Took l T stu sec lab groups now X) : seatCheck l X = 0 := seatCheck_ok (seatCheck_zero h.check).1 h.valid
theorem Took.has1 (h : Took l T stu sec lab groups now X) : hasSeat X stu sec = true := by
  obtain ⟨s, g1, _, _, ⟨_, rfl⟩ | ⟨_, _, t, g2, _, _, rfl⟩⟩ := h.is
  · rw [hasSeat_add]; simp
  · rw [hasSeat_add, hasSeat_add]; simp
theorem Took.has2 (h : Took l T stu sec lab groups now X) (hl : lab ≠ -1) : hasSeat X stu lab = true := by
  obtain ⟨s, g1, _, _, ⟨e, rfl⟩ | ⟨_, _, t, g2, _, _, rfl⟩⟩ := h.is
  · exact absurd e hl
  · rw [hasSeat_add]; simp
theorem Took.rest (h : Took l T stu sec lab groups now X) : X.filter (fun y => !ownS stu sec lab y) = T := by
  have e : T.filter (fun y => !ownS stu sec lab y) = T := List.filter_eq_self.2 (fun y hy => by rw [h.free y hy]; rfl)
  obtain ⟨s, g1, _, _, ⟨_, rfl⟩ | ⟨k1, _, t, g2, _, _, rfl⟩⟩ := h.is
  · rw [addS_filter _ _ _ (by rw [show ownS stu sec lab ⟨stu, sec, g1⟩ = true from ownS_iff.2 ⟨rfl, .inl rfl⟩]; rfl), e]
  · rw [addS_filter _ _ _ (by rw [show ownS stu sec lab ⟨stu, lab, g2⟩ = true from ownS_iff.2 ⟨rfl, .inr ⟨by omega, rfl⟩⟩]; rfl), addS_filter _ _ _ (by rw [show ownS stu sec lab ⟨stu, sec, g1⟩ = true from ownS_iff.2 ⟨rfl, .inl rfl⟩]; rfl), e]
theorem Took.len (h : Took l T stu sec lab groups now X) : X.length = T.length + (if lab = -1 then 1 else 2) := by
  obtain ⟨s, g1, _, _, ⟨k1, rfl⟩ | ⟨k1, _, t, g2, _, _, rfl⟩⟩ := h.is
  · rw [addS_length, if_pos k1]
  · rw [addS_length, addS_length, if_neg (by omega)]
theorem Took.labOk (h : Took l T stu sec lab groups now X) : lab = -1 ∨ (0 ≤ lab ∧ lab ≠ sec) := by
  obtain ⟨s, g1, _, _, ⟨k1, _⟩ | ⟨k1, k2, _⟩⟩ := h.is
  · exact .inl k1
  · exact .inr ⟨k1, k2⟩
theorem Took.has0 (h : Took l T stu sec lab groups now X) : hasSeat T stu sec = false := hasSeat_false.2 fun y hy hk => by
  have := h.free y hy
  rw [ownS_iff.2 ⟨hk.1, .inl hk.2⟩] at this
  cases this
end
theorem any_partsB {sec lab : Int} (q : Int → Bool) : (partsB sec lab).any q = (q sec || (decide (lab ≠ -1) && q lab)) := by
  unfold partsB
  by_cases h : lab = -1 <;> simp [h]
theorem Took.takeAgain {l : List Sec} {T X : List Seat} {stu sec lab : Int} {groups : List Int} {now : Int} (h : Took l T stu sec lab groups now X) : takeE l X stu sec lab groups now = 250 := by
  unfold takeE
  rw [if_neg (by simp [h.checkX]), if_neg (by simp [h.bun]), if_neg (by have := h.grpOk; have := h.stuOk; simp [*]), if_pos]
  unfold hasAny
  rw [any_partsB, h.has1]; rfl
theorem Took.leave {l : List Sec} {T X : List Seat} {stu sec lab : Int} {groups : List Int} {now : Int} (h : Took l T stu sec lab groups now X) : leaveE X stu sec lab = 0 ∧ leaveX X stu sec lab = T ∧ leaveE T stu sec lab = 250 := by
  have h1 : leaveE X stu sec lab = 0 := by
    unfold leaveE
    rw [any_partsB, h.has1]
    by_cases hl : lab = -1
    · simp [hl]
    · rw [h.has2 hl]; simp
  refine ⟨h1, by unfold leaveX; rw [if_neg (by simp [h1]), h.rest], ?_⟩
  unfold leaveE
  rw [any_partsB, h.has0]; rfl

/-! ### leaving -/
theorem ValidS.filter {l : List Sec} {T : List Seat} (h : ValidS l T) (p : Seat → Bool) : ValidS l (T.filter p) := by
  obtain ⟨h1, h2, h3⟩ := h
  refine ⟨fun y hy => h1 y (List.mem_filter.1 hy).1, h2.sublist List.filter_sublist, fun s hs => ?_⟩
  obtain ⟨r1, r2⟩ := h3 s hs
  have hsub : List.Sublist (ofSec (T.filter p) s.id) (ofSec T s.id) := (List.filter_sublist (l := T) (p := p)).filter _
  refine ⟨by have := hsub.length_le; omega, fun g hg => ?_⟩
  have := r2 g hg
  have := hsub.countP_le (p := fun s : Seat => s.grp == g)
  unfold cn at *
  omega
/-- At most one seat has a key. -/
theorem key_count {T : List Seat} (h : T.Pairwise seatLt) (stu sec : Int) : T.countP (fun y => y.stu == stu && y.sec == sec) = if hasSeat T stu sec = true then 1 else 0 := by
  induction T with
  | nil => rfl
  | cons x t ih =>
    rw [List.pairwise_cons] at h
    rw [List.countP_cons, ih h.2]
    have e : hasSeat (x :: t) stu sec = ((x.stu == stu && x.sec == sec) || hasSeat t stu sec) := rfl
    rw [e]
    by_cases hx : (x.stu == stu && x.sec == sec) = true
    · have hn : hasSeat t stu sec = false := hasSeat_false.2 fun y hy hk => by
        have := h.1 y hy
        simp only [Bool.and_eq_true, beq_iff_eq] at hx
        unfold seatLt at this
        omega
      simp [hx, hn]
    · rw [Bool.not_eq_true] at hx
      simp [hx]
theorem countP_or {α : Type} (p q : α → Bool) (l : List α) (h : ∀ x ∈ l, ¬ (p x = true ∧ q x = true)) : l.countP (fun x => p x || q x) = l.countP p + l.countP q := by
  induction l with
  | nil => rfl
  | cons x t ih =>
    rw [List.countP_cons, List.countP_cons, List.countP_cons, ih (fun y hy => h y (by simp [hy]))]
    have := h x (by simp)
    cases hp : p x <;> cases hq : q x <;> simp_all <;> omega
theorem own_count {T : List Seat} (h : T.Pairwise seatLt) {stu sec lab : Int} (h1 : hasSeat T stu sec = true) (h2 : lab ≠ -1 → hasSeat T stu lab = true) : T.countP (ownS stu sec lab) = if lab = -1 ∨ lab = sec then 1 else 2 := by
  by_cases hl : lab = -1 ∨ lab = sec
  · rw [if_pos hl]
    have := key_count h stu sec
    rw [if_pos h1] at this
    rw [← this]
    congr 1
    funext y
    rw [Bool.eq_iff_iff, ownS_iff]
    simp only [Bool.and_eq_true, beq_iff_eq]
    omega
  · rw [if_neg hl]
    have k1 := key_count h stu sec
    have k2 := key_count h stu lab
    rw [if_pos h1] at k1
    rw [if_pos (h2 (by omega))] at k2
    have := countP_or (fun y : Seat => y.stu == stu && y.sec == sec) (fun y : Seat => y.stu == stu && y.sec == lab) T (by
      intro y _ hy
      simp only [Bool.and_eq_true, beq_iff_eq] at hy
      omega)
    rw [k1, k2] at this
    rw [show T.countP (ownS stu sec lab) = T.countP (fun y : Seat => (y.stu == stu && y.sec == sec) || (y.stu == stu && y.sec == lab)) by
      congr 1
      funext y
      rw [Bool.eq_iff_iff, ownS_iff]
      simp only [Bool.and_eq_true, Bool.or_eq_true, beq_iff_eq]
      omega]
    exact this
end Go.Proofs.YteonpdnncodkaaaGreatDoor
