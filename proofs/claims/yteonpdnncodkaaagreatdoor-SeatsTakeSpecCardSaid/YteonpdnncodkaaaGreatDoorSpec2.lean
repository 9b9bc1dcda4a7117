/- Layer 23 over numbers and lists: valid forms, Check, CheckAll, Add. -/
import Derived.Test.YteonpdnncodkaaaGreatDoorSpec
namespace Go.Proofs.YteonpdnncodkaaaGreatDoor

def wi (n lo hi : Int) : Bool := decide (lo ≤ n ∧ n ≤ hi)
theorem wi_true {n lo hi : Int} : wi n lo hi = true ↔ lo ≤ n ∧ n ≤ hi := by unfold wi; exact decide_eq_true_iff
theorem wi_false {n lo hi : Int} : wi n lo hi = false ↔ ¬ (lo ≤ n ∧ n ≤ hi) := by unfold wi; exact decide_eq_false_iff_not

/-- Strictly increasing by f, between 0 and hi. -/
def Inc {α : Type} (f : α → Int) (hi : Int) (l : List α) : Prop := (∀ x ∈ l, 0 ≤ f x ∧ f x ≤ hi) ∧ l.Pairwise fun a b => f a < f b
instance {α : Type} (f : α → Int) (hi : Int) (l : List α) : Decidable (Inc f hi l) := inferInstanceAs (Decidable (_ ∧ _))
def lastK {α : Type} (f : α → Int) (l : List α) (k : Nat) : Int := if k = 0 then -1 else match l[k - 1]? with | some x => f x | none => -1
theorem lastK_zero {α : Type} (f : α → Int) (l : List α) : lastK f l 0 = -1 := rfl
theorem lastK_succ {α : Type} (f : α → Int) (l : List α) {k : Nat} (hk : k < l.length) : lastK f l (k + 1) = f l[k] := by
  unfold lastK
  rw [if_neg (by omega), Nat.add_sub_cancel, List.getElem?_eq_getElem hk]
theorem lastK_ge {α : Type} {f : α → Int} {hi : Int} {l : List α} {k : Nat} (hk : k ≤ l.length) (h : Inc f hi (l.take k)) (hh : 0 ≤ hi) : -1 ≤ lastK f l k ∧ lastK f l k ≤ hi ∧ ∀ x ∈ l.take k, f x ≤ lastK f l k := by
  cases k with
  | zero => rw [lastK_zero]; exact ⟨by omega, by omega, by simp⟩
  | succ k =>
    rw [lastK_succ f l (by omega)]
    have hm : l[k] ∈ l.take (k + 1) := by
      rw [List.take_succ_eq_append_getElem (by omega)]; exact List.mem_append.2 (.inr (List.mem_singleton.2 rfl))
    have := h.1 _ hm
    refine ⟨by omega, by omega, fun x hx => ?_⟩
    rw [List.take_succ_eq_append_getElem (by omega)] at hx h
    rcases List.mem_append.1 hx with hx | hx
    · have := (List.pairwise_append.1 h.2).2.2 x hx l[k] (by simp)
      omega
    · rw [List.mem_singleton.1 hx]; omega
theorem Inc.step {α : Type} {f : α → Int} {hi : Int} {l : List α} {k : Nat} (hk : k < l.length) (h : Inc f hi (l.take k)) (hh : 0 ≤ hi) (h1 : lastK f l k + 1 ≤ f l[k]) (h2 : f l[k] ≤ hi) : Inc f hi (l.take (k + 1)) := by
  have hl := lastK_ge (by omega) h hh
  rw [List.take_succ_eq_append_getElem hk]
  refine ⟨fun x hx => ?_, List.pairwise_append.2 ⟨h.2, List.pairwise_singleton _ _, fun a ha b hb => ?_⟩⟩
  · rcases List.mem_append.1 hx with hx | hx
    · exact h.1 x hx
    · rw [List.mem_singleton.1 hx]; omega
  · rw [List.mem_singleton.1 hb]
    have := hl.2.2 a ha
    omega
theorem Inc.no {α : Type} {f : α → Int} {hi : Int} {l : List α} {k : Nat} (hk : k < l.length) (h1 : ¬ (lastK f l k + 1 ≤ f l[k] ∧ f l[k] ≤ hi)) : ¬ Inc f hi l := by
  rintro ⟨h, hp⟩
  refine h1 ⟨?_, (h _ (List.getElem_mem hk)).2⟩
  cases k with
  | zero => rw [lastK_zero]; have := (h _ (List.getElem_mem hk)).1; omega
  | succ k =>
    rw [lastK_succ f l (by omega)]
    have := List.pairwise_iff_getElem.1 hp k (k + 1) (by omega) hk (by omega)
    omega
theorem Inc.nil {α : Type} (f : α → Int) (hi : Int) : Inc f hi ([] : List α) := ⟨by simp, .nil⟩

def gpFits (g : Gp) : Prop := 0 ≤ g.s ∧ g.s ≤ 4096 ∧ 0 ≤ g.u ∧ g.u ≤ 1048576
instance (g : Gp) : Decidable (gpFits g) := inferInstanceAs (Decidable (_ ∧ _))
def sumS (l : List Gp) : Int := (l.map (·.s)).sum
theorem sumS_snoc (l : List Gp) (g : Gp) : sumS (l ++ [g]) = sumS l + g.s := by simp [sumS]
theorem sumS_bound {l : List Gp} (h : ∀ g ∈ l, gpFits g) : 0 ≤ sumS l ∧ sumS l ≤ 4096 * l.length := by
  induction l with
  | nil => simp [sumS]
  | cons a t ih =>
    have h1 := h a (by simp)
    have h2 := ih (fun g hg => h g (by simp [hg]))
    unfold gpFits at h1
    simp only [sumS, List.map_cons, List.sum_cons, List.length_cons] at h2 ⊢
    omega
def gpsOk (l : List Gp) : Prop := Inc (·.g) 7 l ∧ ∀ g ∈ l, gpFits g
instance (l : List Gp) : Decidable (gpsOk l) := inferInstanceAs (Decidable (_ ∧ _))
def labsOk (l : List Int) : Prop := Inc id 3999 l
instance (l : List Int) : Decidable (labsOk l) := inferInstanceAs (Decidable (Inc _ _ _))
theorem gpsOk.step {l : List Gp} {k : Nat} (hk : k < l.length) (h : gpsOk (l.take k)) (h1 : wi l[k].g (lastK (·.g) l k + 1) 7 = true) (h2 : wi l[k].s 0 4096 = true) (h3 : wi l[k].u 0 1048576 = true) : gpsOk (l.take (k + 1)) := by
  rw [wi_true] at h1 h2 h3
  refine ⟨h.1.step hk (by omega) h1.1 h1.2, fun g hg => ?_⟩
  rw [List.take_succ_eq_append_getElem hk] at hg
  rcases List.mem_append.1 hg with hg | hg
  · exact h.2 g hg
  · rw [List.mem_singleton.1 hg]; exact ⟨h2.1, h2.2, h3.1, h3.2⟩
theorem gpsOk.no {l : List Gp} {k : Nat} (hk : k < l.length) (h : wi l[k].g (lastK (·.g) l k + 1) 7 = false ∨ wi l[k].s 0 4096 = false ∨ wi l[k].u 0 1048576 = false) : ¬ gpsOk l := by
  rintro ⟨h1, h2⟩
  have h3 := h2 _ (List.getElem_mem hk)
  unfold gpFits at h3
  rcases h with h | h | h
  · exact Inc.no hk (wi_false.1 h) h1
  · exact wi_false.1 h ⟨h3.1, h3.2.1⟩
  · exact wi_false.1 h h3.2.2
theorem gpsOk.len {l : List Gp} (h : gpsOk l) : l.length ≤ 8 := by
  have : ∀ (l : List Gp) (n : Nat), (∀ x ∈ l, (n : Int) ≤ x.g ∧ x.g ≤ 7) → l.Pairwise (fun a b => a.g < b.g) → l.length + n ≤ 8 ∨ l = [] := by
    intro l
    induction l with
    | nil => intro n _ _; exact .inr rfl
    | cons a t ih =>
      intro n h1 h2
      have ha := h1 a (by simp)
      rcases List.pairwise_cons.1 h2 with ⟨h3, h4⟩
      rcases ih (a.g.toNat + 1) (fun x hx => ⟨by have := h3 x hx; omega, (h1 x (by simp [hx])).2⟩) h4 with h5 | h5
      · left; simp only [List.length_cons]; omega
      · subst h5; left; simp only [List.length_cons, List.length_nil]; omega
  rcases this l 0 (fun x hx => by have := h.1.1 x hx; omega) h.1.2 with h1 | h1
  · omega
  · subst h1; simp

def Formed (s : Sec) : Prop := wi s.id 0 3999 = true ∧ wi s.course 0 4095 = true ∧ wi s.term 0 1023 = true ∧ wi s.campus 0 6 = true ∧ wi s.seats 0 4096 = true ∧ gpsOk s.groups ∧ sumS s.groups ≤ s.seats ∧ labsOk s.labs ∧ (s.lab = false ∨ s.labs = [])
instance (s : Sec) : Decidable (Formed s) := by unfold Formed; infer_instance
def formedB (s : Sec) : Bool := decide (Formed s)
theorem formedB_true {s : Sec} (h : Formed s) : formedB s = true := decide_eq_true h
theorem formedB_false {s : Sec} (h : ¬ Formed s) : formedB s = false := decide_eq_false h
theorem formedB_eq {s : Sec} (hg : gpsOk s.groups) (hl : labsOk s.labs) : formedB s = (wi s.id 0 3999 && wi s.course 0 4095 && wi s.term 0 1023 && wi s.campus 0 6 && wi s.seats 0 4096 && decide (sumS s.groups ≤ s.seats) && !(s.lab && decide (0 < s.labs.length))) := by
  unfold formedB Formed
  rw [Bool.eq_iff_iff]
  simp only [decide_eq_true_eq, Bool.and_eq_true, hg, hl, true_and]
  cases s.lab <;> simp [List.length_pos_iff] <;> grind
def secCheck (s : Sec) : Int := if formedB s = true then meetCheck s.meets else 230

theorem secCheck_zero {s : Sec} (h : secCheck s = 0) : Formed s ∧ meetCheck s.meets = 0 := by
  unfold secCheck at h
  by_cases hf : Formed s
  · rw [formedB_true hf, if_pos rfl] at h; exact ⟨hf, h⟩
  · rw [formedB_false hf, if_neg (by simp)] at h; cases h

/-! ### sections that fit together -/
def Fits (l : List Sec) : Prop := l.Pairwise (fun a b => a.id < b.id) ∧ ∀ s ∈ l, ∀ n ∈ s.labs, ∃ t ∈ l, t.id = n ∧ t.lab = true ∧ t.course = s.course ∧ t.term = s.term
instance (l : List Sec) : Decidable (Fits l) := by unfold Fits; infer_instance
def checkAllS (l : List Sec) : Int := match l.find? fun s => secCheck s != 0 with
  | some s => secCheck s
  | none => if Fits l then 0 else 230
theorem checkAllS_bad {l : List Sec} {k : Nat} (hk : k < l.length) (h : ∀ s ∈ l.take k, secCheck s = 0) (hb : secCheck l[k] ≠ 0) : checkAllS l = secCheck l[k] := by
  unfold checkAllS
  have e : l.find? (fun s => secCheck s != 0) = some l[k] := by
    conv => lhs; rw [← List.take_append_drop k l]
    rw [List.find?_append, List.find?_eq_none.2 (fun s hs => by simp [h s hs]), List.drop_eq_getElem_cons hk, List.find?_cons_of_pos (by simpa using hb)]
    rfl
  rw [e]
theorem checkAllS_fits {l : List Sec} (h : ∀ s ∈ l, secCheck s = 0) : checkAllS l = if Fits l then 0 else 230 := by
  unfold checkAllS
  rw [List.find?_eq_none.2 (fun s hs => by simp [h s hs])]
theorem checkAllS_zero {l : List Sec} (h : checkAllS l = 0) : (∀ s ∈ l, secCheck s = 0) ∧ Fits l := by
  unfold checkAllS at h
  cases e : l.find? (fun s => secCheck s != 0) with
  | some s =>
    rw [e] at h
    have := List.find?_some e
    simp at this
    exact absurd h this
  | none =>
    rw [e] at h
    have h1 := List.find?_eq_none.1 e
    refine ⟨fun s hs => by have := h1 s hs; simpa using this, ?_⟩
    by_cases hf : Fits l
    · exact hf
    · rw [if_neg hf] at h; cases h
theorem ids_inc {l : List Sec} (h : ∀ s ∈ l, secCheck s = 0) (hp : l.Pairwise (fun a b => a.id < b.id)) : Inc (·.id) 3999 l :=
  ⟨fun s hs => wi_true.1 (secCheck_zero (h s hs)).1.1, hp⟩

def labLook (l : List Sec) (id : Int) : Option (Int × Int) := (l.reverse.find? fun s => s.lab && s.id == id).map fun s => (s.course, s.term)
theorem labLook_snoc (l : List Sec) (s : Sec) (id : Int) : labLook (l ++ [s]) id = if (s.lab && s.id == id) = true then some (s.course, s.term) else labLook l id := by
  unfold labLook
  rw [List.reverse_append]
  show ((s :: l.reverse).find? _).map _ = _
  rw [List.find?_cons]
  cases h : (s.lab && s.id == id) <;> simp
def misfit (l : List Sec) (s : Sec) (n : Int) : Bool := match labLook l n with
  | none => true
  | some (c, t) => c != s.course || t != s.term
theorem labLook_some {l : List Sec} {n c t : Int} (h : labLook l n = some (c, t)) : ∃ x ∈ l, x.lab = true ∧ x.id = n ∧ x.course = c ∧ x.term = t := by
  unfold labLook at h
  cases e : l.reverse.find? (fun s => s.lab && s.id == n) with
  | none => rw [e] at h; cases h
  | some x =>
    rw [e] at h
    have h1 := List.find?_some e
    have h2 := List.mem_reverse.1 (List.mem_of_find?_eq_some e)
    simp only [Bool.and_eq_true, beq_iff_eq] at h1
    simp only [Option.map_some, Option.some.injEq, Prod.mk.injEq] at h
    exact ⟨x, h2, h1.1, h1.2, h.1, h.2⟩
theorem labLook_none {l : List Sec} {n : Int} (h : labLook l n = none) : ∀ x ∈ l, ¬ (x.lab = true ∧ x.id = n) := by
  unfold labLook at h
  rw [Option.map_eq_none_iff, List.find?_eq_none] at h
  intro x hx h2
  have := h x (List.mem_reverse.2 hx)
  simp [h2] at this
theorem ids_unique {l : List Sec} (h : l.Pairwise (fun a b => a.id < b.id)) {x y : Sec} (hx : x ∈ l) (hy : y ∈ l) (e : x.id = y.id) : x = y := by
  obtain ⟨i, hi, rfl⟩ := List.mem_iff_getElem.1 hx
  obtain ⟨j, hj, rfl⟩ := List.mem_iff_getElem.1 hy
  have hp := List.pairwise_iff_getElem.1 h
  rcases Nat.lt_trichotomy i j with h1 | h1 | h1
  · have := hp i j hi hj h1; omega
  · subst h1; rfl
  · have := hp j i hj hi h1; omega
theorem Fits.no_misfit {l : List Sec} (h : Fits l) {s : Sec} (hs : s ∈ l) {n : Int} (hn : n ∈ s.labs) : misfit l s n = false := by
  obtain ⟨t, ht, h1, h2, h3, h4⟩ := h.2 s hs n hn
  unfold misfit
  cases e : labLook l n with
  | none => exact absurd ⟨h2, h1⟩ (labLook_none e t ht)
  | some p =>
    obtain ⟨c, d⟩ := p
    obtain ⟨x, hx, k1, k2, k3, k4⟩ := labLook_some e
    have := ids_unique h.1 hx ht (by omega)
    subst this
    simp [← k3, ← k4, h3, h4]
theorem Fits.of_fit {l : List Sec} (h : l.Pairwise (fun a b => a.id < b.id)) (hm : ∀ s ∈ l, ∀ n ∈ s.labs, misfit l s n = false) : Fits l := by
  refine ⟨h, fun s hs n hn => ?_⟩
  have h1 := hm s hs n hn
  unfold misfit at h1
  cases e : labLook l n with
  | none => rw [e] at h1; cases h1
  | some p =>
    obtain ⟨c, d⟩ := p
    rw [e] at h1
    obtain ⟨x, hx, k1, k2, k3, k4⟩ := labLook_some e
    simp only [Bool.or_eq_false_iff, bne_eq_false_iff_eq] at h1
    exact ⟨x, hx, k2, k1, by omega, by omega⟩
end Go.Proofs.YteonpdnncodkaaaGreatDoor
