/- What the layers 22 and 23 compute, over numbers and lists alone: no Go and no memory. -/
namespace Go.Proofs.YteonpdnncodkaaaGreatDoor

/-! ### data -/
structure Mt where
  (day frm til fst lst : Int)
  deriving DecidableEq, Inhabited
structure Gp where
  (g s u : Int)
  deriving DecidableEq, Inhabited
structure Seat where
  (stu sec grp : Int)
  deriving DecidableEq, Inhabited
structure Sec where
  (id course term campus seats : Int)
  meets : List Mt
  groups : List Gp
  labs : List Int
  lab : Bool
  deriving DecidableEq, Inhabited
def Sec.zero : Sec := ⟨0, 0, 0, 0, 0, [], [], [], false⟩


/-! ### layer 22 -/
def Mt.ok (m : Mt) : Bool := decide (0 ≤ m.day ∧ m.day < 7 ∧ 0 ≤ m.frm ∧ m.frm < m.til ∧ m.til ≤ 1440 ∧ 0 ≤ m.fst ∧ m.fst ≤ m.lst ∧ m.lst < 60)
/-- As sizarref22 has it. -/
def Mt.meets (a b : Mt) : Bool := decide (a.day = b.day ∧ a.frm < b.til ∧ b.frm < a.til ∧ a.fst ≤ b.lst ∧ b.fst ≤ a.lst)
/-- As meeting has it. -/
def Mt.over (a b : Mt) : Bool := decide (a.day = b.day ∧ max a.frm b.frm < min a.til b.til ∧ max a.fst b.fst ≤ min a.lst b.lst)
theorem Mt.over_eq {a b : Mt} (ha : a.ok = true) (hb : b.ok = true) : a.over b = a.meets b := by
  unfold Mt.over Mt.meets
  unfold Mt.ok at ha hb
  simp only [decide_eq_true_eq] at ha hb
  rw [Bool.eq_iff_iff]
  simp only [decide_eq_true_eq]
  omega

/-- A valid list of meetings. -/
def MOk (l : List Mt) : Prop := (∀ m ∈ l, m.ok = true) ∧ l.Pairwise fun a b => a.meets b = false
instance (l : List Mt) : Decidable (MOk l) := inferInstanceAs (Decidable (_ ∧ _))
def meetCheck (l : List Mt) : Int := if l.length ≤ 16 ∧ MOk l then 0 else 220
theorem MOk.step {l : List Mt} {i : Nat} (hi : i < l.length) (h : MOk (l.take i)) (hv : l[i].ok = true) (ho : ∀ k, (hk : k < i) → (l[k]'(by omega)).meets l[i] = false) : MOk (l.take (i + 1)) := by
  rw [List.take_succ_eq_append_getElem hi]
  refine ⟨fun m hm => ?_, ?_⟩
  · rcases List.mem_append.1 hm with hm | hm
    · exact h.1 m hm
    · rw [List.mem_singleton.1 hm]; exact hv
  · rw [List.pairwise_append]
    refine ⟨h.2, List.pairwise_singleton _ _, fun a ha b hb => ?_⟩
    rw [List.mem_singleton.1 hb]
    obtain ⟨k, hk, rfl⟩ := List.mem_iff_getElem.1 ha
    have hk' : k < i := by rw [List.length_take] at hk; omega
    rw [List.getElem_take]
    exact ho k hk'
theorem meetCheck_invalid {l : List Mt} {i : Nat} (hi : i < l.length) (hv : l[i].ok = false) : meetCheck l = 220 := by
  unfold meetCheck
  rw [if_neg]
  rintro ⟨_, h, _⟩
  rw [h _ (List.getElem_mem hi)] at hv
  cases hv
theorem meetCheck_clash {l : List Mt} {k i : Nat} (hk : k < i) (hi : i < l.length) (hv : (l[k]'(by omega)).meets l[i] = true) : meetCheck l = 220 := by
  unfold meetCheck
  rw [if_neg]
  rintro ⟨_, _, h⟩
  rw [List.pairwise_iff_getElem.1 h k i (by omega) hi hk] at hv
  cases hv
theorem meetCheck_long {l : List Mt} (h : 16 < l.length) : meetCheck l = 220 := by
  unfold meetCheck
  rw [if_neg (by omega)]
theorem meetCheck_ok {l : List Mt} (h : l.length ≤ 16) (hm : MOk l) : meetCheck l = 0 := by
  unfold meetCheck
  rw [if_pos ⟨h, hm⟩]

def fewSec (s : Sec) : Bool := decide (s.meets.length ≤ 24 ∧ s.groups.length ≤ 12 ∧ s.labs.length ≤ 12)
def few23 (l : List Sec) : Bool := l.all fewSec && decide (l.length ≤ 12)
/-- The section with an ID. -/
def find (l : List Sec) (id : Int) : Option Sec := l.find? fun s => s.id == id
def keptIn (l : List Gp) (g now : Int) : Int :=
  match l.find? fun x => x.g == g with
  | some x => if now < x.u then x.s else 0
  | none => 0
def kept (s : Sec) (g now : Int) : Int := keptIn s.groups g now
/-- The index of the first element that p takes, or -1. -/
def idx {α : Type} (p : α → Bool) (l : List α) : Int := match l.findIdx? p with | some i => (i : Int) | none => -1
theorem idx_none_step {α : Type} {p : α → Bool} {l : List α} {k : Nat} (hk : k < l.length) (h : ∀ q, (hq : q < k) → p (l[q]'(by omega)) = false) (h2 : p l[k] = false) : ∀ q, (hq : q < k + 1) → p (l[q]'(by omega)) = false := by
  intro q hq
  by_cases e : q = k
  · subst e; exact h2
  · exact h q (by omega)
theorem idx_some {α : Type} {p : α → Bool} {l : List α} {k : Nat} (hk : k < l.length) (h : ∀ q, (hq : q < k) → p (l[q]'(by omega)) = false) (h2 : p l[k] = true) : idx p l = k := by
  unfold idx
  rw [List.findIdx?_eq_some_iff_getElem.2 ⟨hk, h2, fun j hj => by simp [h j hj]⟩]
theorem idx_none {α : Type} {p : α → Bool} {l : List α} (h : ∀ q, (hq : q < l.length) → p l[q] = false) : idx p l = -1 := by
  unfold idx
  rw [List.findIdx?_eq_none_iff.2 (fun x hx => by
    obtain ⟨q, hq, rfl⟩ := List.mem_iff_getElem.1 hx
    exact h q hq)]
theorem idx_cases {α : Type} (p : α → Bool) (l : List α) : (idx p l = -1 ∧ ∀ x ∈ l, p x = false) ∨ ∃ k, ∃ hk : k < l.length, idx p l = k ∧ p l[k] = true ∧ ∀ q, (hq : q < k) → p (l[q]'(by omega)) = false := by
  unfold idx
  cases h : l.findIdx? p with
  | none => exact .inl ⟨rfl, fun x hx => List.findIdx?_eq_none_iff.1 h x hx⟩
  | some k =>
    obtain ⟨hk, h1, h2⟩ := List.findIdx?_eq_some_iff_getElem.1 h
    exact .inr ⟨k, hk, rfl, h1, fun q hq => by simpa using h2 q hq⟩
theorem idx_any {α : Type} (p : α → Bool) (l : List α) : decide (0 ≤ idx p l) = l.any p := by
  rcases idx_cases p l with ⟨h, hn⟩ | ⟨k, hk, h, hp, _⟩
  · rw [h, List.any_eq_false.2 (fun x hx => by simp [hn x hx])]; rfl
  · rw [h, List.any_eq_true.2 ⟨_, List.getElem_mem hk, hp⟩]; simp
theorem keptIn_idx_none {l : List Gp} {g : Int} (now : Int) (h : ∀ x ∈ l, (x.g == g) = false) : keptIn l g now = 0 := by
  unfold keptIn
  rw [List.find?_eq_none.2 (fun x hx => by simp [h x hx])]
theorem keptIn_idx {l : List Gp} {g : Int} (now : Int) {k : Nat} (hk : k < l.length) (h1 : (l[k].g == g) = true) (h2 : ∀ q, (hq : q < k) → ((l[q]'(by omega)).g == g) = false) : keptIn l g now = if now < l[k].u then l[k].s else 0 := by
  have e : l.find? (fun x => x.g == g) = some l[k] := List.find?_eq_some_iff_getElem.2 ⟨h1, k, hk, rfl, fun j hj => by simp [h2 j hj]⟩
  unfold keptIn
  rw [e]
theorem find_idx_none {l : List Sec} {id : Int} (h : ∀ x ∈ l, (x.id == id) = false) : find l id = none := by
  unfold find
  rw [List.find?_eq_none.2 (fun x hx => by simp [h x hx])]
theorem find_idx {l : List Sec} {id : Int} {k : Nat} (hk : k < l.length) (h1 : (l[k].id == id) = true) (h2 : ∀ q, (hq : q < k) → ((l[q]'(by omega)).id == id) = false) : find l id = some l[k] := by
  unfold find
  exact List.find?_eq_some_iff_getElem.2 ⟨h1, k, hk, rfl, fun j hj => by simp [h2 j hj]⟩
end Go.Proofs.YteonpdnncodkaaaGreatDoor
