/- Layer 25 over numbers and lists: counts, valid seats. -/
import Derived.Test.YteonpdnncodkaaaGreatDoorSpec2
namespace Go.Proofs.YteonpdnncodkaaaGreatDoor

/-- The greatest of a list. -/
def mxI : List Int → Int
  | [] => 0
  | x :: t => t.foldl max x
theorem foldl_max_ge (t : List Int) : ∀ x : Int, x ≤ t.foldl max x ∧ (∀ y ∈ t, y ≤ t.foldl max x) ∧ (t.foldl max x = x ∨ t.foldl max x ∈ t) := by
  induction t with
  | nil => intro x; exact ⟨Int.le_refl _, by simp, .inl rfl⟩
  | cons y t ih =>
    intro x
    obtain ⟨h1, h2, h3⟩ := ih (max x y)
    refine ⟨by simp only [List.foldl_cons]; omega, fun z hz => ?_, ?_⟩
    · rcases List.mem_cons.1 hz with rfl | hz
      · simp only [List.foldl_cons]; omega
      · exact h2 z hz
    · simp only [List.foldl_cons]
      rcases h3 with h3 | h3
      · rw [h3]
        rcases Int.le_total x y with h | h
        · right; rw [Int.max_eq_right h]; simp
        · left; rw [Int.max_eq_left h]
      · right; simp [h3]
theorem mxI_pos {l : List Int} (h : l ≠ []) : 0 < mxI l ↔ ∃ x ∈ l, 0 < x := by
  cases l with
  | nil => exact absurd rfl h
  | cons x t =>
    obtain ⟨h1, h2, h3⟩ := foldl_max_ge t x
    show 0 < t.foldl max x ↔ _
    constructor
    · intro hp
      rcases h3 with h3 | h3
      · exact ⟨x, by simp, by omega⟩
      · exact ⟨_, by simp [h3], hp⟩
    · rintro ⟨y, hy, hp⟩
      rcases List.mem_cons.1 hy with rfl | hy
      · omega
      · have := h2 y hy; omega
theorem mxI_take {l : List Int} {k : Nat} (hk : k < l.length) (h0 : 0 < k) : mxI (l.take (k + 1)) = max (mxI (l.take k)) l[k] := by
  cases l with
  | nil => simp at hk
  | cons x t =>
    obtain ⟨k, rfl⟩ : ∃ j, k = j + 1 := ⟨k - 1, by omega⟩
    simp only [List.take_succ_cons, mxI, List.getElem_cons_succ]
    rw [List.take_succ_eq_append_getElem (by simpa using hk), List.foldl_append]
    rfl

/-! ### seats -/
/-- How many of the seats have a group. -/
def cn (l : List Seat) (g : Int) : Int := (l.countP fun s => s.grp == g : Nat)
theorem cn_bound (l : List Seat) (g : Int) : 0 ≤ cn l g ∧ cn l g ≤ l.length := by
  unfold cn
  have := List.countP_le_length (p := fun s : Seat => s.grp == g) (l := l)
  omega
theorem cn_snoc (l : List Seat) (x : Seat) (g : Int) : cn (l ++ [x]) g = cn l g + if x.grp = g then 1 else 0 := by
  unfold cn
  rw [List.countP_append]
  by_cases h : x.grp = g <;> simp [h]
def ofSec (l : List Seat) (sec : Int) : List Seat := l.filter fun s => s.sec == sec
theorem ofSec_pre (l : List Seat) (sec : Int) (k : Nat) : ofSec (l.take k) sec <+: ofSec l sec := by
  unfold ofSec
  refine ⟨(l.drop k).filter fun s => s.sec == sec, ?_⟩
  rw [← List.filter_append, List.take_append_drop]
def hasSeat (l : List Seat) (stu sec : Int) : Bool := l.any fun s => s.stu == stu && s.sec == sec

/-- cmp.Compare. -/
def cmpI (x y : Int) : Int := if x < y then -1 else if y < x then 1 else 0
def orI (a b : Int) : Int := if a ≠ 0 then a else b
/-- seats.compare. -/
def cmpSeat (a b : Seat) : Int := orI (cmpI a.sec b.sec) (cmpI a.stu b.stu)
def seatLt (a b : Seat) : Prop := a.sec < b.sec ∨ (a.sec = b.sec ∧ a.stu < b.stu)
instance (a b : Seat) : Decidable (seatLt a b) := inferInstanceAs (Decidable (_ ∨ _))
theorem cmpSeat_neg {a b : Seat} : cmpSeat a b < 0 ↔ seatLt a b := by
  unfold cmpSeat orI cmpI seatLt
  split <;> (repeat' split) <;> omega
theorem cmpSeat_pos {a b : Seat} : 0 < cmpSeat a b ↔ seatLt b a := by
  unfold cmpSeat orI cmpI seatLt
  split <;> (repeat' split) <;> omega
theorem cmpSeat_zero {a b : Seat} : cmpSeat a b = 0 ↔ a.sec = b.sec ∧ a.stu = b.stu := by
  unfold cmpSeat orI cmpI
  split <;> (repeat' split) <;> omega

def seatOk (x : Seat) : Prop := 0 ≤ x.stu ∧ x.stu < 20000 ∧ -1 ≤ x.grp ∧ x.grp < 8
instance (x : Seat) : Decidable (seatOk x) := inferInstanceAs (Decidable (_ ∧ _))
/-- The seats of the element of Groups with a group. -/
def resv (s : Sec) (g : Int) : Int := match s.groups.find? fun x => x.g == g with
  | some x => x.s
  | none => 0
/-- What is left of the counts when the first groups have been subtracted. -/
def restG (L : List Gp) (c : Int → Int) (g : Int) : Int := match L.find? fun x => x.g == g with
  | some x => c g - min x.s (c g)
  | none => c g
def isIn (l : List Sec) (taken : List Seat) : Prop := ∀ x ∈ taken, seatOk x ∧ (find l x.sec).isSome = true
def room (taken : List Seat) (s : Sec) : Prop := (ofSec taken s.id).length ≤ s.seats ∧ ∀ g ∈ ([0, 1, 2, 3, 4, 5, 6, 7] : List Int), cn (ofSec taken s.id) g ≤ resv s g
instance (taken : List Seat) (s : Sec) : Decidable (room taken s) := inferInstanceAs (Decidable (_ ∧ _))
instance (l : List Sec) (taken : List Seat) : Decidable (isIn l taken) := by unfold isIn; infer_instance
/-- Seats are valid for sections. -/
def ValidS (l : List Sec) (taken : List Seat) : Prop := isIn l taken ∧ taken.Pairwise seatLt ∧ ∀ s ∈ l, room taken s
instance (l : List Sec) (taken : List Seat) : Decidable (ValidS l taken) := by unfold ValidS; infer_instance
def seatCheck (l : List Sec) (taken : List Seat) : Int := if checkAllS l ≠ 0 then checkAllS l else if ValidS l taken then 0 else 250

theorem seatLt_trans {a b c : Seat} (h : seatLt a b) (k : seatLt b c) : seatLt a c := by unfold seatLt at *; omega
theorem seatCheck_err {l : List Sec} {taken : List Seat} (h : checkAllS l ≠ 0) : seatCheck l taken = checkAllS l := if_pos h
theorem seatCheck_zero {l : List Sec} {taken : List Seat} (h : seatCheck l taken = 0) : checkAllS l = 0 ∧ ValidS l taken := by
  unfold seatCheck at h
  by_cases h0 : checkAllS l = 0
  · rw [if_neg (by simp [h0])] at h
    refine ⟨h0, ?_⟩
    by_cases hv : ValidS l taken
    · exact hv
    · rw [if_neg hv] at h; cases h
  · rw [if_pos h0] at h; exact absurd h h0
theorem seatCheck_ok {l : List Sec} {taken : List Seat} (h0 : checkAllS l = 0) (hv : ValidS l taken) : seatCheck l taken = 0 := by
  unfold seatCheck
  rw [if_neg (by simp [h0]), if_pos hv]
theorem seatCheck_no {l : List Sec} {taken : List Seat} (h0 : checkAllS l = 0) (hv : ¬ ValidS l taken) : seatCheck l taken = 250 := by
  unfold seatCheck
  rw [if_neg (by simp [h0]), if_neg hv]
theorem sorted_step {taken : List Seat} {k : Nat} (hk : k < taken.length) (h : (taken.take k).Pairwise seatLt) (hl : ∀ _ : 0 < k, seatLt (taken[k - 1]'(by omega)) taken[k]) : (taken.take (k + 1)).Pairwise seatLt := by
  rw [List.take_succ_eq_append_getElem hk]
  refine List.pairwise_append.2 ⟨h, List.pairwise_singleton _ _, fun a ha b hb => ?_⟩
  rw [List.mem_singleton.1 hb]
  obtain ⟨i, hi, rfl⟩ := List.mem_iff_getElem.1 ha
  have hi' : i < k := by rw [List.length_take] at hi; omega
  rw [List.getElem_take]
  have h1 := hl (by omega)
  by_cases e : i = k - 1
  · subst e; exact h1
  · refine seatLt_trans ?_ h1
    have := List.pairwise_iff_getElem.1 h i (k - 1) hi (by rw [List.length_take]; omega) (by omega)
    rwa [List.getElem_take, List.getElem_take] at this
theorem not_sorted {taken : List Seat} {k : Nat} (hk : k < taken.length) (h0 : 0 < k) (h : ¬ seatLt (taken[k - 1]'(by omega)) taken[k]) : ¬ taken.Pairwise seatLt := fun hp =>
  h (List.pairwise_iff_getElem.1 hp (k - 1) k (by omega) hk (by omega))
theorem isIn_step {l : List Sec} {taken : List Seat} {k : Nat} (hk : k < taken.length) (h : isIn l (taken.take k)) (h1 : seatOk taken[k]) (h2 : (find l taken[k].sec).isSome = true) : isIn l (taken.take (k + 1)) := by
  intro x hx
  rw [List.take_succ_eq_append_getElem hk] at hx
  rcases List.mem_append.1 hx with hx | hx
  · exact h x hx
  · rw [List.mem_singleton.1 hx]; exact ⟨h1, h2⟩
theorem restG_le {s : Sec} {c : Int → Int} (hc : ∀ g, 0 ≤ c g) (g : Int) : 0 < restG s.groups c g ↔ ¬ c g ≤ resv s g := by
  unfold restG resv
  have := hc g
  split <;> omega
theorem room_iff {taken : List Seat} {s : Sec} : room taken s ↔ ((ofSec taken s.id).length ≤ s.seats ∧ ¬ 0 < mxI [restG s.groups (cn (ofSec taken s.id)) 0, restG s.groups (cn (ofSec taken s.id)) 1, restG s.groups (cn (ofSec taken s.id)) 2, restG s.groups (cn (ofSec taken s.id)) 3, restG s.groups (cn (ofSec taken s.id)) 4, restG s.groups (cn (ofSec taken s.id)) 5, restG s.groups (cn (ofSec taken s.id)) 6, restG s.groups (cn (ofSec taken s.id)) 7]) := by
  unfold room
  rw [mxI_pos (by simp)]
  have hr := fun g => restG_le (s := s) (c := cn (ofSec taken s.id)) (fun g => (cn_bound _ g).1) g
  simp only [List.mem_cons, List.not_mem_nil, or_false, forall_eq_or_imp, forall_eq, exists_eq_or_imp, exists_eq_left, hr]
  constructor
  · rintro ⟨h, h0, h1, h2, h3, h4, h5, h6, h7⟩
    exact ⟨h, by omega⟩
  · rintro ⟨h, h1⟩
    exact ⟨h, by omega⟩
end Go.Proofs.YteonpdnncodkaaaGreatDoor
