/- What SeatsFree compares, over numbers and lists alone. -/
import Derived.Test.YteonpdnncodkaaaDoorTake0
import Derived.Test.YteonpdnncodkaaaDoorLawB
set_option linter.unusedVariables false
set_option linter.unusedSimpArgs false
namespace Go.Proofs.YteonpdnncodkaaaDoor

/-- Is a seat free for one of the groups? -/
def anyFree (l : List Sec) (T : List Seat) (sec now : Int) (ps : List Int) : Bool := ps.any fun g => decide (0 < freeV l T sec g now)
theorem anyFree_snoc (l : List Sec) (T : List Seat) (sec now : Int) (ps : List Int) (g : Int) : anyFree l T sec now (ps ++ [g]) = (anyFree l T sec now ps || decide (0 < freeV l T sec g now)) := by
  unfold anyFree
  simp [List.any_append]
/-- The group of the student's seat: the last one that is met. -/
def lastG (stu sec : Int) (L : List Seat) : Int := L.foldl (fun a y => if (y.stu == stu && y.sec == sec) = true then y.grp else a) (-2)
theorem lastG_snoc (stu sec : Int) (L : List Seat) (y : Seat) : lastG stu sec (L ++ [y]) = if (y.stu == stu && y.sec == sec) = true then y.grp else lastG stu sec L := by
  unfold lastG
  rw [List.foldl_append]
  rfl
theorem lastG_of {stu sec g : Int} : ∀ (L : List Seat) (a : Int), (∀ y ∈ L, (y.stu == stu && y.sec == sec) = true → y.grp = g) → ((∃ y ∈ L, (y.stu == stu && y.sec == sec) = true) ∨ a = g) → L.foldl (fun a y => if (y.stu == stu && y.sec == sec) = true then y.grp else a) a = g
  | [], a, _, h => by
    rcases h with ⟨y, hy, _⟩ | h
    · cases hy
    · exact h
  | x :: t, a, hall, h => by
    rw [List.foldl_cons]
    refine lastG_of t _ (fun y hy => hall y (by simp [hy])) ?_
    by_cases hx : (x.stu == stu && x.sec == sec) = true
    · right; rw [if_pos hx]; exact hall x (by simp) hx
    · rw [if_neg hx]
      rcases h with ⟨y, hy, hk⟩ | h
      · rcases List.mem_cons.1 hy with rfl | hy
        · exact absurd hk hx
        · exact .inl ⟨y, hy, hk⟩
      · exact .inr h
theorem lastG_add {T : List Seat} {stu sec g : Int} (h : hasSeat T stu sec = false) : lastG stu sec (addS T ⟨stu, sec, g⟩) = g := by
  refine lastG_of _ _ (fun y hy hk => ?_) (.inl ⟨⟨stu, sec, g⟩, addS_mem.2 (.inl rfl), by simp⟩)
  rcases addS_mem.1 hy with rfl | hy
  · rfl
  · simp only [Bool.and_eq_true, beq_iff_eq] at hk
    exact absurd hk (hasSeat_false.1 h y hy)

structure FreeWon (l : List Sec) (T X : List Seat) (stu sec now g : Int) (groups : List Int) : Prop where
  mem : g = -1 ∨ g ∈ groups
  last : lastG stu sec X = g
  less : freeV l X sec g now = freeV l T sec g now - 1
  bnd : 0 ≤ freeV l T sec g now ∧ freeV l T sec g now ≤ 4096
  e1 : freeE l T sec g = 0
  e2 : freeE l X sec g = 0
theorem free_law {l : List Sec} {T : List Seat} {stu sec now : Int} {groups : List Int} (hc : seatCheck l T = 0) (hb : bunCheck l sec (-1) = 0) (hs : 0 ≤ stu ∧ stu < 20000) (hg : groupsOk groups) (hn : hasSeat T stu sec = false) :
    (takeE l T stu sec (-1) groups now = 251 ∧ anyFree l T sec now (-1 :: groups) = false) ∨
    (takeE l T stu sec (-1) groups now = 0 ∧ anyFree l T sec now (-1 :: groups) = true ∧ ∃ g, FreeWon l T (takeX l T stu sec (-1) groups now) stu sec now g groups) := by
  obtain ⟨h0, s, hf, _, _⟩ := bunCheck_zero hb
  have hA := atSec hc hf
  have hgr : ∀ g ∈ (-1 :: groups), -1 ≤ g ∧ g < 8 := fun g h => by
    rcases List.mem_cons.1 h with rfl | h
    · omega
    · have := hg.1 g h; omega
  have hno : hasAny T stu (partsB sec (-1)) = false := by
    unfold hasAny
    rw [any_partsB, hn]; rfl
  have hE := takeE_tail (l := l) (T := T) (stu := stu) (sec := sec) (lab := -1) (groups := groups) (now := now) hc hb (decide_eq_true ⟨hs.1, hs.2, hg⟩) hno
  rw [takeOne_eq hf] at hE
  cases hp : pick s (ofSec T sec) groups now with
  | none =>
    rw [hp] at hE
    refine .inl ⟨hE, ?_⟩
    unfold anyFree
    rw [List.any_eq_false]
    intro g hgm
    have := none_free hA hp g hgm
    rw [freeV_ok hc hf (hgr g hgm)]
    simp; omega
  | some g =>
    rw [hp] at hE
    have hE0 : takeE l T stu sec (-1) groups now = 0 := hE
    have hT := take_ok hE0
    obtain ⟨hm, hfr⟩ := free_of_pick hA hg hp
    have hgm : g ∈ (-1 :: groups) := by rcases hm with rfl | hm <;> simp [*]
    have hb1 := freeN_nonneg hA g now
    have hse := wi_true.1 hA.formed.2.2.2.2.1
    have hX : takeX l T stu sec (-1) groups now = addS T ⟨stu, sec, g⟩ := by
      unfold takeX
      rw [if_neg (by simp [hE0]), takeOne_eq hf, hp]
      rfl
    refine .inr ⟨hE0, ?_, g, hm, ?_, ?_, ?_, freeE_ok hc hf (hgr g hgm), freeE_ok hT.checkX hf (hgr g hgm)⟩
    · unfold anyFree
      rw [List.any_eq_true]
      exact ⟨g, hgm, by rw [freeV_ok hc hf (hgr g hgm)]; simpa using hfr⟩
    · rw [hX]; exact lastG_add hn
    · rw [freeV_ok hT.checkX hf (hgr g hgm), freeV_ok hc hf (hgr g hgm), hX]
      have hid := (find_mem hf).2
      have hpk := (pick_ok (sec := sec) hg hs hp).2
      have := free_less (s := s) (T := T) (x := ⟨stu, sec, g⟩) (now := now) (by simp [hid]) (by rw [hid]; exact hA) (by rw [hid]; exact hpk)
      rw [hid] at this
      exact this
    · rw [freeV_ok hc hf (hgr g hgm)]
      unfold allF at hb1
      omega
theorem freeV_nonneg {l : List Sec} {T : List Seat} {sec now g : Int} (hc : seatCheck l T = 0) (hb : bunCheck l sec (-1) = 0) (hg : -1 ≤ g ∧ g < 8) : 0 ≤ freeV l T sec g now ∧ freeE l T sec g = 0 := by
  obtain ⟨h0, s, hf, _, _⟩ := bunCheck_zero hb
  rw [freeV_ok hc hf hg]
  exact ⟨(freeN_nonneg (atSec hc hf) g now).1, freeE_ok hc hf hg⟩
end Go.Proofs.YteonpdnncodkaaaDoor
