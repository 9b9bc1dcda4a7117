/- The laws of layer 25 over numbers and lists alone. -/
import Derived.Test.YteonpdnncodkaaaGreatDoorSpec4
set_option linter.unusedVariables false
set_option linter.unusedSimpArgs false
namespace Go.Proofs.YteonpdnncodkaaaGreatDoor

theorem freeE_ok {l : List Sec} {T : List Seat} {sec group : Int} {s : Sec} (hc : seatCheck l T = 0) (hf : find l sec = some s) (hg : -1 ≤ group ∧ group < 8) : freeE l T sec group = 0 := by
  unfold freeE
  rw [if_neg (by simp [hc]), if_neg (by omega), hf]; rfl
theorem freeV_ok {l : List Sec} {T : List Seat} {sec group : Int} {s : Sec} (hc : seatCheck l T = 0) (hf : find l sec = some s) (hg : -1 ≤ group ∧ group < 8) (now : Int) : freeV l T sec group now = freeN s (ofSec T sec) group now := by
  unfold freeV
  rw [if_pos (freeE_ok hc hf hg), hf]; rfl

/-! ### what is known of a valid list of seats at one section -/
structure AtSec (s : Sec) (L : List Seat) : Prop where
  formed : Formed s
  grp : ∀ x ∈ L, -1 ≤ x.grp ∧ x.grp < 8
  all : 0 ≤ allF s L
theorem atSec {l : List Sec} {T : List Seat} (hc : seatCheck l T = 0) {sec : Int} {s : Sec} (hf : find l sec = some s) : AtSec s (ofSec T sec) := by
  obtain ⟨h0, hv⟩ := seatCheck_zero hc
  obtain ⟨hm, rfl⟩ := find_mem hf
  exact ⟨formed_of h0 hm, ofSec_ok hv.1 s.id, allF_nonneg hv hm⟩
theorem freeN_nonneg {s : Sec} {L : List Seat} (h : AtSec s L) (group now : Int) : 0 ≤ freeN s L group now ∧ freeN s L (-1) now ≤ freeN s L group now ∧ freeN s L group now ≤ allF s L := by
  have h1 := genF_le h.grp h.all now
  have h2 := resF_le (s := s) (L := L) h.all now group
  unfold freeN
  rw [if_neg (show ¬ (0 : Int) ≤ -1 by omega)]
  split <;> omega
theorem law_time {s : Sec} {L : List Seat} (h : AtSec s L) {group now later : Int} (hn : now ≤ later) :
    freeN s L (-1) now ≤ freeN s L (-1) later ∧ freeN s L (-1) now ≤ freeN s L group now ∧ freeN s L group now ≤ s.seats - L.length ∧ freeN s L (-1) later ≤ s.seats - L.length := by
  have h1 := freeN_nonneg h group now
  have h2 := freeN_nonneg h group later
  have h3 := genF_later h.formed L hn
  have h4 := freeN_nonneg h (-1) later
  unfold allF at h1 h2 h4
  refine ⟨?_, by omega, by omega, by omega⟩
  unfold freeN
  rw [if_neg (by omega), if_neg (by omega)]
  exact h3

/-! ### SeatsFree -/
theorem free_of_pick {s : Sec} {L : List Seat} (h : AtSec s L) {groups : List Int} {now g : Int} (hg : groupsOk groups) (hp : pick s L groups now = some g) : (g = -1 ∨ g ∈ groups) ∧ 0 < freeN s L g now := by
  have h1 := genF_le h.grp h.all now
  have h2 := resF_le (s := s) (L := L) h.all now g
  unfold freeN
  rcases pick_some hp with ⟨k1, k2⟩ | ⟨rfl, k1, _⟩
  · have := hg.1 g k1
    exact ⟨.inr k1, by rw [if_pos this.1]; omega⟩
  · exact ⟨.inl rfl, by rw [if_neg (by omega)]; omega⟩
theorem none_free {s : Sec} {L : List Seat} (h : AtSec s L) {groups : List Int} {now : Int} (hp : pick s L groups now = none) : ∀ g ∈ (-1 :: groups), freeN s L g now ≤ 0 := by
  obtain ⟨h1, h2⟩ := pick_none hp
  intro g hg
  unfold freeN
  rcases List.mem_cons.1 hg with rfl | hg
  · rw [if_neg (by omega)]; omega
  · have := h2 g hg
    split <;> omega
theorem gsum_congr {s : Sec} {L L' : List Seat} {now : Int} (h : ∀ g : Int, 0 ≤ g → max (kept s g now) (cn L' g) = max (kept s g now) (cn L g)) (k : Nat) : gsum s L' now k = gsum s L now k := by
  induction k with
  | zero => rfl
  | succ k ih => simp only [gsum]; rw [ih, h k (by omega)]
theorem free_less {s : Sec} {T : List Seat} {x : Seat} (hx : x.sec = s.id) (h : AtSec s (ofSec T s.id)) {now : Int} (hg : (0 ≤ x.grp ∧ 0 < resF s (ofSec T s.id) now x.grp) ∨ (x.grp = -1 ∧ genF s (ofSec T s.id) now ≠ 0)) :
    freeN s (ofSec (addS T x) s.id) x.grp now = freeN s (ofSec T s.id) x.grp now - 1 := by
  have h1 := genF_le h.grp h.all now
  have h2 := resF_le (s := s) (L := ofSec T s.id) h.all now x.grp
  have hl := ofSec_add T x s.id
  rw [if_pos hx] at hl
  have hc := fun g => cn_add T x s.id g
  generalize ofSec (addS T x) s.id = L' at *
  generalize ofSec T s.id = L at *
  rcases hg with ⟨k1, k2⟩ | ⟨k1, k2⟩
  · have e1 : genF s L' now = genF s L now := by
      unfold genF
      rw [hc (-1), if_neg (by omega), gsum_congr (L := L) (L' := L') (now := now) (s := s)]
      · omega
      · intro g hg0
        rw [hc g]
        by_cases e : x.grp = g
        · rw [if_pos ⟨hx, e⟩]
          unfold resF at k2
          rw [e] at k2
          omega
        · rw [if_neg (by omega)]; omega
    have e2 := hc x.grp
    rw [if_pos ⟨hx, rfl⟩] at e2
    unfold freeN
    rw [if_pos k1, if_pos k1, e1]
    unfold resF allF at *
    rw [e2, hl]
    omega
  · have e1 : gsum s L' now 8 = gsum s L now 8 := by
      refine gsum_congr (fun g hg0 => ?_) 8
      rw [hc g, if_neg (by omega)]; omega
    have e2 := hc (-1)
    rw [if_pos ⟨hx, k1⟩] at e2
    unfold freeN
    rw [k1, if_neg (by omega), if_neg (by omega)]
    unfold genF at *
    rw [e1, e2]
    omega

/-! ### SeatsReserved -/
theorem gsum_room {s : Sec} {L : List Seat} (now : Int) (h : ∀ x ∈ L, -1 ≤ x.grp ∧ x.grp < 8) (g : Nat) (hg : g < 8) : (L.length : Int) + max (kept s g now - cn L g) 0 ≤ cn L (-1) + gsum s L now 8 := by
  have h1 := len_counts h
  have h2 := gsum_ge_at s L now 8 g hg
  omega
structure Resv (l : List Sec) (T X : List Seat) (sec now : Int) (y : Sec) : Prop where
  find : find l sec = some y
  plus : cn (ofSec X sec) (-1) = cn (ofSec T sec) (-1) + 1
  same : ∀ g : Int, 0 ≤ g → cn (ofSec X sec) g = cn (ofSec T sec) g
  left : ∀ g : Int, 0 ≤ g → g < 8 → max (kept y g now - cn (ofSec X sec) g) 0 ≤ y.seats - (ofSec X sec).length
  free : ∀ g : Int, 0 ≤ g → g < 8 → freeV l X sec g now = min (freeV l X sec (-1) now + min (max (kept y g now - cn (ofSec X sec) g) 0) (y.seats - (ofSec X sec).length)) (y.seats - (ofSec X sec).length)
  okE : ∀ g : Int, -1 ≤ g → g < 8 → freeE l X sec g = 0
theorem law_reserved {l : List Sec} {T X : List Seat} {stu sec now : Int} (h : Took l T stu sec (-1) [] now X) : ∃ y, Resv l T X sec now y := by
  obtain ⟨s, g1, hf, hp, ⟨_, hX⟩ | ⟨k, _⟩⟩ := h.is
  · have hA := atSec h.check hf
    have hid := (find_mem hf).2
    obtain ⟨rfl, hg⟩ : g1 = -1 ∧ genF s (ofSec T sec) now ≠ 0 := by
      rcases pick_some hp with ⟨k, _⟩ | ⟨k1, k2, _⟩
      · simp at k
      · exact ⟨k1, k2⟩
    have hcX := h.checkX
    have hp1 : cn (ofSec X sec) (-1) = cn (ofSec T sec) (-1) + 1 := by rw [hX, cn_add, if_pos ⟨rfl, rfl⟩]
    have hs1 : ∀ g : Int, 0 ≤ g → cn (ofSec X sec) g = cn (ofSec T sec) g := fun g hg => by rw [hX, cn_add, if_neg (by simp; omega)]; omega
    have hl1 : ((ofSec X sec).length : Int) = (ofSec T sec).length + 1 := by rw [hX, ofSec_add, if_pos rfl]
    refine ⟨s, hf, hp1, hs1, fun g h0 h8 => ?_, fun g h0 h8 => ?_, fun g h0 h8 => freeE_ok hcX hf ⟨h0, h8⟩⟩
    · have := gsum_room (s := s) now hA.grp g.toNat (by omega)
      rw [show ((g.toNat : Nat) : Int) = g by omega] at this
      rw [hs1 g h0, hl1]
      unfold genF at hg
      omega
    · rw [freeV_ok hcX hf ⟨by omega, h8⟩, freeV_ok hcX hf ⟨by omega, by omega⟩]
      unfold freeN resF allF
      rw [if_pos h0, if_neg (by omega)]
  · omega

/-! ### SeatsCapacity -/
structure Stepped (l : List Sec) (T X : List Seat) (stu sec lab : Int) (want : Bool) : Prop where
  had : hasSeat T stu sec = !want
  len : (X.length : Int) = T.length + (if want = true then 1 else -1) * (if 0 ≤ lab ∧ lab ≠ sec then 2 else 1)
  has1 : hasSeat X stu sec = want
  has2 : 0 ≤ lab → hasSeat X stu lab = want
  check : seatCheck l X = 0
  rest : ∀ y ∈ X, ¬ (y.stu = stu ∧ (y.sec = sec ∨ y.sec = lab)) → hasSeat T y.stu y.sec = true
theorem Took.stepped {l : List Sec} {T X : List Seat} {stu sec lab : Int} {groups : List Int} {now : Int} (h : Took l T stu sec lab groups now X) : Stepped l T X stu sec lab true := by
  refine ⟨h.has0, ?_, h.has1, fun hl => h.has2 (by omega), h.checkX, fun y hy hn => ?_⟩
  · have h1 := h.len
    have h2 := h.labOk
    rw [if_pos rfl]
    by_cases e : lab = -1
    · rw [if_pos e] at h1; rw [if_neg (by omega)]; omega
    · rw [if_neg e] at h1; rw [if_pos (by omega)]; omega
  · have hr := h.rest
    have : y ∈ T := by
      rw [← hr]
      refine List.mem_filter.2 ⟨hy, ?_⟩
      cases ho : ownS stu sec lab y
      · rfl
      · have := ownS_iff.1 ho
        exact absurd ⟨this.1, by omega⟩ hn
    exact hasSeat_true.2 ⟨y, this, rfl, rfl⟩
theorem left_ok {l : List Sec} {T : List Seat} {stu sec lab : Int} (hc : seatCheck l T = 0) (h : leaveE T stu sec lab = 0) : Stepped l T (leaveX T stu sec lab) stu sec lab false := by
  obtain ⟨h0, hv⟩ := seatCheck_zero hc
  have hX : leaveX T stu sec lab = T.filter fun s => !ownS stu sec lab s := by unfold leaveX; rw [if_neg (by simp [h])]
  rw [hX]
  unfold leaveE at h
  rw [any_partsB] at h
  have h1 : hasSeat T stu sec = true := by
    cases e : hasSeat T stu sec
    · rw [e] at h; simp at h
    · rfl
  have h2 : lab ≠ -1 → hasSeat T stu lab = true := by
    intro hl
    cases e : hasSeat T stu lab
    · rw [e] at h; simp [hl] at h
    · rfl
  have hlab : lab ≠ -1 → 0 ≤ lab := by
    intro hl
    obtain ⟨y, hy, _, rfl⟩ := hasSeat_true.1 (h2 hl)
    have := (hv.1 y hy).2
    cases e : find l y.sec with
    | none => rw [e] at this; cases this
    | some s =>
      obtain ⟨hm, hi⟩ := find_mem e
      have := wi_true.1 (formed_of h0 hm).1
      omega
  refine ⟨h1, ?_, ?_, fun hl => ?_, seatCheck_ok h0 (hv.filter _), fun y hy _ => hasSeat_true.2 ⟨y, (List.mem_filter.1 hy).1, rfl, rfl⟩⟩
  · have k := own_count hv.2.1 h1 h2
    have k2 := List.length_eq_countP_add_countP (ownS stu sec lab) (l := T)
    have k3 : T.countP (fun a => decide ¬ownS stu sec lab a = true) = (T.filter fun s => !ownS stu sec lab s).length := by
      rw [List.countP_eq_length_filter]
      congr 2
      funext a
      cases ownS stu sec lab a <;> rfl
    rw [k3, k] at k2
    simp only [Bool.false_eq_true, if_false]
    by_cases e : lab = -1 ∨ lab = sec
    · rw [if_pos e] at k2; rw [if_neg (by omega)]; omega
    · rw [if_neg e] at k2; rw [if_pos (by have := hlab; omega)]; omega
  · refine hasSeat_false.2 fun y hy hk => ?_
    have := (List.mem_filter.1 hy).2
    rw [ownS_iff.2 ⟨hk.1, .inl hk.2⟩] at this
    cases this
  · refine hasSeat_false.2 fun y hy hk => ?_
    have := (List.mem_filter.1 hy).2
    rw [ownS_iff.2 ⟨hk.1, .inr ⟨by omega, hk.2⟩⟩] at this
    cases this
theorem find_unique {L : List Gp} (h : Inc (·.g) 7 L) {x : Gp} (hx : x ∈ L) : L.find? (fun y => y.g == x.g) = some x := by
  obtain ⟨k, hk, rfl⟩ := List.mem_iff_getElem.1 hx
  refine List.find?_eq_some_iff_getElem.2 ⟨by simp, k, hk, rfl, fun j hj => ?_⟩
  have := List.pairwise_iff_getElem.1 h.2 j k (by omega) hk hj
  simp only at this
  simp; omega
/-- No section and no group is over capacity. -/
theorem capacity {l : List Sec} {X : List Seat} (hc : seatCheck l X = 0) {s : Sec} (hs : s ∈ l) : ((ofSec X s.id).length : Int) ≤ s.seats ∧ ∀ x ∈ s.groups, cn (ofSec X s.id) x.g ≤ x.s := by
  obtain ⟨h0, hv⟩ := seatCheck_zero hc
  obtain ⟨r1, r2⟩ := hv.2.2 s hs
  refine ⟨r1, fun x hx => ?_⟩
  have hF := formed_of h0 hs
  have hI := hF.2.2.2.2.2.1.1
  have hb := hI.1 x hx
  simp only at hb
  have := r2 x.g (by have h8 : x.g = 0 ∨ x.g = 1 ∨ x.g = 2 ∨ x.g = 3 ∨ x.g = 4 ∨ x.g = 5 ∨ x.g = 6 ∨ x.g = 7 := by omega
                     rcases h8 with h | h | h | h | h | h | h | h <;> simp [h])
  unfold resv at this
  rw [find_unique hI hx] at this
  exact this
end Go.Proofs.YteonpdnncodkaaaGreatDoor
