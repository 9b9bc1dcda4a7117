/- slices.Max, seats.Check: their contracts. -/
import Derived.Test.YteonpdnncodkaaaGreatDoorSeat1
import Derived.Test.YteonpdnncodkaaaGreatDoorCount
import Derived.Test.YteonpdnncodkaaaGreatDoorAll
import Derived.Test.YteonpdnncodkaaaGreatDoorFind
set_option linter.unusedVariables false
set_option linter.unusedSimpArgs false
namespace Go.Proofs.YteonpdnncodkaaaGreatDoor
open Go.RowKit

set_option maxRecDepth 100000 in
set_option maxHeartbeats 1000000 in
theorem maxInt_c (A : Option Addr) (c : Nat) (l : List Int) (w : World) (h : RInts w A l) (hne : 0 < l.length) :
    Calls Tryz.prog 36 #[.slice A l.length c] w fun e w' => e = .returned (.int .i64 (mxI l)) ∧ w = w' := by
  have hl := h.len
  have H := Lib.hid h
  obtain ⟨ad, rfl, f0⟩ := h.at (Below.refl _ _) 0 hne
  have f0' : w.cell? ad = some (.int .i64 l[0]) := by simpa [Addr.add] using f0
  have E1 := Lib.hid (show mxI (l.take 1) = l[0] by
    cases l with
    | nil => simp at hne
    | cons x t => rfl)
  clear h
  go_enter Tryz.func36, Tryz.ntmps36
  go_wp2
  go_loopg [3, 4] l.length (fun n m i wr => ∃ k : Nat, n + k = l.length + 1 ∧ 0 < k ∧ k ≤ l.length ∧ i = .int .i64 k ∧ m = .int .i64 (mxI (l.take k)) ∧ w = wr)
  case atStart => exact ⟨1, by omega, by omega, hne, rfl, by rw [E1.out], rfl⟩
  case round =>
    obtain ⟨k, hk, hk0, hkl, rfl, rfl, rfl⟩ := hrel
    clear f0 f0'
    by_cases hlt : k < l.length
    · obtain ⟨_, e1, f0⟩ := H.out.at (Below.refl _ _) k hlt
      cases e1
      have E2 := Lib.hid (mxI_take hlt hk0)
      have hgk : 1 < gk := by omega
      go_wp2
      all_goals
        go_roundg (gk - 1)
        case measure => omega
        case rel => exact ⟨k + 1, by omega, by omega, by omega, by go_num, (by rw [E2.out]; exact congrArg (Value.int .i64) (by omega)), rfl⟩
    · obtain rfl : k = l.length := by omega
      rw [List.take_length]
      go_wp2
      go_ret
      exact ⟨rfl, rfl⟩

/-- The counts of a section, the first groups having been subtracted. -/
def cntG (L : List Gp) (l : List Seat) : Array Value := #[.int .i64 (restG L (cn l) 0), .int .i64 (restG L (cn l) 1), .int .i64 (restG L (cn l) 2), .int .i64 (restG L (cn l) 3), .int .i64 (restG L (cn l) 4), .int .i64 (restG L (cn l) 5), .int .i64 (restG L (cn l) 6), .int .i64 (restG L (cn l) 7), .int .i64 (cn l (-1)), .int .i64 l.length]
theorem cntG_nil (l : List Seat) : cntG [] l = cntA l := rfl
theorem restG_bound (L : List Gp) (l : List Seat) (g : Int) (h : ∀ x ∈ L, 0 ≤ x.s) : 0 ≤ restG L (cn l) g ∧ restG L (cn l) g ≤ l.length := by
  have hb := cn_bound l g
  unfold restG
  split
  · rename_i x hx
    have := h x (List.mem_of_find?_eq_some hx)
    omega
  · exact hb
theorem restG_snoc {L : List Gp} {x : Gp} (h : ∀ y ∈ L, y.g ≠ x.g) (c : Int → Int) (g : Int) : restG (L ++ [x]) c g = if x.g = g then restG L c g - min x.s (restG L c g) else restG L c g := by
  unfold restG
  rw [List.find?_append]
  by_cases e : x.g = g
  · rw [if_pos e, List.find?_eq_none.2 (fun y hy => by have := h y hy; simp; omega)]
    simp [e]
  · rw [if_neg e]
    cases hf : L.find? (fun y => y.g == g) with
    | some y => simp
    | none => simp [e]
theorem cntG_step (L : List Gp) (l : List Seat) (x : Gp) (h : ∀ y ∈ L, y.g ≠ x.g) (i : Nat) (g : Int) (hx : x.g = g) (hi : (i, g) ∈ [((0 : Nat), (0 : Int)), (1, 1), (2, 2), (3, 3), (4, 4), (5, 5), (6, 6), (7, 7)]) :
    cntG (L ++ [x]) l = (cntG L l).setIfInBounds i (.int .i64 (restG L (cn l) g - min x.s (restG L (cn l) g))) := by
  simp only [List.mem_cons, Prod.mk.injEq, List.not_mem_nil, or_false] at hi
  rcases hi with ⟨rfl, rfl⟩ | ⟨rfl, rfl⟩ | ⟨rfl, rfl⟩ | ⟨rfl, rfl⟩ | ⟨rfl, rfl⟩ | ⟨rfl, rfl⟩ | ⟨rfl, rfl⟩ | ⟨rfl, rfl⟩ <;>
    (unfold cntG; simp only [restG_snoc h, hx]; simp)

theorem cntG_at (L : List Gp) (l : List Seat) (x : Gp) (h : ∀ y ∈ L, y.g ≠ x.g) (i : Nat) (hi : i < 8) (hx : x.g = i) :
    cntG (L ++ [x]) l = (cntG L l).setIfInBounds i (.int .i64 (restG L (cn l) i - min x.s (restG L (cn l) i))) := by
  refine cntG_step L l x h i i hx ?_
  have hk' : i = 0 ∨ i = 1 ∨ i = 2 ∨ i = 3 ∨ i = 4 ∨ i = 5 ∨ i = 6 ∨ i = 7 := by omega
  rcases hk' with rfl | rfl | rfl | rfl | rfl | rfl | rfl | rfl <;> simp
theorem cntG_get (L : List Gp) (l : List Seat) (i : Nat) (hi : i < 8) : (cntG L l)[i]? = some (.int .i64 (restG L (cn l) i)) := by
  have hk' : i = 0 ∨ i = 1 ∨ i = 2 ∨ i = 3 ∨ i = 4 ∨ i = 5 ∨ i = 6 ∨ i = 7 := by omega
  rcases hk' with rfl | rfl | rfl | rfl | rfl | rfl | rfl | rfl <;> rfl
theorem add0 (b i : Nat) : Addr.add ⟨b, 0, none⟩ i = ⟨b, i, none⟩ := by
  unfold Addr.add
  split
  · simp_all
  · simp
theorem RInts.of10 {w : World} {b : Nat} {t : TypeId} {x0 x1 x2 x3 x4 x5 x6 x7 : Int} {y8 y9 : Value} (h : Blk w b t #[.int .i64 x0, .int .i64 x1, .int .i64 x2, .int .i64 x3, .int .i64 x4, .int .i64 x5, .int .i64 x6, .int .i64 x7, y8, y9]) :
    RInts w (some ⟨b, 0, none⟩) [x0, x1, x2, x3, x4, x5, x6, x7] := by
  refine ⟨by simp, fun k hk => ?_⟩
  have hk' : k = 0 ∨ k = 1 ∨ k = 2 ∨ k = 3 ∨ k = 4 ∨ k = 5 ∨ k = 6 ∨ k = 7 := by simp at hk; omega
  rcases hk' with rfl | rfl | rfl | rfl | rfl | rfl | rfl | rfl
  all_goals exact ⟨_, _, rfl, rfl, rfl, fun j hj => by
    obtain rfl : j = 0 := by simpa using hj
    exact h.cell _ rfl⟩
theorem wrapi {n : Int} (h1 : -9223372036854775808 ≤ n) (h2 : n < 9223372036854775808) : IntKind.i64.wrap n = n := by
  rw [IntKind.wrap_i64]; omega

set_option maxRecDepth 100000 in
set_option maxHeartbeats 4000000 in
theorem seatCheck_c (A : Option Addr) (c : Nat) (l : List Sec) (B : Option Addr) (d : Nat) (taken : List Seat) (w : World) (hG : Glob w) (h : RSecs w A l) (ht : RSeats w B taken) :
    Calls Tryz.prog 13 #[.slice A l.length c, .slice B taken.length d] w fun e w' => e = .returned (.int .i64 (seatCheck l taken)) ∧ Below w.heap.size w w' := by
  have hl := h.len
  have hlt := ht.len
  have H := Lib.hid h
  have HT := Lib.hid ht
  clear h ht
  go_enter Tryz.func13, Tryz.ntmps13
  go_wp2_with fail
  refine (secCheckAll_c A c l _ hG H.out).mono ?_
  rintro e w1 ⟨rfl, hb1⟩
  have hB := Lib.hid hb1
  clear hb1
  by_cases h0 : checkAllS l = 0
  · rw [h0]
    have H0 := Lib.hid h0
    clear h0
    go_wp2
    go_loopg [22] taken.length (fun n i wr => ∃ k : Nat, n + k = taken.length ∧ i = .int .i64 k ∧ Hid (isIn l (taken.take k)) ∧ Hid ((taken.take k).Pairwise seatLt) ∧ Hid (Below w.heap.size w wr))
    case atStart => exact ⟨0, by omega, rfl, by intro x hx; simp at hx, by unfold Hid; simp, hB⟩
    case round =>
      obtain ⟨k, hk, rfl, hin, hso, hB⟩ := hrel
      by_cases hlt : k < taken.length
      · obtain ⟨ad, rfl, f0, f1, f2⟩ := HT.out.at hB.out k hlt
        obtain ⟨x, hx⟩ : ∃ x, x = taken[k] := ⟨_, rfl⟩
        have HX := Lib.hid hx
        rw [← hx] at f0 f1 f2
        clear hx
        have bad : ¬ seatOk x → Hid (seatCheck l taken = 250) := fun hn => seatCheck_no H0.out (fun hv => hn (by rw [HX.out]; exact (hv.1 _ (List.getElem_mem hlt)).1))
        have hk2 : (k : Int) ≤ 140737488355328 := by omega
        by_cases g1 : x.stu < 0
        · have fin := bad (by unfold seatOk; omega)
          clear bad
          have d1 : decide (x.stu < 0) = true := by simp; omega
          go_wp2_with fail
          go_quiet (fail)
          go_wp2
          go_ret
          exact ⟨by rw [fin.out]; rfl, bdrewN (by have h := hB.out; have hs := h.size; go_grown) _⟩
        have d1 : decide (x.stu < 0) = false := by simp; omega
        by_cases g2 : 20000 ≤ x.stu
        · have fin := bad (by unfold seatOk; omega)
          clear bad
          have d2 : decide (20000 ≤ x.stu) = true := by simp; omega
          go_wp2_with fail
          go_quiet (fail)
          go_wp2
          go_ret
          exact ⟨by rw [fin.out]; rfl, bdrewN (by have h := hB.out; have hs := h.size; go_grown) _⟩
        have d2 : decide (20000 ≤ x.stu) = false := by simp; omega
        by_cases g3 : x.grp < -1
        · have fin := bad (by unfold seatOk; omega)
          clear bad
          have d3 : decide (x.grp < -1) = true := by simp; omega
          go_wp2_with fail
          go_quiet (fail)
          go_wp2
          go_ret
          exact ⟨by rw [fin.out]; rfl, bdrewN (by have h := hB.out; have hs := h.size; go_grown) _⟩
        have d3 : decide (x.grp < -1) = false := by simp; omega
        by_cases g4 : 8 ≤ x.grp
        · have fin := bad (by unfold seatOk; omega)
          clear bad
          have d4 : decide (8 ≤ x.grp) = true := by simp; omega
          go_wp2_with fail
          go_quiet (fail)
          go_wp2
          go_ret
          exact ⟨by rw [fin.out]; rfl, bdrewN (by have h := hB.out; have hs := h.size; go_grown) _⟩
        have d4 : decide (8 ≤ x.grp) = false := by simp; omega
        have hok : Hid (seatOk taken[k]) := by unfold Hid; rw [← HX.out]; unfold seatOk; omega
        have next : ∀ W, Hid (Below w.heap.size w W) → Hid (∀ _ : 0 < k, seatLt (taken[k - 1]'(by omega)) taken[k]) → Blk W wr.heap.size 44 #[.int .i64 x.stu, .int .i64 x.sec, .int .i64 x.grp] → True := fun _ _ _ _ => trivial
        clear bad
        rcases Nat.eq_zero_or_pos k with hk0 | hk0
        · have d5 : decide ((0 : Int) < k) = false := by simp; omega
          have d6 : decide (0 < k) = false := by simp; omega
          have h0 := Lib.hid hk0
          clear hk0
          have hB2 : Hid (Below w.heap.size w (wr.alloc (.cells #[.int .i64 x.stu, .int .i64 x.sec, .int .i64 x.grp] 44))) := by unfold Hid; have h := hB.out; have hs := h.size; go_grown
          have hn : Hid (∀ _ : 0 < k, seatLt (taken[k - 1]'(by omega)) taken[k]) := fun h => absurd h (by have := h0.out; omega)
          go_wp2_with fail
          go_quiet (fail)
          go_wp2_with fail
          refine (find_c A c l x.sec _ (H.out.below (bdrewN hB2.out _))).mono ?_
          rintro e w3 ⟨A5, c5, A6, c6, A7, c7, rfl, hs, hb3⟩
          have hB3 := Lib.hid (bthen (bdrewN hB2.out _) (show w.heap.size ≤ (World.drewN _ _).heap.size from (bdrewN hB2.out _).size) hb3)
          clear hb3 hs
          generalize (find l x.sec).getD Sec.zero = s
          cases hf : (find l x.sec).isSome
          · have fin : Hid (seatCheck l taken = 250) := seatCheck_no H0.out (fun hv => by
              have h := (hv.1 _ (List.getElem_mem hlt)).2
              rw [← HX.out, hf] at h
              cases h)
            clear hf
            go_wp2
            go_ret
            exact ⟨by rw [fin.out]; rfl, by have h := hB3.out; have hs := h.size; go_grown⟩
          · have f1 : Hid (isIn l (taken.take (k + 1))) := isIn_step hlt hin.out hok.out (by rw [← HX.out]; exact hf)
            have f2 : Hid ((taken.take (k + 1)).Pairwise seatLt) := sorted_step hlt hso.out hn.out
            clear hf
            go_wp2
            go_roundg (gk - 1)
            case measure => omega
            case rel => exact ⟨k + 1, by omega, by go_num, f1, f2, by unfold Hid; have h := hB3.out; have hs := h.size; go_grown⟩
        · obtain ⟨j, hj⟩ : ∃ j, j = k - 1 := ⟨_, rfl⟩
          have d5 : decide ((0 : Int) < k) = true := by simp; omega
          have d6 : decide (0 < k) = true := by simp; omega
          have hjk : (k : Int) - 1 = j := by omega
          have hjl : j < taken.length := by omega
          have hwj : IntKind.i64.wrap (j : Int) = j := wrapi (by omega) (by omega)
          have HJ := Lib.hid hj
          clear hj
          go_wp2_with fail
          obtain ⟨W, hW⟩ : ∃ W, W = (wr.alloc (.cells #[.int .i64 x.stu, .int .i64 x.sec, .int .i64 x.grp] 44)).drew := ⟨_, rfl⟩
          have K1 : Blk W wr.heap.size 44 #[.int .i64 x.stu, .int .i64 x.sec, .int .i64 x.grp] := by rw [hW]; exact (Blk.new _ _ _).drew
          have hBW : Hid (Below w.heap.size w W) := by unfold Hid; rw [hW]; have h := hB.out; have hs := h.size; go_grown
          have HW := Lib.hid hW
          obtain ⟨b0, b1, b2, bf⟩ := K1.c3
          obtain ⟨_, e1, p0, p1, p2⟩ := HT.out.at hBW.out j (by omega)
          cases e1
          obtain ⟨y, hy⟩ : ∃ y, y = taken[j]'(by omega) := ⟨_, rfl⟩
          have HY := Lib.hid hy
          rw [← hy] at p0 p1 p2
          (refine still_tail 28 (by kernel_rfl) (by kernel_rfl) W HW.out ?_; simp only [List.take_succ_cons, List.take_zero, List.drop_succ_cons, List.drop_zero])
          clear hy hW HW f0 f1 f2 hB
          repeat still_step
          refine wpStill_nil ?_
          go_wp2_with fail
          refine (compareSeat_c y x _).mono ?_
          rintro e w2 ⟨rfl, hb2⟩
          have hB2 := Lib.hid (bthen hBW.out hBW.out.size hb2)
          have K2 := K1.kept hb2 K1.lt
          obtain ⟨b0, b1, b2, bf⟩ := K2.c3
          by_cases hc : 0 ≤ cmpSeat y x
          · have hn : Hid (seatCheck l taken = 250) := seatCheck_no H0.out (fun hv => not_sorted hlt (by omega) (fun h => by
              have := cmpSeat_neg.2 h
              have e := HJ.out
              subst e
              rw [← HY.out, ← HX.out] at this
              omega) hv.2.1)
            have d7 : decide (0 ≤ cmpSeat y x) = true := by simp; omega
            go_wp2
            go_ret
            exact ⟨by rw [hn.out]; rfl, hB2.out⟩
          · have hn : Hid (∀ _ : 0 < k, seatLt (taken[k - 1]'(by omega)) taken[k]) := fun _ => by
              have := cmpSeat_neg.1 (Int.not_le.1 hc)
              rw [HY.out, HX.out] at this
              have e := HJ.out
              subst e
              exact this
            have d7 : decide (0 ≤ cmpSeat y x) = false := by simp; omega
            go_wp2_with fail
            refine (find_c A c l x.sec _ (H.out.below hB2.out)).mono ?_
            rintro e w3 ⟨A5, c5, A6, c6, A7, c7, rfl, hs, hb3⟩
            have hB3 := Lib.hid (bthen hB2.out hB2.out.size hb3)
            clear hb3 hs
            generalize (find l x.sec).getD Sec.zero = s
            cases hf : (find l x.sec).isSome
            · have fin : Hid (seatCheck l taken = 250) := seatCheck_no H0.out (fun hv => by
                have h := (hv.1 _ (List.getElem_mem hlt)).2
                rw [← HX.out, hf] at h
                cases h)
              clear hf
              go_wp2
              go_ret
              exact ⟨by rw [fin.out]; rfl, by have h := hB3.out; have hs := h.size; go_grown⟩
            · have f1 : Hid (isIn l (taken.take (k + 1))) := isIn_step hlt hin.out hok.out (by rw [← HX.out]; exact hf)
              have f2 : Hid ((taken.take (k + 1)).Pairwise seatLt) := sorted_step hlt hso.out hn.out
              clear hf
              go_wp2
              go_roundg (gk - 1)
              case measure => omega
              case rel => exact ⟨k + 1, by omega, by go_num, f1, f2, by unfold Hid; have h := hB3.out; have hs := h.size; go_grown⟩
      · obtain rfl : k = taken.length := by omega
        rw [List.take_length] at hin hso
        go_wp2
        go_loopg [71] l.length (fun n i wr => ∃ k : Nat, n + k = l.length ∧ i = .int .i64 k ∧ Hid (∀ s ∈ l.take k, room taken s) ∧ Hid (Below w.heap.size w wr))
        case atStart => exact ⟨0, by omega, rfl, by intro x hx; simp at hx, hB⟩
        case round =>
          clear hB hk
          obtain ⟨k, hk, rfl, hr, hB⟩ := hrel
          by_cases hlt : k < l.length
          · obtain ⟨ad, A5, c5, A6, c6, A7, c7, rfl, hs, f0, f1, f2, f3, f4, f5, f6, f7, f8⟩ := H.out.at hB.out k hlt
            have HS := Lib.hid hs
            clear hs
            obtain ⟨s, hs⟩ : ∃ s, s = l[k] := ⟨_, rfl⟩
            have HE := Lib.hid hs
            rw [← hs] at f0 f1 f2 f3 f4 f5 f6 f7 f8 HS
            have hfm := Lib.hid (secCheck_zero ((checkAllS_zero H0.out).1 s (by rw [hs]; exact List.getElem_mem hlt))).1
            have hgl := HS.out.g.len
            clear hs
            go_wp2_with fail
            have W0 : Below w.heap.size w (wr.alloc (.cells #[.int .i64 s.id, .int .i64 s.course, .int .i64 s.term, .int .i64 s.campus, .int .i64 s.seats, .slice A5 s.meets.length c5, .slice A6 s.groups.length c6, .slice A7 s.labs.length c7, .bool s.lab] 40)) := hB.out.alloc hB.out.size _
            have K0 := Blk.new wr 40 #[.int .i64 s.id, .int .i64 s.course, .int .i64 s.term, .int .i64 s.campus, .int .i64 s.seats, .slice A5 s.meets.length c5, .slice A6 s.groups.length c6, .slice A7 s.labs.length c7, .bool s.lab]
            refine (count_c B d taken s.id _ (HT.out.below W0)).mono ?_
            rintro e w1 ⟨rfl, hb1⟩
            have K1 := K0.kept hb1 K0.lt
            have hB1 := Lib.hid (bthen W0 W0.size hb1)
            have hsz : wr.heap.size < w1.heap.size := K1.lt
            have hsw : w.heap.size ≤ wr.heap.size := hB.out.size
            clear W0 K0 hb1 hB f0 f1 f2 f3 f4 f5 f6 f7 f8
            obtain ⟨b0, b1, b2, b3, b4, b5, b6, b7, b8, bf⟩ := K1.c9
            have eL : cntA (ofSec taken s.id) = cntG [] (ofSec taken s.id) := rfl
            rw [eL]
            unfold cntG
            go_wp2
            go_loopg [82] s.groups.length (fun n i wr' => ∃ m : Nat, n + m = s.groups.length ∧ i = .int .i64 m ∧ Blk wr' wr.heap.size 40 #[.int .i64 s.id, .int .i64 s.course, .int .i64 s.term, .int .i64 s.campus, .int .i64 s.seats, .slice A5 s.meets.length c5, .slice A6 s.groups.length c6, .slice A7 s.labs.length c7, .bool s.lab] ∧ Blk wr' w1.heap.size 73 (cntG (s.groups.take m) (ofSec taken s.id)) ∧ Hid (Below w.heap.size w wr'))
            case atStart => exact ⟨0, by omega, rfl, K1.alloc _, Blk.new _ _ _, by unfold Hid; have h := hB1.out; have hs := h.size; go_grown⟩
            case round =>
              clear hB1 b0 b1 b2 b3 b4 b5 b6 b7 b8 bf K1
              obtain ⟨n1, rfl⟩ : ∃ n1, n1 = gk := ⟨_, rfl⟩
              obtain ⟨m, hm, rfl, K1, Kc, hB⟩ := hrel
              obtain ⟨b0, b1, b2, b3, b4, b5, b6, b7, b8, bf⟩ := K1.c9
              have hsz1 := K1.lt
              have hsz2 := Kc.lt
              by_cases hmt : m < s.groups.length
              · obtain ⟨ad6, rfl, g0, g1, g2⟩ := HS.out.g.at hB.out m hmt
                obtain ⟨x, hx⟩ : ∃ x, x = s.groups[m] := ⟨_, rfl⟩
                have hgo := hfm.out.2.2.2.2.2.1
                have hxg := hgo.1.1 _ (List.getElem_mem hmt)
                have hxs := hgo.2 _ (List.getElem_mem hmt)
                have hdis : Hid (∀ y ∈ s.groups.take m, y.g ≠ x.g) := by
                  intro y hy
                  obtain ⟨i, hi, rfl⟩ := List.mem_iff_getElem.1 hy
                  have hi' : i < m := by rw [List.length_take] at hi; omega
                  rw [List.getElem_take, hx]
                  have := List.pairwise_iff_getElem.1 hgo.1.2 i m (by omega) hmt hi'
                  simp only at this
                  omega
                have hb0 := restG_bound (s.groups.take m) (ofSec taken s.id) x.g (fun y hy => (hgo.2 y (List.mem_of_mem_take hy)).1)
                have hb1 : (ofSec taken s.id).length ≤ taken.length := List.length_filter_le _ _
                have E1 : Hid (s.groups.take (m + 1) = s.groups.take m ++ [x]) := by unfold Hid; rw [hx]; exact List.take_succ_eq_append_getElem hmt
                unfold gpFits at hxs
                rw [← hx] at g0 g1 g2 hxg hxs
                clear hx hgo
                obtain ⟨xg, xs, xu⟩ := x
                simp only at g0 g1 g2 hxg hxs hb0
                obtain ⟨hxs0, hxs1, _, _⟩ := hxs
                obtain ⟨hb2, hb3⟩ := hb0
                obtain ⟨gi, rfl⟩ : ∃ gi : Nat, xg = gi := ⟨xg.toNat, by omega⟩
                have hgi : gi < 8 := by omega
                obtain ⟨R, hR⟩ : ∃ R, R = restG (s.groups.take m) (cn (ofSec taken s.id)) gi := ⟨_, rfl⟩
                have HR := Lib.hid hR
                rw [← hR] at hb2 hb3
                clear hR hxg
                by_cases hle : xs ≤ R
                · (
 have E2 : Hid (cntG (s.groups.take (m + 1)) (ofSec taken s.id) = (cntG (s.groups.take m) (ofSec taken s.id)).setIfInBounds gi (.int .i64 (R - xs))) := by
   unfold Hid
   rw [E1.out, cntG_at _ (ofSec taken s.id) _ hdis.out gi hgi rfl, ← HR.out, show R - min xs R = R - xs by omega]
 go_wp2_with fail
 obtain ⟨W, hW⟩ : ∃ W, W = (wr.alloc (.cells #[.int .i64 gi, .int .i64 xs, .int .i64 xu] 36)).drew := ⟨_, rfl⟩
 have Kg : Blk W wr.heap.size 36 #[.int .i64 gi, .int .i64 xs, .int .i64 xu] := by rw [hW]; exact (Blk.new _ _ _).drew
 have K2 := (K1.alloc (.cells #[.int .i64 gi, .int .i64 xs, .int .i64 xu] 36)).drew
 have Kd := (Kc.alloc (.cells #[.int .i64 gi, .int .i64 xs, .int .i64 xu] 36)).drew
 rw [← hW] at K2 Kd
 have hBW : Hid (Below w.heap.size w W) := by unfold Hid; rw [hW]; have h := hB.out; have hs := h.size; go_grown
 have HW := Lib.hid hW
 obtain ⟨q0, q1, q2, qf⟩ := Kg.c3
 have z0 : W.cell? ⟨w1.heap.size, gi, none⟩ = some (.int .i64 R) := by rw [HR.out]; exact Kd.cell gi (cntG_get _ _ gi hgi)
 have zf := Kd.frozen
 have hgi9 : (gi : Int) < 9 := by omega
 have hwg : IntKind.i64.wrap (gi : Int) = gi := wrapi (by omega) (by omega)
 have eAdd : (Addr.add ⟨w1.heap.size, 0, none⟩ gi) = ⟨w1.heap.size, gi, none⟩ := add0 _ _
 clear b0 b1 b2 b3 b4 b5 b6 b7 b8 bf
 obtain ⟨b0, b1, b2, b3, b4, b5, b6, b7, b8, bf⟩ := K2.c9
 (refine still_tail 16 (by kernel_rfl) (by kernel_rfl) W HW.out ?_; simp only [List.take_succ_cons, List.take_zero, List.drop_succ_cons, List.drop_zero])
 clear hW HW g0 g1 g2
 repeat still_step
 refine wpStill_nil ?_
 have Ke := Kd.set gi (.int .i64 (R - xs))
 rw [← E2.out] at Ke
 have K3 := K2.far (p := ⟨w1.heap.size, gi, none⟩) (by simp; omega) (.int .i64 (R - xs))
 have hB3 : Hid (Below w.heap.size w (W.setCell ⟨w1.heap.size, gi, none⟩ (.int .i64 (R - xs)))) := hBW.out.setCell (p := ⟨w1.heap.size, gi, none⟩) (by simp; omega) _
 go_wp2_with fail
 go_roundg (n1 - 1)
 case measure => omega
 case rel => exact ⟨m + 1, by omega, by go_num, K3, Ke, hB3⟩)
                · (
 have E2 : Hid (cntG (s.groups.take (m + 1)) (ofSec taken s.id) = (cntG (s.groups.take m) (ofSec taken s.id)).setIfInBounds gi (.int .i64 (0))) := by
   unfold Hid
   rw [E1.out, cntG_at _ (ofSec taken s.id) _ hdis.out gi hgi rfl, ← HR.out, show R - min xs R = 0 by omega]
 go_wp2_with fail
 obtain ⟨W, hW⟩ : ∃ W, W = (wr.alloc (.cells #[.int .i64 gi, .int .i64 xs, .int .i64 xu] 36)).drew := ⟨_, rfl⟩
 have Kg : Blk W wr.heap.size 36 #[.int .i64 gi, .int .i64 xs, .int .i64 xu] := by rw [hW]; exact (Blk.new _ _ _).drew
 have K2 := (K1.alloc (.cells #[.int .i64 gi, .int .i64 xs, .int .i64 xu] 36)).drew
 have Kd := (Kc.alloc (.cells #[.int .i64 gi, .int .i64 xs, .int .i64 xu] 36)).drew
 rw [← hW] at K2 Kd
 have hBW : Hid (Below w.heap.size w W) := by unfold Hid; rw [hW]; have h := hB.out; have hs := h.size; go_grown
 have HW := Lib.hid hW
 obtain ⟨q0, q1, q2, qf⟩ := Kg.c3
 have z0 : W.cell? ⟨w1.heap.size, gi, none⟩ = some (.int .i64 R) := by rw [HR.out]; exact Kd.cell gi (cntG_get _ _ gi hgi)
 have zf := Kd.frozen
 have hgi9 : (gi : Int) < 9 := by omega
 have hwg : IntKind.i64.wrap (gi : Int) = gi := wrapi (by omega) (by omega)
 have eAdd : (Addr.add ⟨w1.heap.size, 0, none⟩ gi) = ⟨w1.heap.size, gi, none⟩ := add0 _ _
 clear b0 b1 b2 b3 b4 b5 b6 b7 b8 bf
 obtain ⟨b0, b1, b2, b3, b4, b5, b6, b7, b8, bf⟩ := K2.c9
 (refine still_tail 16 (by kernel_rfl) (by kernel_rfl) W HW.out ?_; simp only [List.take_succ_cons, List.take_zero, List.drop_succ_cons, List.drop_zero])
 clear hW HW g0 g1 g2
 repeat still_step
 refine wpStill_nil ?_
 have Ke := Kd.set gi (.int .i64 (0))
 rw [← E2.out] at Ke
 have K3 := K2.far (p := ⟨w1.heap.size, gi, none⟩) (by simp; omega) (.int .i64 (0))
 have hB3 : Hid (Below w.heap.size w (W.setCell ⟨w1.heap.size, gi, none⟩ (.int .i64 (0)))) := hBW.out.setCell (p := ⟨w1.heap.size, gi, none⟩) (by simp; omega) _
 go_wp2_with fail
 go_roundg (n1 - 1)
 case measure => omega
 case rel => exact ⟨m + 1, by omega, by go_num, K3, Ke, hB3⟩)
              · obtain rfl : m = s.groups.length := by omega
                rw [List.take_length] at Kc
                have Kc2 := Kc
                obtain ⟨L, hL⟩ : ∃ L, L = ofSec taken s.id := ⟨_, rfl⟩
                have HL := Lib.hid hL
                have hb1 : (ofSec taken s.id).length ≤ taken.length := List.length_filter_le _ _
                rw [← hL] at Kc hb1
                have hmem : Hid (s ∈ l) := by unfold Hid; rw [HE.out]; exact List.getElem_mem hlt
                clear hL
                unfold cntG at Kc
                obtain ⟨z0, z1, z2, z3, z4, z5, z6, z7, z8, z9, zf⟩ := Kc.c10
                by_cases ha : s.seats < (L.length : Int)
                · have fin : Hid (seatCheck l taken = 250) := seatCheck_no H0.out (fun hv => by
                    have h := (hv.2.2 s hmem.out).1
                    rw [← HL.out] at h
                    omega)
                  have d1 : decide (s.seats < (L.length : Int)) = true := by simp; omega
                  go_wp2
                  go_ret
                  exact ⟨by rw [fin.out]; rfl, hB.out⟩
                · have d1 : decide (s.seats < (L.length : Int)) = false := by simp; omega
                  go_wp2_with fail
                  refine (maxInt_c (some ⟨w1.heap.size, 0, none⟩) 9 [restG s.groups (cn L) 0, restG s.groups (cn L) 1, restG s.groups (cn L) 2, restG s.groups (cn L) 3, restG s.groups (cn L) 4, restG s.groups (cn L) 5, restG s.groups (cn L) 6, restG s.groups (cn L) 7] _ (RInts.of10 Kc) (by simp)).mono ?_
                  rintro e w2 ⟨rfl, rfl⟩
                  obtain ⟨M, hM⟩ : ∃ M, M = mxI [restG s.groups (cn L) 0, restG s.groups (cn L) 1, restG s.groups (cn L) 2, restG s.groups (cn L) 3, restG s.groups (cn L) 4, restG s.groups (cn L) 5, restG s.groups (cn L) 6, restG s.groups (cn L) 7] := ⟨_, rfl⟩
                  have HM := Lib.hid hM
                  rw [← hM]
                  clear hM
                  by_cases hp : 0 < M
                  · have fin : Hid (seatCheck l taken = 250) := seatCheck_no H0.out (fun hv => by
                      have h := (room_iff.1 (hv.2.2 s hmem.out)).2
                      rw [← HL.out, ← HM.out] at h
                      exact h hp)
                    have d2 : decide (0 < M) = true := by simp; omega
                    go_wp2
                    go_ret
                    exact ⟨by rw [fin.out]; rfl, hB.out⟩
                  · have hrm : Hid (∀ t ∈ l.take (k + 1), room taken t) := by
                      intro t ht
                      rw [List.take_succ_eq_append_getElem hlt] at ht
                      rcases List.mem_append.1 ht with ht | ht
                      · exact hr.out t ht
                      · rw [List.mem_singleton.1 ht, ← HE.out, room_iff, ← HL.out, ← HM.out]
                        exact ⟨by omega, hp⟩
                    have d2 : decide (0 < M) = false := by simp; omega
                    go_wp2
                    go_roundg (gk - 1)
                    case measure => omega
                    case rel => exact ⟨k + 1, by omega, by go_num, hrm, hB⟩
          · obtain rfl : k = l.length := by omega
            rw [List.take_length] at hr
            have fin : Hid (seatCheck l taken = 0) := seatCheck_ok H0.out ⟨hin.out, hso.out, hr.out⟩
            go_wp2
            go_ret
            exact ⟨by rw [fin.out]; rfl, hB.out⟩
  · have fin : Hid (seatCheck l taken = checkAllS l) := seatCheck_err h0
    have d0 : (checkAllS l != 0) = true := by simp [h0]
    clear h0
    go_wp2
    go_ret
    exact ⟨by rw [fin.out]; rfl, hB.out⟩
end Go.Proofs.YteonpdnncodkaaaGreatDoor
