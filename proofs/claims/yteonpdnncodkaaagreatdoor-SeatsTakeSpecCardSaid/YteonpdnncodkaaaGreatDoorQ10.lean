/- The reference of layer 25: Insert. -/
import Derived.Test.YteonpdnncodkaaaGreatDoorQ9
import Derived.Test.YteonpdnncodkaaaGreatDoorSpec4
import Derived.Lib.AppendZeros
import Derived.Test.YteonpdnncodkaaaGreatDoorQ2
import Derived.Test.YteonpdnncodkaaaGreatDoorQ7
import Derived.Test.YteonpdnncodkaaaGreatDoorQ6
import Derived.Test.YteonpdnncodkaaaGreatDoorQ3
import Derived.Test.YteonpdnncodkaaaGreatDoorTake
import Derived.Test.YteonpdnncodkaaaGreatDoorSane
set_option linter.unusedVariables false
set_option linter.unusedSimpArgs false
namespace Go.Proofs.YteonpdnncodkaaaGreatDoor
open Go.RowKit

/-- append of seats that are read to a row of one's own, be they none (of a nil slice). -/
theorem app_seats {w : World} {B : Nat} {v : Value} {l T : List Seat} {A : Option Addr} {c : Nat} (hB : B ≤ w.heap.size) (ho : OwnS B w v l) (ht : RSeats w A T) (hl : l.length + T.length ≤ 1000) :
    ∃ v' w', (Builtin.append_ #[23, 23] 23 #[v, .slice A T.length c]).run Tryz.prog w = .ok v' w' ∧ OwnS B w' v' (l ++ T) ∧ w.grownBy w' v.ownBlock := by
  obtain ⟨i0, hi, hz0, hz1, hz2⟩ := seatInfo
  cases A with
  | none =>
    have hT : T = [] := by
      cases T with
      | nil => rfl
      | cons x t => obtain ⟨_, _, e, _⟩ := ht.2 0 (by simp); cases e
    subst hT
    obtain ⟨Ra, Rc, hs⟩ := ho.shape
    subst hs
    have hcap := ho.cap
    refine ⟨.slice Ra l.length Rc, w, ?_, by simpa using ho, World.grownBy.refl _ _⟩
    simp [Builtin.append_, run_underlying Tryz.underlying23, sizeOf, typeInfo, hi, Builtin.lenOf, Builtin.firstCells, storeCells, hcap]
    cases Ra <;> rfl
  | some ad =>
    obtain ⟨v', w', h1, h2, h3, _⟩ := run_append_own (P := Tryz.prog) (w := w) B 23 23 44 i0 (.agg #[.int .i64 0, .int .i64 0, .int .i64 0]) 3 24 Tryz.underlying23 hi hz0 hz1 hz2 rfl (by decide) v l.length (cellsS l) ho ad T.length c (cellsS T) (cellsS_length T) (fun j u hj => ht.cells j u hj) (cellsS_one T) (by unfold maxLen; omega) (by omega) hB
    refine ⟨v', w', h1, ?_, h3⟩
    unfold OwnS
    rw [cellsS_append, List.length_append]
    exact h2

theorem RSeats.of1 {w : World} {b : Nat} {t : TypeId} {x : Seat} (h : Blk w b t #[.int .i64 x.stu, .int .i64 x.sec, .int .i64 x.grp]) : RSeats w (some ⟨b, 0, none⟩) [x] :=
  RSeats.of_cells (by simp) (fun j u hj => by
    have := h.cells3 j u
    simp only [cellsS, List.flatMap_cons, List.flatMap_nil, List.append_nil] at hj
    exact this hj)
theorem RSeats.drop {w : World} {ad : Addr} {T : List Seat} (h : RSeats w (some ad) T) {k : Nat} (hk : k ≤ T.length) : RSeats w (some (ad.add (k * 3))) (T.drop k) :=
  RSeats.of_cells (by have := h.1; rw [List.length_drop]; omega) (fun j u hj => by
    rw [Addr.add_add]
    refine h.cells (k * 3 + j) u ?_
    have e : cellsS T = cellsS (T.take k) ++ cellsS (T.drop k) := by rw [← cellsS_append, List.take_append_drop]
    have hl : (cellsS (T.take k)).length = k * 3 := by rw [cellsS_length, List.length_take, Nat.min_eq_left hk]
    rw [e, List.getElem?_append_right (by omega), hl, Nat.add_sub_cancel_left]
    exact hj)
theorem addS_split {T : List Seat} {x : Seat} {k : Nat} (hk : k ≤ T.length) (h1 : ∀ q, (hq : q < T.length) → q < k → ltS T[q] x = true) (h2 : k = T.length ∨ ∃ h : k < T.length, ltS T[k] x = false) : addS T x = T.take k ++ x :: T.drop k := by
  have hall : ∀ y ∈ T.take k, ltS y x = true := fun y hy => by
    obtain ⟨q, hq, rfl⟩ := List.mem_iff_getElem.1 hy
    rw [List.getElem_take]
    exact h1 q (by rw [List.length_take] at hq; omega) (by rw [List.length_take] at hq; omega)
  unfold addS
  conv => lhs; rw [← List.take_append_drop k T]
  rw [List.takeWhile_append_of_pos hall, List.dropWhile_append_of_pos hall]
  rcases h2 with h2 | ⟨h2, h3⟩
  · rw [h2, List.drop_length]; simp
  · rw [List.drop_eq_getElem_cons h2]
    simp only [List.takeWhile_cons, List.dropWhile_cons, h3, Bool.false_eq_true, if_false, List.append_nil]

set_option maxRecDepth 100000 in
set_option maxHeartbeats 4000000 in
theorem rinsert_c (A : Option Addr) (c : Nat) (T : List Seat) (xu xs xg : Int) (w : World) (h : RSeats w A T) (hc : T.length ≤ c) (hT : T.length ≤ 100) :
    Calls Tryz.prog 52 #[.slice A T.length c, .agg #[.int .i64 xu, .int .i64 xs, .int .i64 xg]] w fun e w' => ∃ v, e = .returned v ∧ OwnS w.heap.size w' v (addS T ⟨xu, xs, xg⟩) ∧ Below w.heap.size w w' := by
  have H := Lib.hid h
  clear h
  go_enter Tryz.func52, Tryz.ntmps52
  go_wp2_with fail
  have kx0 := Blk.new w 44 #[.int .i64 xu, .int .i64 xs, .int .i64 xg]
  have hb0 : Hid (Below w.heap.size w (w.alloc (.cells #[.int .i64 xu, .int .i64 xs, .int .i64 xg] 44))) := by unfold Hid; go_grown
  go_loopg [5] T.length (fun n i wr => ∃ k : Nat, n + k = T.length ∧ i = .int .i64 k ∧ Hid (∀ q, (hq : q < T.length) → q < k → ltS T[q] ⟨xu, xs, xg⟩ = true) ∧ Hid (Below w.heap.size w wr) ∧ Blk wr w.heap.size 44 #[.int .i64 xu, .int .i64 xs, .int .i64 xg])
  case atStart => exact ⟨0, by omega, rfl, by intro q _ h; omega, hb0, kx0⟩
  case round =>
    clear hb0 kx0
    obtain ⟨k, hk, rfl, hlow, hB, kx⟩ := hrel
    obtain ⟨x0, x1, x2, _⟩ := kx.c3
    have hwk : IntKind.i64.wrap (k : Int) = k := wrapi (by omega) (by omega)
    go_upto_region 2 with (fail)
    go_cut [40] (fun s40 wx => ∃ b : Bool, s40 = .bool b ∧ Hid (Below w.heap.size w wx) ∧ Blk wx w.heap.size 44 #[.int .i64 xu, .int .i64 xs, .int .i64 xg] ∧ Hid (b = true → ∃ h : k < T.length, ltS T[k] ⟨xu, xs, xg⟩ = true) ∧ Hid (b = false → k = T.length ∨ ∃ h : k < T.length, ltS T[k] ⟨xu, xs, xg⟩ = false))
    case first => as_aux_lemma =>
      by_cases hlt : k < T.length
      · obtain ⟨ad, eA, f0, f1, f2⟩ := H.out.at hB.out k hlt
        subst eA
        have dk1 : decide ((k : Int) < T.length) = true := by simp; omega
        have dk2 : decide (k < T.length) = true := by simp; omega
        have LT : Hid (ltS T[k] ⟨xu, xs, xg⟩ = decide (T[k].sec < xs ∨ (T[k].sec = xs ∧ T[k].stu < xu))) := rfl
        have FT : Hid (ltS T[k] ⟨xu, xs, xg⟩ = true → ∃ h : k < T.length, ltS T[k] ⟨xu, xs, xg⟩ = true) := fun h => ⟨hlt, h⟩
        have FF : Hid (ltS T[k] ⟨xu, xs, xg⟩ = false → k = T.length ∨ ∃ h : k < T.length, ltS T[k] ⟨xu, xs, xg⟩ = false) := fun h => .inr ⟨hlt, h⟩
        obtain ⟨y, hy⟩ : ∃ y, y = T[k] := ⟨_, rfl⟩
        rw [← hy] at f0 f1 f2 LT
        have HY := Lib.hid hy
        clear hy
        obtain ⟨yu, ys, yg⟩ := y
        simp only at f0 f1 f2 LT
        by_cases h1 : ys < xs
        · have fin := Lib.hid (FT.out (by rw [← HY.out, LT.out]; simp; omega))
          have d1 : decide (ys < xs) = true := by simp; omega
          go_wp2_with fail
          go_quiet (fail)
          go_wp2_with fail
          go_meet
          exact ⟨true, rfl, bdrewN hB.out _, kx.drewN _, (fun _ => fin.out), fun h => by cases h⟩
        have d1 : decide (ys < xs) = false := by simp; omega
        by_cases h2 : ys = xs
        · have d2 : (ys == xs) = true := by simp [h2]
          by_cases h3 : yu < xu
          · have fin := Lib.hid (FT.out (by rw [← HY.out, LT.out]; simp; omega))
            have d3 : decide (yu < xu) = true := by simp; omega
            clear h2
            go_wp2_with fail
            go_quiet (fail)
            go_wp2_with fail
            go_meet
            exact ⟨true, rfl, bdrewN hB.out _, kx.drewN _, (fun _ => fin.out), fun h => by cases h⟩
          · have fin := Lib.hid (FF.out (by rw [← HY.out, LT.out]; simp; omega))
            have d3 : decide (yu < xu) = false := by simp; omega
            clear h2
            go_wp2_with fail
            go_quiet (fail)
            go_wp2_with fail
            go_meet
            exact ⟨false, rfl, bdrewN hB.out _, kx.drewN _, (fun h => by cases h), fun _ => fin.out⟩
        · have d2 : (ys == xs) = false := by simp [h2]
          have fin := Lib.hid (FF.out (by rw [← HY.out, LT.out]; simp; omega))
          clear h2
          go_wp2_with fail
          go_quiet (fail)
          go_wp2_with fail
          go_meet
          exact ⟨false, rfl, bdrewN hB.out _, kx.drewN _, (fun h => by cases h), fun _ => fin.out⟩
      · have fin : Hid (k = T.length ∨ ∃ h : k < T.length, ltS T[k] ⟨xu, xs, xg⟩ = false) := .inl (by omega)
        obtain rfl : k = T.length := by omega
        go_wp2_with fail
        go_quiet (fail)
        go_wp2_with fail
        go_meet
        exact ⟨false, rfl, bdrewN hB.out _, kx.drewN _, (fun h => by cases h), fun _ => fin.out⟩
    case rest =>
      obtain ⟨b, rfl, hBc, kxc, hbt, hbf⟩ := hcut
      clear hB kx x0 x1 x2
      cases b
      case true =>
        as_aux_lemma =>
        have ht := hbt.out rfl
        have hlow2 : Hid (∀ q, (hq : q < T.length) → q < k + 1 → ltS T[q] ⟨xu, xs, xg⟩ = true) := fun q hq hqk => by
          obtain ⟨h1, h2⟩ := ht
          by_cases e : q = k
          · subst e; exact h2
          · exact hlow.out q hq (by omega)
        obtain ⟨hlt, _⟩ := ht
        clear hbt hbf
        go_wp2
        go_roundg (gk - 1)
        case measure => omega
        case rel => exact ⟨k + 1, by omega, by go_num, hlow2, hBc, kxc⟩
      have hkl : k ≤ T.length := by omega
      have SPL := Lib.hid (addS_split hkl hlow.out (hbf.out rfl))
      clear hbt hbf hlow
      obtain ⟨x0, x1, x2, _⟩ := kxc.c3
      cases A with
      | none =>
        have hT0 : T = [] := by
          cases T with
          | nil => rfl
          | cons x t => obtain ⟨_, _, e, _⟩ := H.out.2 0 (by simp); cases e
        subst hT0
        obtain rfl : k = 0 := by simpa using hkl
        have hBo : Hid (Below w.heap.size w (wc.alloc (.cells #[] 44))) := hBc.out.alloc hBc.out.size _
        have hO0 : Hid (OwnS w.heap.size (wc.alloc (.cells #[] 44)) (.slice (some ⟨wc.heap.size, 0, none⟩) 0 0) []) := OwnS.base (show OwnS wc.heap.size _ _ [] from World.ownsRow_made wc #[] 0 (Nat.le_refl _) (Nat.zero_le _) rfl) hBc.out.size
        obtain ⟨v1, w1, hr1, ho1, hg1⟩ := app_seats (A := none) (T := []) (c := c) hBo.out.size hO0.out (Rd.nil _ _ _ _) (by simp)
        rw [show ([] : List Seat).length = 0 from rfl] at hr1
        have kx1 := (kxc.alloc (.cells #[] 44)).grown hg1 (by simp [Value.ownBlock]; have := kxc.lt; omega)
        have hB1 : Hid (Below w.heap.size w w1) := hBo.out.grown hg1 hBo.out.size (fun j e => (World.ownsRow.lt hO0.out _ e).1)
        have HO1 := Lib.hid ho1
        clear hg1 ho1 hO0
        clear x0 x1 x2
        have hl1 := kx1.lt
        obtain ⟨x0, x1, x2, _⟩ := kx1.c3
        have hBp : Hid (Below w.heap.size w (w1.alloc (.cells #[.int .i64 xu, .int .i64 xs, .int .i64 xg] 44))) := hB1.out.alloc hB1.out.size _
        have hO2 : Hid (OwnS w.heap.size (w1.alloc (.cells #[.int .i64 xu, .int .i64 xs, .int .i64 xg] 44)) v1 ([] ++ [])) := HO1.out.below (by go_grown)
        obtain ⟨v2, w2, hr2, ho2, hg2⟩ := app_seats (c := 1) hBp.out.size hO2.out (RSeats.of1 (x := ⟨xu, xs, xg⟩) (Blk.new w1 44 #[.int .i64 xu, .int .i64 xs, .int .i64 xg])) (by simp)
        have hB2 : Hid (Below w.heap.size w w2) := hBp.out.grown hg2 hBp.out.size (fun j e => (World.ownsRow.lt hO2.out _ e).1)
        have HO2 := Lib.hid ho2
        rw [show [(⟨xu, xs, xg⟩ : Seat)].length = 1 from rfl] at hr2
        clear hg2 ho2 hO2
        obtain ⟨v3, w3, hr3, ho3, hg3⟩ := app_seats (A := none) (T := []) (c := c) hB2.out.size HO2.out (Rd.nil _ _ _ _) (by simp)
        have hB3 : Hid (Below w.heap.size w w3) := hB2.out.grown hg3 hB2.out.size (fun j e => (World.ownsRow.lt HO2.out _ e).1)
        have HO3 : Hid (OwnS w.heap.size w3 v3 (addS [] ⟨xu, xs, xg⟩)) := by unfold Hid; rw [SPL.out]; simpa using ho3
        rw [show ([] : List Seat).length = 0 from rfl] at hr3
        clear hg3 ho3
        go_wp2_with (at_builtin; first | refine Lib.wpList_append_run _ rfl _ _ _ _ rfl _ _ rfl rfl _ _ hr1 ?_ | refine Lib.wpList_append_run _ rfl _ _ _ _ rfl _ _ rfl rfl _ _ hr2 ?_ | refine Lib.wpList_append_run _ rfl _ _ _ _ rfl _ _ rfl rfl _ _ hr3 ?_)
        go_ret
        exact ⟨v3, rfl, HO3.out, hB3.out⟩
      | some ad =>
        have hk2 : (T.take k).length = k := by rw [List.length_take]; omega
        have hBo : Hid (Below w.heap.size w (wc.alloc (.cells #[] 44))) := hBc.out.alloc hBc.out.size _
        have hO0 : Hid (OwnS w.heap.size (wc.alloc (.cells #[] 44)) (.slice (some ⟨wc.heap.size, 0, none⟩) 0 0) []) := OwnS.base (show OwnS wc.heap.size _ _ [] from World.ownsRow_made wc #[] 0 (Nat.le_refl _) (Nat.zero_le _) rfl) hBc.out.size
        obtain ⟨v1, w1, hr1, ho1, hg1⟩ := app_seats (c := c) hBo.out.size hO0.out ((H.out.below hBo.out).take k) (by rw [hk2]; simp; omega)
        rw [hk2] at hr1
        rw [List.nil_append] at ho1
        have kx1 := (kxc.alloc (.cells #[] 44)).grown hg1 (by simp [Value.ownBlock]; have := kxc.lt; omega)
        have hB1 : Hid (Below w.heap.size w w1) := hBo.out.grown hg1 hBo.out.size (fun j e => (World.ownsRow.lt hO0.out _ e).1)
        have HO1 := Lib.hid ho1
        clear hg1 ho1 hO0
        clear x0 x1 x2
        have hl1 := kx1.lt
        obtain ⟨x0, x1, x2, _⟩ := kx1.c3
        have hBp : Hid (Below w.heap.size w (w1.alloc (.cells #[.int .i64 xu, .int .i64 xs, .int .i64 xg] 44))) := hB1.out.alloc hB1.out.size _
        have kx2 := kx1.alloc (.cells #[.int .i64 xu, .int .i64 xs, .int .i64 xg] 44)
        have hO2 : Hid (OwnS w.heap.size (w1.alloc (.cells #[.int .i64 xu, .int .i64 xs, .int .i64 xg] 44)) v1 (T.take k)) := HO1.out.below (by go_grown)
        obtain ⟨v2, w2, hr2, ho2, hg2⟩ := app_seats (c := 1) hBp.out.size hO2.out (RSeats.of1 (x := ⟨xu, xs, xg⟩) (Blk.new w1 44 #[.int .i64 xu, .int .i64 xs, .int .i64 xg])) (by rw [hk2]; simp; omega)
        have hB2 : Hid (Below w.heap.size w w2) := hBp.out.grown hg2 hBp.out.size (fun j e => (World.ownsRow.lt hO2.out _ e).1)
        have HO2 := Lib.hid ho2
        rw [show [(⟨xu, xs, xg⟩ : Seat)].length = 1 from rfl] at hr2
        have hbase := World.ownsRow.lt HO2.out
        clear hg2 ho2 hO2
        by_cases hck : c = k
        · have hdr : T.drop k = [] := List.drop_eq_nil_of_le (by omega)
          have hTk : T.length = k := by omega
          obtain ⟨v3, w3, hr3, ho3, hg3⟩ := app_seats (c := 0) (A := some ad) (T := []) hB2.out.size HO2.out (Rd.nil _ _ _ _) (by rw [List.length_append, hk2]; simp; omega)
          have hB3 : Hid (Below w.heap.size w w3) := hB2.out.grown hg3 hB2.out.size (fun j e => (World.ownsRow.lt HO2.out _ e).1)
          have HO3 : Hid (OwnS w.heap.size w3 v3 (addS T ⟨xu, xs, xg⟩)) := by unfold Hid; rw [SPL.out, hdr]; simpa using ho3
          rw [show ([] : List Seat).length = 0 from rfl] at hr3
          clear hg3 ho3 hdr
          subst hck
          rw [hTk]
          go_wp2_with (at_builtin; first | refine Lib.wpList_append_run _ rfl _ _ _ _ rfl _ _ rfl rfl _ _ hr1 ?_ | refine Lib.wpList_append_run _ rfl _ _ _ _ rfl _ _ rfl rfl _ _ hr2 ?_ | refine Lib.wpList_append_run _ rfl _ _ _ _ rfl _ _ rfl rfl _ _ hr3 ?_)
          go_ret
          exact ⟨v3, rfl, HO3.out, hB3.out⟩
        · have hkc : k < c := by omega
          have hdl : (T.drop k).length = T.length - k := List.length_drop
          obtain ⟨v3, w3, hr3, ho3, hg3⟩ := app_seats (c := c - k) hB2.out.size HO2.out ((H.out.below hB2.out).drop hkl) (by rw [List.length_append, hk2, hdl]; simp; omega)
          have hB3 : Hid (Below w.heap.size w w3) := hB2.out.grown hg3 hB2.out.size (fun j e => (World.ownsRow.lt HO2.out _ e).1)
          have HO3 : Hid (OwnS w.heap.size w3 v3 (addS T ⟨xu, xs, xg⟩)) := by unfold Hid; rw [SPL.out]; simpa using ho3
          rw [hdl] at hr3
          clear hg3 ho3 hdl
          go_wp2_with (at_builtin; first | refine Lib.wpList_append_run _ rfl _ _ _ _ rfl _ _ rfl rfl _ _ hr1 ?_ | refine Lib.wpList_append_run _ rfl _ _ _ _ rfl _ _ rfl rfl _ _ hr2 ?_ | refine Lib.wpList_append_run _ rfl _ _ _ _ rfl _ _ rfl rfl _ _ hr3 ?_)
          go_ret
          exact ⟨v3, rfl, HO3.out, hB3.out⟩
end Go.Proofs.YteonpdnncodkaaaGreatDoor

/- The reference of layer 25: one. -/
set_option linter.unusedVariables false
set_option linter.unusedSimpArgs false
namespace Go.Proofs.YteonpdnncodkaaaGreatDoor
open Go.RowKit

theorem pick_at {s : Sec} {L : List Seat} {groups : List Int} {now : Int} {k : Nat} (hlt : k < groups.length) (h : ∀ q, (hq : q < groups.length) → q < k → ¬ 0 < resF s L now groups[q]) (hp : 0 < resF s L now groups[k]) : pick s L groups now = some groups[k] := by
  unfold pick
  have e : groups.find? (fun g => decide (0 < resF s L now g)) = some groups[k] :=
    List.find?_eq_some_iff_getElem.2 ⟨by simpa using hp, k, hlt, rfl, fun j hj => by have := h j (by omega) hj; simp; omega⟩
  rw [e]
theorem pick_gen {s : Sec} {L : List Seat} {groups : List Int} {now : Int} (h : ∀ q, (hq : q < groups.length) → ¬ 0 < resF s L now groups[q]) : pick s L groups now = if genF s L now = 0 then none else some (-1) := by
  unfold pick
  have e : groups.find? (fun g => decide (0 < resF s L now g)) = none := List.find?_eq_none.2 (fun g hg => by
    obtain ⟨q, hq, rfl⟩ := List.mem_iff_getElem.1 hg
    have := h q hq
    simp; omega)
  rw [e]
/-- What one hands back. -/
def OneR (B : Nat) (w' : World) (o : Option (List Seat)) (e : Ending) : Prop := match o with
  | none => e = .returned (.tuple #[.slice none 0 0, .bool false])
  | some X => ∃ v, e = .returned (.tuple #[v, .bool true]) ∧ OwnS B w' v X

set_option maxRecDepth 100000 in
set_option maxHeartbeats 4000000 in
theorem rone_c (A : Option Addr) (c : Nat) (l : List Sec) (B : Option Addr) (d : Nat) (T : List Seat) (stu sec : Int) (G : Option Addr) (gc : Nat) (groups : List Int) (now : Int) (s : Sec) (w : World)
    (h : RSecs w A l) (ht : RSeats w B T) (hg : RInts w G groups) (hf : find l sec = some s) (hF : Formed s) (hgo : groupsOk groups) (hd : T.length ≤ d) (hT : T.length ≤ 100) :
    Calls Tryz.prog 29 #[.slice A l.length c, .slice B T.length d, .int .i64 stu, .int .i64 sec, .slice G groups.length gc, .int .i64 now] w fun e w' => OneR w.heap.size w' (takeOne l T stu sec groups now) e ∧ Below w.heap.size w w' := by
  have hgl := hg.len
  have H := Lib.hid h
  have HT := Lib.hid ht
  have HGI := Lib.hid hg
  have HF := Lib.hid hF
  have HGO := Lib.hid hgo
  have HFD := Lib.hid hf
  have TO := Lib.hid (takeOne_eq (x := T) (stu := stu) (groups := groups) (now := now) hf)
  have hid := (find_mem hf).2
  have HID := Lib.hid hid
  clear h ht hg hF hgo hf hid
  go_enter Tryz.func29, Tryz.ntmps29
  go_wp2_with fail
  refine (find23_c A c l sec _ H.out).mono ?_
  rintro e w1 ⟨A5, c5, A6, c6, A7, c7, rfl, hsi, hb1⟩
  rw [HFD.out] at hsi
  rw [HFD.out]
  simp only [Option.getD_some] at hsi
  simp only [Option.getD_some, Option.isSome_some]
  have hg1 : Hid (Below w1.heap.size w1 (w1.alloc (.cells #[.int .i64 s.id, .int .i64 s.course, .int .i64 s.term, .int .i64 s.campus, .int .i64 s.seats, .slice A5 s.meets.length c5, .slice A6 s.groups.length c6, .slice A7 s.labs.length c7, .bool s.lab] 40))) := by unfold Hid; go_grown
  have HB1 := Lib.hid (bthen hb1 hb1.size hg1.out)
  have ky1 := Blk.new w1 40 #[.int .i64 s.id, .int .i64 s.course, .int .i64 s.term, .int .i64 s.campus, .int .i64 s.seats, .slice A5 s.meets.length c5, .slice A6 s.groups.length c6, .slice A7 s.labs.length c7, .bool s.lab]
  have HSI1 := Lib.hid (hsi.below hg1.out)
  clear hsi hb1 hg1
  go_wp2
  go_loopg [16] groups.length (fun n i wr => ∃ k : Nat, n + k = groups.length ∧ i = .int .i64 k ∧ Hid (∀ q, (hq : q < groups.length) → q < k → ¬ 0 < resF s (ofSec T sec) now groups[q]) ∧ Hid (Below w.heap.size w wr) ∧ Blk wr w1.heap.size 40 #[.int .i64 s.id, .int .i64 s.course, .int .i64 s.term, .int .i64 s.campus, .int .i64 s.seats, .slice A5 s.meets.length c5, .slice A6 s.groups.length c6, .slice A7 s.labs.length c7, .bool s.lab] ∧ Hid (SecIn wr s A5 c5 A6 c6 A7 c7))
  case atStart => exact ⟨0, by omega, rfl, by intro q _ h; omega, HB1, ky1, HSI1⟩
  case round =>
    clear HB1 ky1 HSI1
    obtain ⟨k, hk, rfl, hno, hB, ky, HSI⟩ := hrel
    by_cases hlt : k < groups.length
    · obtain ⟨ag, eG, f0⟩ := HGI.out.at hB.out k hlt
      subst eG
      have hwk : IntKind.i64.wrap (k : Int) = k := wrapi (by omega) (by omega)
      have dk1 : decide ((k : Int) < groups.length) = true := by simp; omega
      have dk2 : decide (k < groups.length) = true := by simp; omega
      have hg0 := HGO.out.1 _ (List.getElem_mem hlt)
      have PK : Hid (0 < resF s (ofSec T sec) now groups[k] → takeOne l T stu sec groups now = some (addS T ⟨stu, sec, groups[k]⟩)) := fun h => by rw [TO.out, pick_at hlt hno.out h]; rfl
      have NX : Hid (¬ 0 < resF s (ofSec T sec) now groups[k] → ∀ q, (hq : q < groups.length) → q < k + 1 → ¬ 0 < resF s (ofSec T sec) now groups[q]) := fun h q hq hqk => by
        by_cases e : q = k
        · subst e; exact h
        · exact hno.out q hq (by omega)
      obtain ⟨g, hgE⟩ : ∃ g, g = groups[k] := ⟨_, rfl⟩
      rw [← hgE] at f0 hg0 PK NX
      clear hgE
      obtain ⟨hg0, hg8⟩ := hg0
      obtain ⟨R, hR⟩ : ∃ R, R = resF s (ofSec T sec) now g := ⟨_, rfl⟩
      rw [← hR] at PK NX
      have HTr := Lib.hid (HT.out.below hB.out)
      go_wp2_with fail
      refine region_below (by kernel_rfl) (by kernel_rfl) (fun ι hι f hf hg => ?_)
      have HFN := Lib.hid hf
      have HGN := Lib.hid hg
      have k0 : ∀ n, (f n).cell? ⟨w1.heap.size, 0, none⟩ = some (.int .i64 s.id) := fun n => (ky.kept (hf n) ky.lt).cell 0 rfl; have k1 : ∀ n, (f n).cell? ⟨w1.heap.size, 1, none⟩ = some (.int .i64 s.course) := fun n => (ky.kept (hf n) ky.lt).cell 1 rfl; have k2 : ∀ n, (f n).cell? ⟨w1.heap.size, 2, none⟩ = some (.int .i64 s.term) := fun n => (ky.kept (hf n) ky.lt).cell 2 rfl; have k3 : ∀ n, (f n).cell? ⟨w1.heap.size, 3, none⟩ = some (.int .i64 s.campus) := fun n => (ky.kept (hf n) ky.lt).cell 3 rfl; have k4 : ∀ n, (f n).cell? ⟨w1.heap.size, 4, none⟩ = some (.int .i64 s.seats) := fun n => (ky.kept (hf n) ky.lt).cell 4 rfl; have k5 : ∀ n, (f n).cell? ⟨w1.heap.size, 5, none⟩ = some (.slice A5 s.meets.length c5) := fun n => (ky.kept (hf n) ky.lt).cell 5 rfl; have k6 : ∀ n, (f n).cell? ⟨w1.heap.size, 6, none⟩ = some (.slice A6 s.groups.length c6) := fun n => (ky.kept (hf n) ky.lt).cell 6 rfl; have k7 : ∀ n, (f n).cell? ⟨w1.heap.size, 7, none⟩ = some (.slice A7 s.labs.length c7) := fun n => (ky.kept (hf n) ky.lt).cell 7 rfl; have k8 : ∀ n, (f n).cell? ⟨w1.heap.size, 8, none⟩ = some (.bool s.lab) := fun n => (ky.kept (hf n) ky.lt).cell 8 rfl
      have m0 : ∀ n, (f n).cell? (ag.add k) = some (.int .i64 g) := fun n => cell_kept (hf n) f0
      have HFR : Hid (∀ n, Calls Tryz.prog 51 #[.agg #[.int .i64 s.id, .int .i64 s.course, .int .i64 s.term, .int .i64 s.campus, .int .i64 s.seats, .slice A5 s.meets.length c5, .slice A6 s.groups.length c6, .slice A7 s.labs.length c7, .bool s.lab], .slice B T.length d, .int .i64 g, .int .i64 now] (f n) fun e w' => e = .returned (.int .i64 R) ∧ Below (f n).heap.size (f n) w') := fun n => by rw [hR, ← HID.out]; exact rfreefor_c s A5 c5 A6 c6 A7 c7 B d T g now (f n) (HSI.out.below (hf n)) (HTr.out.below (hf n)) HF.out hg0
      clear hf hg hR
      repeat go_big_quiet_step ((refine (HFR.out _).mono ?_; rintro e w8 ⟨rfl, hb8⟩; exact ⟨rfl, HGN.out _ _ hb8⟩))
      refine wpQuiet_nil ?_
      rintro _ ⟨n, rfl⟩
      have hb2 := Lib.hid (bthen hB.out hB.out.size (HFN.out n))
      have ky2 := ky.kept (HFN.out n) ky.lt
      have HSI2 := Lib.hid (HSI.out.below (HFN.out n))
      have f1 := m0 n
      clear k0 k1 k2 k3 k4 k5 k6 k7 k8 m0 HFR ky HFN HGN HSI f0
      generalize f n = w3 at *
      by_cases hpos : 0 < R
      · have fin := Lib.hid (PK.out hpos)
        go_wp2_with fail
        refine (rinsert_c B d T stu sec g _ (HT.out.below hb2.out) hd hT).mono ?_
        rintro e w4 ⟨v, rfl, hov, hb4⟩
        have hb5 := Lib.hid (bthen hb2.out hb2.out.size hb4)
        have hov2 := Lib.hid (OwnS.base hov hb2.out.size)
        clear hb4 hov
        go_wp2
        refine bodyPost_ret (by simp only [results, Tryz.results29]; go_simp <;> rfl) rfl ?_
        rw [fin.out]
        exact ⟨⟨v, rfl, hov2.out⟩, hb5.out⟩
      · have fin := Lib.hid (NX.out (by omega))
        go_wp2
        go_roundg (gk - 1)
        case measure => omega
        case rel => exact ⟨k + 1, by omega, by go_num, fin, hb2, ky2, HSI2⟩
    · obtain rfl : k = groups.length := by omega
      have PG := Lib.hid (pick_gen (fun q hq => hno.out q hq hq))
      have hgb := genF_bound HF.out (L := ofSec T sec) (Nat.le_trans (List.length_filter_le _ _) (by omega)) now
      obtain ⟨hgb0, hgb1⟩ := hgb
      have hcall := rgeneral_c s A5 c5 A6 c6 A7 c7 B d T now wr HSI.out (HT.out.below hB.out) HF.out
      have eid : genF s (ofSec T sec) now = genF s (ofSec T s.id) now := by rw [HID.out]
      obtain ⟨R, hR⟩ : ∃ R, R = genF s (ofSec T s.id) now := ⟨_, rfl⟩
      rw [eid, ← hR] at PG hgb0 hgb1
      rw [← hR] at hcall
      clear hR eid
      have HC := Lib.hid hcall
      clear hcall
      obtain ⟨b0, b1, b2, b3, b4, b5, b6, b7, b8, bf⟩ := ky.c9
      go_wp2_with fail
      refine HC.out.mono ?_
      rintro e w3 ⟨rfl, hb3⟩
      have hb4 := Lib.hid (bthen hB.out hB.out.size hb3)
      clear hb3 b0 b1 b2 b3 b4 b5 b6 b7 b8 bf
      by_cases hz : R = 0
      · have fin : Hid (takeOne l T stu sec groups now = none) := by unfold Hid; rw [TO.out, PG.out, if_pos hz]; rfl
        subst hz
        go_wp2
        refine bodyPost_ret (by simp only [results, Tryz.results29]; go_simp <;> rfl) rfl ?_
        rw [fin.out]
        exact ⟨rfl, hb4.out⟩
      · have fin : Hid (takeOne l T stu sec groups now = some (addS T ⟨stu, sec, -1⟩)) := by unfold Hid; rw [TO.out, PG.out, if_neg hz]; rfl
        have hpos : 0 < R := by omega
        clear hz
        go_wp2_with fail
        refine (rinsert_c B d T stu sec (-1) _ (HT.out.below hb4.out) hd hT).mono ?_
        rintro e w5 ⟨v, rfl, hov, hb5⟩
        have hb6 := Lib.hid (bthen hb4.out hb4.out.size hb5)
        have hov2 := Lib.hid (OwnS.base hov hb4.out.size)
        clear hb5 hov
        go_wp2
        refine bodyPost_ret (by simp only [results, Tryz.results29]; go_simp <;> rfl) rfl ?_
        rw [fin.out]
        exact ⟨⟨v, rfl, hov2.out⟩, hb6.out⟩
end Go.Proofs.YteonpdnncodkaaaGreatDoor

/- The reference of layer 25: Take. -/
set_option linter.unusedVariables false
set_option linter.unusedSimpArgs false
namespace Go.Proofs.YteonpdnncodkaaaGreatDoor
open Go.RowKit

set_option maxRecDepth 100000 in
set_option maxHeartbeats 4000000 in
theorem rtake_c (A : Option Addr) (c : Nat) (l : List Sec) (B : Option Addr) (d : Nat) (T : List Seat) (stu sec lab : Int) (G : Option Addr) (gc : Nat) (groups : List Int) (now : Int) (w : World)
    (h : RSecs w A l) (ht : RSeats w B T) (hg : RInts w G groups) (hd : T.length ≤ d) (hT : T.length ≤ 60) :
    Calls Tryz.prog 7 #[.slice A l.length c, .slice B T.length d, .int .i64 stu, .agg #[.int .i64 sec, .int .i64 lab], .slice G groups.length gc, .int .i64 now] w fun e w' => (∃ Xa xc, e = .returned (.tuple #[.slice Xa (takeX l T stu sec lab groups now).length xc, .int .i64 (takeE l T stu sec lab groups now)]) ∧ RSeats w' Xa (takeX l T stu sec lab groups now)) ∧ Below w.heap.size w w' := by
  have H := Lib.hid h
  have HT := Lib.hid ht
  have HGI := Lib.hid hg
  clear h ht hg
  go_enter Tryz.func7, Tryz.ntmps7
  go_wp2_with fail
  have W0 : Hid (Below w.heap.size w (w.alloc (.cells #[.int .i64 sec, .int .i64 lab] 25))) := by unfold Hid; go_grown
  have kb0 := Blk.new w 25 #[.int .i64 sec, .int .i64 lab]
  refine (rcheck25_c A c l B d T _ (H.out.below W0.out) (HT.out.below W0.out)).mono ?_
  rintro e w1 ⟨rfl, hb1⟩
  have HB1 := Lib.hid (bthen W0.out W0.out.size hb1)
  have kb1 := kb0.kept hb1 kb0.lt
  clear hb1 W0 kb0
  by_cases h1 : seatCheck l T = 0
  case neg =>
    have fin : Hid (takeE l T stu sec lab groups now = seatCheck l T) := by unfold Hid takeE; rw [if_pos h1]
    have finX := Lib.hid (takeX_err (groups := groups) (now := now) (by rw [fin.out]; exact h1))
    have d1 : (seatCheck l T != 0) = true := by simp [h1]
    clear h1
    go_wp2
    refine bodyPost_ret (by simp only [results, Tryz.results7]; go_simp <;> rfl) rfl ?_
    rw [fin.out, finX.out]
    exact ⟨⟨none, 0, rfl, Rd.nil _ _ _ _⟩, HB1.out⟩
  have H1 := Lib.hid h1
  rw [h1]
  clear h1
  obtain ⟨q0, q1, _⟩ := kb1.c2
  go_wp2_with fail
  refine (rcheck24_c A c l sec lab _ (H.out.below HB1.out)).mono ?_
  rintro e w2 ⟨rfl, hb2⟩
  have HB2 := Lib.hid (bthen HB1.out HB1.out.size hb2)
  have kb2 := kb1.kept hb2 kb1.lt
  clear hb2 HB1 kb1 q0 q1
  by_cases h2 : bunCheck l sec lab = 0
  case neg =>
    have fin : Hid (takeE l T stu sec lab groups now = bunCheck l sec lab) := by unfold Hid takeE; rw [if_neg (by simp [H1.out]), if_pos h2]
    have finX := Lib.hid (takeX_err (groups := groups) (now := now) (by rw [fin.out]; exact h2))
    have d1 : (bunCheck l sec lab != 0) = true := by simp [h2]
    clear h2
    go_wp2
    refine bodyPost_ret (by simp only [results, Tryz.results7]; go_simp <;> rfl) rfl ?_
    rw [fin.out, finX.out]
    exact ⟨⟨none, 0, rfl, Rd.nil _ _ _ _⟩, HB2.out⟩
  have H2 := Lib.hid h2
  rw [h2]
  clear h2
  have ARG : Hid (¬ (0 ≤ stu ∧ stu < 20000 ∧ groupsOk groups) → takeE l T stu sec lab groups now = 1) := fun h => by unfold takeE; rw [if_neg (by simp [H1.out]), if_neg (by simp [H2.out]), if_pos h]
  by_cases s1 : stu < 0
  · have fin := Lib.hid (ARG.out (by omega))
    have finX := Lib.hid (takeX_err (groups := groups) (now := now) (by rw [fin.out]; decide))
    go_wp2
    refine bodyPost_ret (by simp only [results, Tryz.results7]; go_simp <;> rfl) rfl ?_
    rw [fin.out, finX.out]
    exact ⟨⟨none, 0, rfl, Rd.nil _ _ _ _⟩, HB2.out⟩
  by_cases s2 : 20000 ≤ stu
  · have fin := Lib.hid (ARG.out (by omega))
    have finX := Lib.hid (takeX_err (groups := groups) (now := now) (by rw [fin.out]; decide))
    go_wp2
    refine bodyPost_ret (by simp only [results, Tryz.results7]; go_simp <;> rfl) rfl ?_
    rw [fin.out, finX.out]
    exact ⟨⟨none, 0, rfl, Rd.nil _ _ _ _⟩, HB2.out⟩
  go_wp2_with fail
  refine (rgroups_c G gc groups _ (HGI.out.below HB2.out)).mono ?_
  rintro e w3 ⟨rfl, hb3⟩
  have HB3 := Lib.hid (bthen HB2.out HB2.out.size hb3)
  have kb3 := kb2.kept hb3 kb2.lt
  clear hb3 kb2
  by_cases s3 : groupsOk groups
  case neg =>
    have fin := Lib.hid (ARG.out (fun h => s3 h.2.2))
    have finX := Lib.hid (takeX_err (groups := groups) (now := now) (by rw [fin.out]; decide))
    rw [decide_eq_false s3]
    clear s3
    go_wp2
    refine bodyPost_ret (by simp only [results, Tryz.results7]; go_simp <;> rfl) rfl ?_
    rw [fin.out, finX.out]
    exact ⟨⟨none, 0, rfl, Rd.nil _ _ _ _⟩, HB3.out⟩
  have H3 := Lib.hid s3
  rw [decide_eq_true s3]
  clear s3 ARG HB2
  obtain ⟨q0, q1, _⟩ := kb3.c2
  have REST : Hid (takeE l T stu sec lab groups now = if hasAny T stu (partsB sec lab) = true then 250 else
      match takeOne l T stu sec groups now with
      | none => 251
      | some x => if lab = -1 then 0 else
        match takeOne l x stu lab groups now with
        | none => 251
        | some _ => 0) := by
    unfold Hid takeE
    rw [if_neg (by simp [H1.out]), if_neg (by simp [H2.out]), if_neg (fun h => h ⟨by omega, by omega, H3.out⟩)]
    rfl
  go_wp2_with fail
  refine (rhas_c B d T stu sec _ (HT.out.below HB3.out)).mono ?_
  rintro e w4 ⟨rfl, hb4⟩
  have HB4 := Lib.hid (bthen HB3.out HB3.out.size hb4)
  have kb4 := kb3.kept hb4 kb3.lt
  clear hb4 kb3 HB3 q0 q1
  obtain ⟨q0, q1, _⟩ := kb4.c2
  cases a1 : hasSeat T stu sec
  case true =>
    have fin : Hid (takeE l T stu sec lab groups now = 250) := by
      unfold Hid
      rw [REST.out, if_pos (by unfold hasAny; exact List.any_eq_true.2 ⟨sec, mem_partsB.2 (.inl rfl), a1⟩)]
    have finX := Lib.hid (takeX_err (groups := groups) (now := now) (by rw [fin.out]; decide))
    clear a1
    go_wp2
    refine bodyPost_ret (by simp only [results, Tryz.results7]; go_simp <;> rfl) rfl ?_
    rw [fin.out, finX.out]
    exact ⟨⟨none, 0, rfl, Rd.nil _ _ _ _⟩, HB4.out⟩
  have hbz := bunCheck_zero H2.out
  obtain ⟨h0, s, hf, hsl, hlab⟩ := hbz
  have hFs := formed_of h0 (find_mem hf).1
  have HF := Lib.hid hf
  have HFS := Lib.hid hFs
  have HZ := Lib.hid h0
  clear hf hFs h0 hsl
  rcases hlab with ⟨hl1, _⟩ | ⟨hl0, hl1, t, hft, _⟩
  · subst hl1
    have NH : Hid (hasAny T stu (partsB sec (-1)) = false) := by unfold Hid hasAny partsB; simp [a1]
    clear a1
    go_wp2_with fail
    refine (rone_c A c l B d T stu sec G gc groups now s _ (H.out.below HB4.out) (HT.out.below HB4.out) (HGI.out.below HB4.out) HF.out HFS.out H3.out hd (by omega)).mono ?_
    rintro e w5 ⟨ho, hb5⟩
    have HB5 := Lib.hid (bthen HB4.out HB4.out.size hb5)
    have kb5 := kb4.kept hb5 kb4.lt
    clear hb5 kb4 q0 q1
    obtain ⟨q0, q1, _⟩ := kb5.c2
    cases htk : takeOne l T stu sec groups now with
    | none =>
      rw [htk] at ho
      simp only [OneR] at ho
      subst ho
      have fin : Hid (takeE l T stu sec (-1) groups now = 251) := by unfold Hid; rw [REST.out, if_neg (by rw [NH.out]; decide), htk]
      have finX := Lib.hid (takeX_err (groups := groups) (now := now) (by rw [fin.out]; decide))
      clear htk
      go_wp2
      refine bodyPost_ret (by simp only [results, Tryz.results7]; go_simp <;> rfl) rfl ?_
      rw [fin.out, finX.out]
      exact ⟨⟨none, 0, rfl, Rd.nil _ _ _ _⟩, HB5.out⟩
    | some X =>
      rw [htk] at ho
      simp only [OneR] at ho
      obtain ⟨v, he, hov⟩ := ho
      subst he
      have fin : Hid (takeE l T stu sec (-1) groups now = 0) := by unfold Hid; rw [REST.out, if_neg (by rw [NH.out]; decide), htk]; simp
      have finX : Hid (takeX l T stu sec (-1) groups now = X) := by unfold Hid takeX; rw [if_neg (by simp [fin.out]), htk]; simp
      have hXl : X.length ≤ 62 := by have := takeX_length l T stu sec (-1) groups now; rw [finX.out] at this; omega
      obtain ⟨Ra, Rc, hs⟩ := hov.shape
      subst hs
      have HR := Lib.hid (hov.reads (by omega)).2
      clear htk hov
      go_wp2
      refine bodyPost_ret (by simp only [results, Tryz.results7]; go_simp <;> rfl) rfl ?_
      rw [fin.out, finX.out]
      exact ⟨⟨Ra, Rc, rfl, HR.out⟩, HB5.out⟩
  · have hHt := find_mem hft
    have HFT := Lib.hid hft
    have HFTF := Lib.hid (formed_of HZ.out hHt.1)
    have hlne : ¬ lab = -1 := by omega
    clear hft hHt
    go_wp2_with fail
    refine (rhas_c B d T stu lab _ (HT.out.below HB4.out)).mono ?_
    rintro e w5 ⟨rfl, hb5⟩
    have HB5 := Lib.hid (bthen HB4.out HB4.out.size hb5)
    have kb5 := kb4.kept hb5 kb4.lt
    clear hb5 kb4 HB4 q0 q1
    obtain ⟨q0, q1, _⟩ := kb5.c2
    cases a2 : hasSeat T stu lab
    case true =>
      have fin : Hid (takeE l T stu sec lab groups now = 250) := by
        unfold Hid
        rw [REST.out, if_pos (by unfold hasAny; exact List.any_eq_true.2 ⟨lab, mem_partsB.2 (.inr ⟨hlne, rfl⟩), a2⟩)]
      have finX := Lib.hid (takeX_err (groups := groups) (now := now) (by rw [fin.out]; decide))
      clear a1 a2
      go_wp2
      refine bodyPost_ret (by simp only [results, Tryz.results7]; go_simp <;> rfl) rfl ?_
      rw [fin.out, finX.out]
      exact ⟨⟨none, 0, rfl, Rd.nil _ _ _ _⟩, HB5.out⟩
    have NH : Hid (hasAny T stu (partsB sec lab) = false) := by unfold Hid hasAny partsB; simp [a1, a2, hlne]
    clear a1 a2
    go_wp2_with fail
    refine (rone_c A c l B d T stu sec G gc groups now s _ (H.out.below HB5.out) (HT.out.below HB5.out) (HGI.out.below HB5.out) HF.out HFS.out H3.out hd (by omega)).mono ?_
    rintro e w6 ⟨ho, hb6⟩
    have HB6 := Lib.hid (bthen HB5.out HB5.out.size hb6)
    have kb6 := kb5.kept hb6 kb5.lt
    clear hb6 kb5 HB5 q0 q1
    obtain ⟨q0, q1, _⟩ := kb6.c2
    cases htk : takeOne l T stu sec groups now with
    | none =>
      rw [htk] at ho
      simp only [OneR] at ho
      subst ho
      have fin : Hid (takeE l T stu sec lab groups now = 251) := by unfold Hid; rw [REST.out, if_neg (by rw [NH.out]; decide), htk]
      have finX := Lib.hid (takeX_err (groups := groups) (now := now) (by rw [fin.out]; decide))
      clear htk
      go_wp2
      refine bodyPost_ret (by simp only [results, Tryz.results7]; go_simp <;> rfl) rfl ?_
      rw [fin.out, finX.out]
      exact ⟨⟨none, 0, rfl, Rd.nil _ _ _ _⟩, HB6.out⟩
    | some X =>
      rw [htk] at ho
      simp only [OneR] at ho
      obtain ⟨v, he, hov⟩ := ho
      subst he
      have hXl : X.length ≤ 61 := by
        have h := htk
        rw [takeOne_eq HF.out] at h
        obtain ⟨g, _, rfl⟩ := Option.map_eq_some_iff.1 h
        rw [addS_length]; omega
      have HTK := Lib.hid htk
      obtain ⟨Ra, Rc, hs⟩ := hov.shape
      subst hs
      have hcap := hov.cap
      have HR := Lib.hid (hov.reads (by omega)).2
      clear htk hov
      go_wp2_with fail
      refine (rone_c A c l Ra Rc X stu lab G gc groups now t _ (H.out.below HB6.out) HR.out (HGI.out.below HB6.out) HFT.out HFTF.out H3.out hcap (by omega)).mono ?_
      rintro e w7 ⟨ho, hb7⟩
      have HB7 := Lib.hid (bthen HB6.out HB6.out.size hb7)
      clear hb7 HB6 q0 q1
      cases htl : takeOne l X stu lab groups now with
      | none =>
        rw [htl] at ho
        simp only [OneR] at ho
        subst ho
        have fin : Hid (takeE l T stu sec lab groups now = 251) := by unfold Hid; rw [REST.out, if_neg (by rw [NH.out]; decide), HTK.out]; simp [hlne, htl]
        have finX := Lib.hid (takeX_err (groups := groups) (now := now) (by rw [fin.out]; decide))
        clear htl
        go_wp2
        refine bodyPost_ret (by simp only [results, Tryz.results7]; go_simp <;> rfl) rfl ?_
        rw [fin.out, finX.out]
        exact ⟨⟨none, 0, rfl, Rd.nil _ _ _ _⟩, HB7.out⟩
      | some Y =>
        rw [htl] at ho
        simp only [OneR] at ho
        obtain ⟨v, he, hov⟩ := ho
        subst he
        have fin : Hid (takeE l T stu sec lab groups now = 0) := by unfold Hid; rw [REST.out, if_neg (by rw [NH.out]; decide), HTK.out]; simp [hlne, htl]
        have finX : Hid (takeX l T stu sec lab groups now = Y) := by unfold Hid takeX; rw [if_neg (by simp [fin.out]), HTK.out]; simp [hlne, htl]
        have hYl : Y.length ≤ 62 := by have := takeX_length l T stu sec lab groups now; rw [finX.out] at this; omega
        obtain ⟨Ya, Yc, hs⟩ := hov.shape
        subst hs
        have HRY := Lib.hid (hov.reads (by omega)).2
        clear htl hov
        go_wp2
        refine bodyPost_ret (by simp only [results, Tryz.results7]; go_simp <;> rfl) rfl ?_
        rw [fin.out, finX.out]
        exact ⟨⟨Ya, Yc, rfl, HRY.out⟩, HB7.out⟩
end Go.Proofs.YteonpdnncodkaaaGreatDoor

/- SeatsTakeSpec returns true: the walk. -/
set_option linter.unusedVariables false
set_option linter.unusedSimpArgs false
namespace Go.Proofs.YteonpdnncodkaaaGreatDoor
open Go.RowKit

set_option maxRecDepth 100000 in
set_option maxHeartbeats 4000000 in
theorem takeSpec_c (A : Option Addr) (c : Nat) (l : List Sec) (B : Option Addr) (d : Nat) (T : List Seat) (stu sec lab : Int) (G : Option Addr) (gc : Nat) (groups : List Int) (now : Int) (w : World)
    (hGl : Glob w) (h : RSecs w A l) (ht : RSeats w B T) (hd : T.length ≤ d) (hg : RInts w G groups) :
    Calls Tryz.prog 3 #[.slice A l.length c, .slice B T.length d, .int .i64 stu, .agg #[.int .i64 sec, .int .i64 lab], .slice G groups.length gc, .int .i64 now] w fun e w' => e = .returned (.bool true) ∧ Below w.heap.size w w' := by
  have hTl := ht.len
  have hgl := hg.len
  have H := Lib.hid h
  have HT := Lib.hid ht
  have HGI := Lib.hid hg
  clear h ht hg
  go_enter Tryz.func3, Tryz.ntmps3
  go_wp2_with fail
  have W0 : Hid (Below w.heap.size w (w.alloc (.cells #[.int .i64 sec, .int .i64 lab] 25))) := by unfold Hid; go_grown
  have kb0 := Blk.new w 25 #[.int .i64 sec, .int .i64 lab]
  refine (sane_c _ (hGl.below W0.out)).mono ?_
  rintro e w1 ⟨rfl, hb1⟩
  have HB1 := Lib.hid (bthen W0.out W0.out.size hb1)
  have kb1 := kb0.kept hb1 kb0.lt
  clear hb1 W0 kb0
  go_wp2_with fail
  refine (few25_c A c l B d T _ (H.out.below HB1.out) hTl).mono ?_
  rintro e w2 ⟨rfl, rfl⟩
  cases hfew : few25 l T
  · go_wp2
    go_ret
    exact ⟨rfl, HB1.out⟩
  have hfw := few25_true hfew
  obtain ⟨hfw1, hfw2⟩ := hfw
  clear hfew
  by_cases hg12 : groups.length ≤ 12
  case neg =>
    have hg13 : 12 < groups.length := by omega
    clear hg12
    go_wp2
    go_ret
    exact ⟨rfl, HB1.out⟩
  obtain ⟨q0, q1, _⟩ := kb1.c2
  go_wp2_with fail
  refine (take_c A c l B d T stu sec lab G gc groups now _ (hGl.below HB1.out) (H.out.below HB1.out) (HT.out.below HB1.out) (HGI.out.below HB1.out) (by omega)).mono ?_
  rintro e w3 ⟨⟨Xa, Xc, rfl, xr, xl⟩, hb3⟩
  have HB3 := Lib.hid (bthen HB1.out HB1.out.size hb3)
  have kb3 := kb1.kept hb3 kb1.lt
  have XR3 := Lib.hid xr
  clear hb3 kb1 HB1 q0 q1 xr
  obtain ⟨q0, q1, _⟩ := kb3.c2
  go_wp2_with fail
  refine (rtake_c A c l B d T stu sec lab G gc groups now _ (H.out.below HB3.out) (HT.out.below HB3.out) (HGI.out.below HB3.out) hd (by omega)).mono ?_
  rintro e w4 ⟨⟨Ya, Yc, rfl, yr⟩, hb4⟩
  have HB4 := Lib.hid (bthen HB3.out HB3.out.size hb4)
  have kb4 := kb3.kept hb4 kb3.lt
  have XR4 := Lib.hid (XR3.out.below hb4)
  have YR4 := Lib.hid yr
  clear hb4 kb3 HB3 XR3 q0 q1 yr
  obtain ⟨q0, q1, _⟩ := kb4.c2
  go_wp2_with fail
  refine (leave_c B d T stu sec lab _ (HT.out.below HB4.out) (by omega)).mono ?_
  rintro e w5 ⟨⟨Ma, Mc, rfl, mr, ml⟩, hb5⟩
  have HB5 := Lib.hid (bthen HB4.out HB4.out.size hb5)
  have kb5 := kb4.kept hb5 kb4.lt
  have XR5 := Lib.hid (XR4.out.below hb5)
  have YR5 := Lib.hid (YR4.out.below hb5)
  have MR5 := Lib.hid mr
  clear hb5 kb4 HB4 XR4 YR4 q0 q1 mr
  obtain ⟨q0, q1, _⟩ := kb5.c2
  go_wp2_with fail
  refine (rleave_c B d T stu sec lab _ (HT.out.below HB5.out) (by omega)).mono ?_
  rintro e w6 ⟨⟨Na, Nc, rfl, nr⟩, hb6⟩
  have HB6 := Lib.hid (bthen HB5.out HB5.out.size hb6)
  have XR6 := Lib.hid (XR5.out.below hb6)
  have YR6 := Lib.hid (YR5.out.below hb6)
  have MR6 := Lib.hid (MR5.out.below hb6)
  have NR6 := Lib.hid nr
  clear hb6 kb5 HB5 XR5 YR5 MR5 q0 q1 nr
  have es1 : Hid (sameS (takeX l T stu sec lab groups now) (takeX l T stu sec lab groups now) = true) := by unfold Hid sameS; simp
  have es2 : Hid (sameS (leaveX T stu sec lab) (leaveX T stu sec lab) = true) := by unfold Hid sameS; simp
  generalize takeE l T stu sec lab groups now = E1 at *
  generalize leaveE T stu sec lab = E2 at *
  go_wp2_with fail
  refine (same25_c Xa Xc _ Ya Yc _ _ XR6.out YR6.out).mono ?_
  rintro e w7 ⟨rfl, hb7⟩
  rw [es1.out]
  have HB7 := Lib.hid (bthen HB6.out HB6.out.size hb7)
  have MR7 := Lib.hid (MR6.out.below hb7)
  have NR7 := Lib.hid (NR6.out.below hb7)
  clear hb7
  go_wp2_with fail
  refine (same25_c Ma Mc _ Na Nc _ _ MR7.out NR7.out).mono ?_
  rintro e w8 ⟨rfl, hb8⟩
  rw [es2.out]
  have HB8 := Lib.hid (bthen HB7.out HB7.out.size hb8)
  clear hb8
  go_wp2
  go_ret
  exact ⟨rfl, HB8.out⟩
end Go.Proofs.YteonpdnncodkaaaGreatDoor
