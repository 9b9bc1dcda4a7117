/- slices.BinarySearchFunc over seats: its contract. -/
import Derived.Test.YteonpdnncodkaaaGreatDoorClone
import Derived.Test.YteonpdnncodkaaaGreatDoorTool
set_option linter.unusedVariables false
set_option linter.unusedSimpArgs false
namespace Go.Proofs.YteonpdnncodkaaaGreatDoor
open Go.RowKit

/-- Where x belongs. -/
def posS (l : List Seat) (x : Seat) : Nat := (l.takeWhile fun y => decide (cmpSeat y x < 0)).length

set_option maxRecDepth 100000 in
set_option maxHeartbeats 4000000 in
theorem binSeat_c (A : Option Addr) (c : Nat) (l : List Seat) (x : Seat) (w : World) (h : RSeats w A l) (hs : l.Pairwise seatLt) :
    Calls Tryz.prog 21 #[.slice A l.length c, .agg #[.int .i64 x.stu, .int .i64 x.sec, .int .i64 x.grp], .func (.func 22) #[] #[]] w fun e w' =>
      (∃ (p : Nat) (b : Bool), e = .returned (.tuple #[.int .i64 p, .bool b]) ∧ p ≤ l.length ∧ (∀ k, (hk : k < l.length) → k < p → cmpSeat l[k] x < 0) ∧ (∀ k, (hk : k < l.length) → p ≤ k → 0 ≤ cmpSeat l[k] x)) ∧ Below w.heap.size w w' := by
  have hl := h.len
  have H := Lib.hid h
  have HS := Lib.hid hs
  clear h hs
  have eg : ∀ args w, (callFunc 22 args).run Tryz.prog w = .ok (.enter 22 args) w := enters_of Tryz.func22 (by kernel_rfl) rfl
  go_enter Tryz.func21, Tryz.ntmps21
  go_wp2
  go_loopg [9, 10, 11] l.length (fun n i j hh wr => ∃ a b : Nat, n + a = b ∧ b ≤ l.length ∧ i = .int .i64 a ∧ j = .int .i64 b ∧ Hid (∀ k, (hk : k < l.length) → k < a → cmpSeat l[k] x < 0) ∧ Hid (∀ k, (hk : k < l.length) → b ≤ k → 0 ≤ cmpSeat l[k] x) ∧ Blk wr w.heap.size 44 #[.int .i64 x.stu, .int .i64 x.sec, .int .i64 x.grp] ∧ Hid (Below w.heap.size w wr))
  case atStart => exact ⟨0, l.length, by omega, by omega, rfl, rfl, by intro k _ hk; omega, by intro k hk h; omega, Blk.new _ _ _, by unfold Hid; go_grown⟩
  case round =>
    obtain ⟨a, b, hab, hbl, rfl, rfl, ha, hb, hbk, hB⟩ := hrel
    obtain ⟨b0, b1, b2, bf⟩ := hbk.c3
    have hs1 := hbk.lt
    by_cases hlt : a < b
    · obtain ⟨m, hm⟩ : ∃ m : Nat, m = (a + b) / 2 := ⟨_, rfl⟩
      have hmi : ((a : Int) + (b : Int)) / 2 = (m : Int) := by omega
      have hma : a ≤ m := by omega
      have hmb : m < b := by omega
      have hml : m < l.length := by omega
      have hwm : IntKind.i64.wrap (m : Int) = m := wrapi (by omega) (by omega)
      clear hm
      go_wp2_with fail
      obtain ⟨W, hW⟩ : ∃ W, W = wr.drew := ⟨_, rfl⟩
      have K1 : Blk W w.heap.size 44 #[.int .i64 x.stu, .int .i64 x.sec, .int .i64 x.grp] := by rw [hW]; exact hbk.drew
      have hBW : Hid (Below w.heap.size w W) := by unfold Hid; rw [hW]; exact bdrewN hB.out 1
      have HW := Lib.hid hW
      clear b0 b1 b2 bf
      obtain ⟨b0, b1, b2, bf⟩ := K1.c3
      obtain ⟨ad, e1, p0, p1, p2⟩ := H.out.at hBW.out m hml
      subst e1
      obtain ⟨y, hy⟩ : ∃ y, y = l[m] := ⟨_, rfl⟩
      have HY := Lib.hid hy
      rw [← hy] at p0 p1 p2
      (refine still_tail 6 (by kernel_rfl) (by kernel_rfl) W HW.out ?_; simp only [List.take_succ_cons, List.take_zero, List.drop_succ_cons, List.drop_zero])
      clear hy hW HW hB
      repeat still_step
      refine wpStill_nil ?_
      go_wp2_with fail
      refine (compareSeat_c y x _).mono ?_
      rintro e w2 ⟨rfl, hb2⟩
      have hB2 := Lib.hid (bthen hBW.out hBW.out.size hb2)
      have K2 := K1.kept hb2 K1.lt
      clear b0 b1 b2 bf p0 p1 p2 K1 hbk hb2
      by_cases hc : cmpSeat y x < 0
      · have f1 : Hid (∀ k, (hk : k < l.length) → k < m + 1 → cmpSeat l[k] x < 0) := by
          intro k hk hkm
          have h1 := HS.out
          have h2 := hc
          rw [HY.out] at h2
          by_cases e : k = m
          · subst e; exact h2
          · exact cmpSeat_neg.2 (seatLt_trans (List.pairwise_iff_getElem.1 h1 k m hk hml (by omega)) (cmpSeat_neg.1 h2))
        go_wp2
        go_roundg (b - (m + 1))
        case measure => omega
        case rel => exact ⟨m + 1, b, by omega, by omega, by go_num, rfl, f1, hb, K2, hB2⟩
      · have f1 : Hid (∀ k, (hk : k < l.length) → m ≤ k → 0 ≤ cmpSeat l[k] x) := by
          intro k hk hkm
          have h1 := HS.out
          have h2 := hc
          rw [HY.out] at h2
          by_cases e : k = m
          · subst e; omega
          · refine Int.not_lt.1 (fun h3 => h2 ?_)
            exact cmpSeat_neg.2 (seatLt_trans (List.pairwise_iff_getElem.1 h1 m k hml hk (by omega)) (cmpSeat_neg.1 h3))
        go_wp2
        go_roundg (m - a)
        case measure => omega
        case rel => exact ⟨a, m, by omega, by omega, rfl, by go_num, ha, f1, K2, hB2⟩
    · have hab2 : a = b := by omega
      subst hab2
      by_cases hal : a < l.length
      · have hwa : IntKind.i64.wrap (a : Int) = a := wrapi (by omega) (by omega)
        have d1 : decide ((a : Int) < l.length) = true := by simp; omega
        have d2 : decide (a < l.length) = true := by simp; omega
        go_wp2_with fail
        refine region_below (by kernel_rfl) (by kernel_rfl) (fun ι hι f hf hg => ?_)
        obtain ⟨y, hy⟩ : ∃ y, y = l[a] := ⟨_, rfl⟩
        have k1 : ∀ n, (f n).cell? ⟨w.heap.size, 0, none⟩ = some (.int .i64 x.stu) := fun n => (hbk.kept (hf n) hbk.lt).c3.1
        have k2 : ∀ n, (f n).cell? ⟨w.heap.size, 1, none⟩ = some (.int .i64 x.sec) := fun n => (hbk.kept (hf n) hbk.lt).c3.2.1
        have k3 : ∀ n, (f n).cell? ⟨w.heap.size, 2, none⟩ = some (.int .i64 x.grp) := fun n => (hbk.kept (hf n) hbk.lt).c3.2.2.1
        obtain ⟨ad, e1, p0, p1, p2⟩ := H.out.at hB.out a hal
        subst e1
        rw [← hy] at p0 p1 p2
        have q0 := fun n => cell_kept (hf n) p0
        have q1 := fun n => cell_kept (hf n) p1
        have q2 := fun n => cell_kept (hf n) p2
        have HF := Lib.hid hf
        have HG := Lib.hid hg
        clear hy b0 b1 b2 bf p0 p1 p2 hbk hf hg
        repeat go_big_quiet_step ((refine (compareSeat_c y x _).mono ?_; rintro e w2 ⟨rfl, hb2⟩; exact ⟨rfl, HG.out _ _ hb2⟩))
        refine wpQuiet_nil ?_
        rintro _ ⟨n, rfl⟩
        have hB2 := Lib.hid (bthen hB.out hB.out.size (HF.out n))
        go_wp2
        refine bodyPost_ret (by simp only [results, Tryz.results21]; go_simp <;> rfl) rfl ?_
        exact ⟨⟨a, _, rfl, hbl, ha.out, hb.out⟩, hB2.out⟩
      · have d1 : decide ((a : Int) < l.length) = false := by simp; omega
        have d2 : decide (a < l.length) = false := by simp; omega
        have hal2 : Hid (a = l.length) := by unfold Hid; omega
        clear hal
        go_wp2_with fail
        go_quiet (fail)
        go_wp2
        refine bodyPost_ret (by simp only [results, Tryz.results21]; go_simp <;> rfl) rfl ?_
        exact ⟨⟨a, _, rfl, hbl, ha.out, hb.out⟩, bdrewN hB.out _⟩
end Go.Proofs.YteonpdnncodkaaaGreatDoor
