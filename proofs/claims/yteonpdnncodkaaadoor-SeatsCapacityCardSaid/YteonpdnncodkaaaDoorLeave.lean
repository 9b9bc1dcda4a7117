/- seats.Leave: its contract. -/
import Derived.Test.YteonpdnncodkaaaDoorLeave1
import Derived.Test.YteonpdnncodkaaaDoorDel2
set_option linter.unusedVariables false
set_option linter.unusedSimpArgs false
namespace Go.Proofs.YteonpdnncodkaaaDoor
open Go.RowKit

structure LB (w W : World) (stu sec lab : Int) : Prop where
  bel : Below w.heap.size w W
  s : Blk W w.heap.size 3 #[.int .i64 stu]
  b : Blk W (w.heap.size + 1) 53 #[.int .i64 sec, .int .i64 lab]
theorem LB.below {w W W' : World} {stu sec lab : Int} (h : LB w W stu sec lab) (hb : Below W.heap.size W W') : LB w W' stu sec lab := ⟨bthen h.bel h.bel.size hb, h.s.kept hb h.s.lt, h.b.kept hb h.b.lt⟩
theorem leaveE_no {T : List Seat} {stu sec lab p : Int} (hp : p ∈ partsB sec lab) (h : hasSeat T stu p = false) : leaveE T stu sec lab = 250 := by
  unfold leaveE
  rw [if_pos]
  rw [List.any_eq_true]
  exact ⟨p, hp, by simp [h]⟩
theorem leaveE_yes {T : List Seat} {stu sec lab : Int} (h : ∀ p ∈ partsB sec lab, hasSeat T stu p = true) : leaveE T stu sec lab = 0 := by
  unfold leaveE
  rw [if_neg]
  rw [List.any_eq_true]
  rintro ⟨p, hp, hn⟩
  rw [h p hp] at hn
  cases hn

set_option maxRecDepth 100000 in
set_option maxHeartbeats 4000000 in
theorem leave_c (B : Option Addr) (d : Nat) (T : List Seat) (stu sec lab : Int) (w : World) (ht : RSeats w B T) (hT : T.length ≤ 500000) :
    Calls Tryd.prog 40 #[.slice B T.length d, .int .i64 stu, .agg #[.int .i64 sec, .int .i64 lab]] w (TakePost w (leaveX T stu sec lab) (leaveE T stu sec lab)) := by
  have HT := Lib.hid ht
  clear ht
  go_enter Tryd.func40, Tryd.ntmps40
  go_wp2_with fail
  have lb0 : LB w ((w.alloc (.cells #[.int .i64 stu] 3)).alloc (.cells #[.int .i64 sec, .int .i64 lab] 53)) stu sec lab := ⟨by go_grown, (Blk.mk' _ _ (by simp) _ _).alloc _, Blk.mk' _ _ (by simp) _ _⟩
  refine (parts2_c sec lab _).mono ?_
  rintro e w1 ⟨⟨pb, pc, rfl, kp⟩, hb1⟩
  have lb1 := lb0.below hb1
  obtain ⟨ps, hps⟩ : ∃ ps, ps = partsB sec lab := ⟨_, rfl⟩
  have hpl : ps.length ≤ 2 := by
    rw [hps]
    rcases parts_cases sec lab with ⟨_, e⟩ | ⟨_, e⟩ <;> rw [e] <;> simp
  rw [← hps] at kp
  rw [← hps]
  have HPS := Lib.hid hps
  clear hps hb1 lb0
  go_wp2
  go_loopg [13] ps.length (fun n i wr => ∃ k : Nat, n + k = ps.length ∧ i = .int .i64 k ∧ Hid (∀ q, (hq : q < k) → (hk : k ≤ ps.length) → hasSeat T stu (ps[q]'(by omega)) = true) ∧ Hid (Below w1.heap.size w1 wr))
  case atStart => exact ⟨0, by omega, rfl, by intro q hq; omega, Below.refl _ _⟩
  case round =>
    obtain ⟨k, hk, rfl, hall, hB⟩ := hrel
    have lb2 := lb1.below hB.out
    by_cases hlt : k < ps.length
    · have kp2 := kp.kept hB.out kp.lt
      obtain ⟨ad, eA, f0⟩ := (RInts.of_blk kp2 (by omega)).at (Below.refl _ _) k hlt
      cases eA
      rw [add0] at f0
      obtain ⟨s0, _⟩ := lb2.s.c1
      have ea : Addr.add ⟨pb, 0, none⟩ k = ⟨pb, k, none⟩ := add0 _ _
      go_wp2_with fail
      refine (has_c B d T stu ps[k] _ (HT.out.below lb2.bel)).mono ?_
      rintro e w2 ⟨rfl, hb2⟩
      have lb3 := lb2.below hb2
      have hB2 := Lib.hid (bthen hB.out hB.out.size hb2)
      clear hb2 s0 f0 ea
      cases hh : hasSeat T stu ps[k]
      · have eE : Hid (leaveE T stu sec lab = 250) := leaveE_no (by rw [← HPS.out]; exact List.getElem_mem hlt) hh
        have eX : Hid (leaveX T stu sec lab = []) := by unfold Hid leaveX; rw [if_pos (by rw [eE.out]; omega)]
        clear hh
        go_wp2
        refine bodyPost_ret (by simp only [results, Tryd.results40]; go_simp <;> rfl) rfl ?_
        exact TakePost.err eE.out.symm eX.out lb3.bel
      · have hall2 : Hid (∀ q, (hq : q < k + 1) → (hk : k + 1 ≤ ps.length) → hasSeat T stu (ps[q]'(by omega)) = true) := by
          intro q hq _
          by_cases e : q = k
          · subst e; exact hh
          · exact hall.out q (by omega) (by omega)
        clear hh
        go_wp2
        go_roundg (gk - 1)
        case measure => omega
        case rel => exact ⟨k + 1, by omega, by go_num, hall2, hB2⟩
    · obtain rfl : k = ps.length := by omega
      have eE : Hid (leaveE T stu sec lab = 0) := leaveE_yes (fun p hp => by
        rw [← HPS.out] at hp
        obtain ⟨q, hq, rfl⟩ := List.mem_iff_getElem.1 hp
        exact hall.out q hq (Nat.le_refl _))
      have eX : Hid (leaveX T stu sec lab = T.filter fun s => !ownS stu sec lab s) := by unfold Hid leaveX; rw [if_neg (by simp [eE.out])]
      clear hlt hall kp
      go_wp2_with fail
      refine (clone_c B d T _ (HT.out.below lb2.bel) (by omega)).mono ?_
      rintro e w2 ⟨⟨v, rfl, ho⟩, hb2⟩
      have lb3 := lb2.below hb2
      have HO := Lib.hid (ho.base (B' := w.heap.size) lb2.bel.size)
      clear ho hb2
      go_wp2_with fail
      refine (del_c w.heap.size v T 74 #[.pointer (some ⟨w.heap.size, 0, none⟩), .pointer (some ⟨w.heap.size + 1, 0, none⟩)] (ownS stu sec lab) _ lb3.bel.size HO.out (by omega) (enters_of Tryd.func74 (by kernel_rfl) rfl) (fun W x hk => leave1_c x stu sec lab w.heap.size (w.heap.size + 1) W (hk _ _ _ (by decide) lb3.s) (hk _ _ _ (by decide) lb3.b))).mono ?_
      rintro e w3 ⟨A', c', rfl, hr, hcp, hb3⟩
      have HR := Lib.hid hr
      have HB3 := Lib.hid (lb3.bel.trans hb3)
      clear hr hb3
      generalize hX : (T.filter fun s => !ownS stu sec lab s) = X at *
      have HX := Lib.hid hX
      clear hX
      go_wp2
      refine bodyPost_ret (by simp only [results, Tryd.results40]; go_simp <;> rfl) rfl ?_
      rw [eE.out, eX.out]
      exact ⟨⟨A', c', rfl, HR.out, hcp⟩, HB3.out⟩
end Go.Proofs.YteonpdnncodkaaaDoor
