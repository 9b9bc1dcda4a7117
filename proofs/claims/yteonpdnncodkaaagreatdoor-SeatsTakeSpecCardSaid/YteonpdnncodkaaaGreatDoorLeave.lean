/- The closure that seats.Leave hands to slices.DeleteFunc: its contract. -/
import Derived.Test.YteonpdnncodkaaaGreatDoorTake
import Derived.Deep.RegionHeld3
import Derived.Test.YteonpdnncodkaaaGreatDoorDel2
set_option linter.unusedVariables false
set_option linter.unusedSimpArgs false
namespace Go.Proofs.YteonpdnncodkaaaGreatDoor
open Go.RowKit

set_option maxRecDepth 100000 in
set_option maxHeartbeats 4000000 in
theorem leave1_c (s : Seat) (stu sec lab : Int) (bs bb : Nat) (w : World) (ks : Blk w bs 3 #[.int .i64 stu]) (kb : Blk w bb 25 #[.int .i64 sec, .int .i64 lab]) :
    Calls Tryz.prog 31 #[.agg #[.int .i64 s.stu, .int .i64 s.sec, .int .i64 s.grp], .pointer (some ⟨bs, 0, none⟩), .pointer (some ⟨bb, 0, none⟩)] w fun e w' => e = .returned (.bool (ownS stu sec lab s)) ∧ Below w.heap.size w w' := by
  have hpl : (partsB sec lab).length ≤ 2 := by
    rcases parts_cases sec lab with ⟨_, e⟩ | ⟨_, e⟩ <;> rw [e] <;> simp
  go_enter Tryz.func31, Tryz.ntmps31
  go_wp2_with fail
  have k1 := Blk.new w 44 #[.int .i64 s.stu, .int .i64 s.sec, .int .i64 s.grp]
  have k2 := ks.alloc (.cells #[.int .i64 s.stu, .int .i64 s.sec, .int .i64 s.grp] 44)
  have k3 := kb.alloc (.cells #[.int .i64 s.stu, .int .i64 s.sec, .int .i64 s.grp] 44)
  have hB : Below w.heap.size w (w.alloc (.cells #[.int .i64 s.stu, .int .i64 s.sec, .int .i64 s.grp] 44)) := by go_grown
  obtain ⟨W, hW⟩ : ∃ W, W = w.alloc (.cells #[.int .i64 s.stu, .int .i64 s.sec, .int .i64 s.grp] 44) := ⟨_, rfl⟩
  rw [← hW] at k1 k2 k3 hB
  rw [← hW]
  have HB := Lib.hid hB
  clear hW hB
  obtain ⟨q0, q1, q2, _⟩ := k1.c3
  obtain ⟨s0, _⟩ := k2.c1
  obtain ⟨b0, b1, _⟩ := k3.c2
  by_cases he : s.stu = stu
  case neg =>
    have d : (s.stu == stu) = false := by simp [he]
    have eF : Hid (ownS stu sec lab s = false) := by
      unfold Hid
      rw [Bool.eq_false_iff]
      exact fun h => he (ownS_iff.1 h).1
    clear he
    go_quiet (fail)
    go_wp2
    go_ret
    exact ⟨ret_bool eF.out.symm, bdrewN HB.out _⟩
  have d : (s.stu == stu) = true := by simp [he]
  have eF : Hid (ownS stu sec lab s = (partsB sec lab).any fun y => s.sec == y) := by
    unfold Hid ownS
    rw [d, Bool.true_and]
    congr 1
    funext y
    rw [Bool.eq_iff_iff]
    simp only [beq_iff_eq]
    exact eq_comm
  clear he
  go_region_held3 (fun w' => w'.cell? ⟨w.heap.size, 0, none⟩ = some (.int .i64 s.stu) ∧ w'.cell? ⟨w.heap.size, 1, none⟩ = some (.int .i64 s.sec) ∧ w'.cell? ⟨bs, 0, none⟩ = some (.int .i64 stu) ∧ w'.cell? ⟨bb, 0, none⟩ = some (.int .i64 sec) ∧ w'.cell? ⟨bb, 1, none⟩ = some (.int .i64 lab))
    (first | go_keep | (exact ⟨cell_kept hb1 (by assumption), cell_kept hb1 (by assumption), cell_kept hb1 (by assumption), cell_kept hb1 (by assumption), cell_kept hb1 (by assumption)⟩))
    (first
      | (go_at_call 24; refine (parts2_c sec lab _).mono ?_; rintro e w1 ⟨⟨pb, pc, rfl, kp⟩, hb1⟩)
      | (go_at_call 32; refine (containsI_c (some ⟨pb, 0, none⟩) pc (partsB sec lab) s.sec _ (RInts.of_blk kp (by omega))).mono ?_; rintro e w2 ⟨rfl, rfl⟩))
  go_wp2
  go_ret
  exact ⟨ret_bool eF.out.symm, bthen (bdrewN HB.out 1) (bdrewN HB.out 1).size hb1⟩
end Go.Proofs.YteonpdnncodkaaaGreatDoor

/- seats.Leave: its contract. -/
set_option linter.unusedVariables false
set_option linter.unusedSimpArgs false
namespace Go.Proofs.YteonpdnncodkaaaGreatDoor
open Go.RowKit

structure LB (w W : World) (stu sec lab : Int) : Prop where
  bel : Below w.heap.size w W
  s : Blk W w.heap.size 3 #[.int .i64 stu]
  b : Blk W (w.heap.size + 1) 25 #[.int .i64 sec, .int .i64 lab]
theorem LB.below {w W W' : World} {stu sec lab : Int} (h : LB w W stu sec lab) (hb : Below W.heap.size W W') : LB w W' stu sec lab := ⟨bthen h.bel h.bel.size hb, h.s.kept hb h.s.lt, h.b.kept hb h.b.lt⟩
theorem leaveE_no {T : List Seat} {stu sec lab p : Int} (hp : p ∈ partsB sec lab) (h : hasSeat T stu p = false) : leaveE T stu sec lab = 250 := by
  unfold leaveE
  rw [if_pos]
  rw [List.any_eq_true]
  exact ⟨p, hp, by simp [h]⟩
theorem leaveE_yes {T : List Seat} {stu sec lab : Int} (h : ∀ p ∈ partsB sec lab, hasSeat T stu p = true) : leaveE T stu sec lab = 0 := by
  unfold leaveE
  rw [if_neg]
  rw [List.any_eq_true]
  rintro ⟨p, hp, hn⟩
  rw [h p hp] at hn
  cases hn

set_option maxRecDepth 100000 in
set_option maxHeartbeats 4000000 in
theorem leave_c (B : Option Addr) (d : Nat) (T : List Seat) (stu sec lab : Int) (w : World) (ht : RSeats w B T) (hT : T.length ≤ 500000) :
    Calls Tryz.prog 8 #[.slice B T.length d, .int .i64 stu, .agg #[.int .i64 sec, .int .i64 lab]] w (TakePost w (leaveX T stu sec lab) (leaveE T stu sec lab)) := by
  have HT := Lib.hid ht
  clear ht
  go_enter Tryz.func8, Tryz.ntmps8
  go_wp2_with fail
  have lb0 : LB w ((w.alloc (.cells #[.int .i64 stu] 3)).alloc (.cells #[.int .i64 sec, .int .i64 lab] 25)) stu sec lab := ⟨by go_grown, (Blk.mk' _ _ (by simp) _ _).alloc _, Blk.mk' _ _ (by simp) _ _⟩
  refine (parts2_c sec lab _).mono ?_
  rintro e w1 ⟨⟨pb, pc, rfl, kp⟩, hb1⟩
  have lb1 := lb0.below hb1
  obtain ⟨ps, hps⟩ : ∃ ps, ps = partsB sec lab := ⟨_, rfl⟩
  have hpl : ps.length ≤ 2 := by
    rw [hps]
    rcases parts_cases sec lab with ⟨_, e⟩ | ⟨_, e⟩ <;> rw [e] <;> simp
  rw [← hps] at kp
  rw [← hps]
  have HPS := Lib.hid hps
  clear hps hb1 lb0
  go_wp2
  go_loopg [13] ps.length (fun n i wr => ∃ k : Nat, n + k = ps.length ∧ i = .int .i64 k ∧ Hid (∀ q, (hq : q < k) → (hk : k ≤ ps.length) → hasSeat T stu (ps[q]'(by omega)) = true) ∧ Hid (Below w1.heap.size w1 wr))
  case atStart => exact ⟨0, by omega, rfl, by intro q hq; omega, Below.refl _ _⟩
  case round =>
    obtain ⟨k, hk, rfl, hall, hB⟩ := hrel
    have lb2 := lb1.below hB.out
    by_cases hlt : k < ps.length
    · have kp2 := kp.kept hB.out kp.lt
      obtain ⟨ad, eA, f0⟩ := (RInts.of_blk kp2 (by omega)).at (Below.refl _ _) k hlt
      cases eA
      rw [add0] at f0
      obtain ⟨s0, _⟩ := lb2.s.c1
      have ea : Addr.add ⟨pb, 0, none⟩ k = ⟨pb, k, none⟩ := add0 _ _
      go_wp2_with fail
      refine (has_c B d T stu ps[k] _ (HT.out.below lb2.bel)).mono ?_
      rintro e w2 ⟨rfl, hb2⟩
      have lb3 := lb2.below hb2
      have hB2 := Lib.hid (bthen hB.out hB.out.size hb2)
      clear hb2 s0 f0 ea
      cases hh : hasSeat T stu ps[k]
      · have eE : Hid (leaveE T stu sec lab = 250) := leaveE_no (by rw [← HPS.out]; exact List.getElem_mem hlt) hh
        have eX : Hid (leaveX T stu sec lab = []) := by unfold Hid leaveX; rw [if_pos (by rw [eE.out]; omega)]
        clear hh
        go_wp2
        refine bodyPost_ret (by simp only [results, Tryz.results8]; go_simp <;> rfl) rfl ?_
        exact TakePost.err eE.out.symm eX.out lb3.bel
      · have hall2 : Hid (∀ q, (hq : q < k + 1) → (hk : k + 1 ≤ ps.length) → hasSeat T stu (ps[q]'(by omega)) = true) := by
          intro q hq _
          by_cases e : q = k
          · subst e; exact hh
          · exact hall.out q (by omega) (by omega)
        clear hh
        go_wp2
        go_roundg (gk - 1)
        case measure => omega
        case rel => exact ⟨k + 1, by omega, by go_num, hall2, hB2⟩
    · obtain rfl : k = ps.length := by omega
      have eE : Hid (leaveE T stu sec lab = 0) := leaveE_yes (fun p hp => by
        rw [← HPS.out] at hp
        obtain ⟨q, hq, rfl⟩ := List.mem_iff_getElem.1 hp
        exact hall.out q hq (Nat.le_refl _))
      have eX : Hid (leaveX T stu sec lab = T.filter fun s => !ownS stu sec lab s) := by unfold Hid leaveX; rw [if_neg (by simp [eE.out])]
      clear hlt hall kp
      go_wp2_with fail
      refine (clone_c B d T _ (HT.out.below lb2.bel) (by omega)).mono ?_
      rintro e w2 ⟨⟨v, rfl, ho⟩, hb2⟩
      have lb3 := lb2.below hb2
      have HO := Lib.hid (ho.base (B' := w.heap.size) lb2.bel.size)
      clear ho hb2
      go_wp2_with fail
      refine (del_c w.heap.size v T 31 #[.pointer (some ⟨w.heap.size, 0, none⟩), .pointer (some ⟨w.heap.size + 1, 0, none⟩)] (ownS stu sec lab) _ lb3.bel.size HO.out (by omega) (enters_of Tryz.func31 (by kernel_rfl) rfl) (fun W x hk => leave1_c x stu sec lab w.heap.size (w.heap.size + 1) W (hk _ _ _ (by decide) lb3.s) (hk _ _ _ (by decide) lb3.b))).mono ?_
      rintro e w3 ⟨A', c', rfl, hr, hcp, hb3⟩
      have HR := Lib.hid hr
      have HB3 := Lib.hid (lb3.bel.trans hb3)
      clear hr hb3
      generalize hX : (T.filter fun s => !ownS stu sec lab s) = X at *
      have HX := Lib.hid hX
      clear hX
      go_wp2
      refine bodyPost_ret (by simp only [results, Tryz.results8]; go_simp <;> rfl) rfl ?_
      rw [eE.out, eX.out]
      exact ⟨⟨A', c', rfl, HR.out, hcp⟩, HB3.out⟩
end Go.Proofs.YteonpdnncodkaaaGreatDoor
