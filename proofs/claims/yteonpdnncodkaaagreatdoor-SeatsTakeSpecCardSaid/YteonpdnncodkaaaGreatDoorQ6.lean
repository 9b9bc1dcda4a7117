/- The reference of layer 25: Valid, Check. -/
import Derived.Test.YteonpdnncodkaaaGreatDoorQ5
import Derived.Test.YteonpdnncodkaaaGreatDoorQ2
import Derived.Test.YteonpdnncodkaaaGreatDoorSeat2
set_option linter.unusedVariables false
set_option linter.unusedSimpArgs false
namespace Go.Proofs.YteonpdnncodkaaaGreatDoor
open Go.RowKit

def okAt (l : List Sec) (T : List Seat) (x : Seat) : Prop := ∃ s, find l x.sec = some s ∧ seatOk x ∧ cntS T x.sec (-2) ≤ s.seats ∧ (0 ≤ x.grp → cntS T x.sec x.grp ≤ resv s x.grp)
theorem resv_nonneg {s : Sec} (h : Formed s) (g : Int) : 0 ≤ resv s g := by
  unfold resv
  split
  · rename_i x hx
    exact (h.2.2.2.2.2.1.2 x (List.mem_of_find?_eq_some hx)).1
  · omega
theorem okAt_of {l : List Sec} {T : List Seat} (h : ValidS l T) {x : Seat} (hx : x ∈ T) : okAt l T x := by
  obtain ⟨h1, h2, h3⟩ := h
  obtain ⟨ho, hs⟩ := h1 x hx
  obtain ⟨s, hf⟩ := Option.isSome_iff_exists.1 hs
  obtain ⟨hm, hi⟩ := find_mem hf
  obtain ⟨r1, r2⟩ := h3 s hm
  rw [hi] at r1 r2
  refine ⟨s, hf, ho, by rw [cntS_all]; exact r1, fun hg => ?_⟩
  rw [cntS_grp _ _ _ (by omega)]
  refine r2 x.grp ?_
  have h8 := ho.2.2.2
  have : x.grp = 0 ∨ x.grp = 1 ∨ x.grp = 2 ∨ x.grp = 3 ∨ x.grp = 4 ∨ x.grp = 5 ∨ x.grp = 6 ∨ x.grp = 7 := by omega
  rcases this with h | h | h | h | h | h | h | h <;> simp [h]
theorem valid_of {l : List Sec} {T : List Seat} (h0 : checkAllS l = 0) (h : ∀ x ∈ T, okAt l T x) (hp : T.Pairwise seatLt) : ValidS l T := by
  refine ⟨fun x hx => ?_, hp, fun s hs => ?_⟩
  · obtain ⟨s, hf, ho, _⟩ := h x hx
    exact ⟨ho, by rw [hf]; rfl⟩
  · have hF := formed_of h0 hs
    have hse := wi_true.1 hF.2.2.2.2.1
    have hfs := find_of_mem (ids_of h0) hs
    refine ⟨?_, fun g hg8 => ?_⟩
    · cases e : ofSec T s.id with
      | nil => simp; omega
      | cons x t =>
        have hx : x ∈ ofSec T s.id := by rw [e]; simp
        obtain ⟨hxT, hxs⟩ := List.mem_filter.1 hx
        have hxs' : x.sec = s.id := by simpa using hxs
        obtain ⟨s', hf, _, h1, _⟩ := h x hxT
        rw [hxs', hfs] at hf
        cases hf
        rw [hxs', cntS_all, e] at h1
        exact h1
    · rcases Int.lt_or_le 0 (cn (ofSec T s.id) g) with hc | hc
      · have hpos : 0 < (ofSec T s.id).countP fun y => y.grp == g := by unfold cn at hc; omega
        obtain ⟨x, hx, hxg⟩ := List.countP_pos_iff.1 hpos
        obtain ⟨hxT, hxs⟩ := List.mem_filter.1 hx
        have hxs' : x.sec = s.id := by simpa using hxs
        have hxg' : x.grp = g := by simpa using hxg
        obtain ⟨s', hf, _, _, h2⟩ := h x hxT
        rw [hxs', hfs] at hf
        cases hf
        have hg0 : 0 ≤ g := by simp at hg8; omega
        rw [hxs', hxg', cntS_grp _ _ _ (by omega)] at h2
        exact h2 hg0
      · have := resv_nonneg hF g
        omega

attribute [local irreducible] Calls in
set_option maxRecDepth 100000 in
set_option maxHeartbeats 8000000 in
theorem rvalid_c (A : Option Addr) (c : Nat) (l : List Sec) (B : Option Addr) (d : Nat) (T : List Seat) (w : World) (h : RSecs w A l) (ht : RSeats w B T) (h0 : checkAllS l = 0) :
    Calls Tryz.prog 47 #[.slice A l.length c, .slice B T.length d] w fun e w' => e = .returned (.bool (decide (ValidS l T))) ∧ Below w.heap.size w w' := by
  have hl := h.len
  have htl := ht.len
  have H := Lib.hid h
  have HT := Lib.hid ht
  have H0 := Lib.hid h0
  clear h ht h0
  go_enter Tryz.func47, Tryz.ntmps47
  go_wp2
  go_loopg [5] T.length (fun n i wr => ∃ k : Nat, n + k = T.length ∧ i = .int .i64 k ∧ Hid (∀ x ∈ T.take k, okAt l T x) ∧ Hid ((T.take k).Pairwise seatLt) ∧ Hid (Below w.heap.size w wr))
  case atStart => exact ⟨0, by omega, rfl, by unfold Hid; simp, by unfold Hid; simp, Below.refl _ _⟩
  case round =>
    obtain ⟨k, hk, rfl, hok, hso, hB⟩ := hrel
    by_cases hlt : k < T.length
    · obtain ⟨ad, eB, f0, f1, f2⟩ := HT.out.at hB.out k hlt
      subst eB
      have hwk : IntKind.i64.wrap (k : Int) = k := wrapi (by omega) (by omega)
      have BAD : Hid (¬ okAt l T T[k] → decide (ValidS l T) = false) := fun h => decide_eq_false (fun hv => h (okAt_of hv (List.getElem_mem hlt)))
      have GOOD : Hid (okAt l T T[k] → ∀ x ∈ T.take (k + 1), okAt l T x) := fun h x hx => by
        rw [List.take_succ_eq_append_getElem hlt] at hx
        rcases List.mem_append.1 hx with hx | hx
        · exact hok.out x hx
        · rw [List.mem_singleton.1 hx]; exact h
      have HCK : Hid ((k = 0 ∧ (T.take (k + 1)).Pairwise seatLt) ∨ ∃ j, ∃ hj : j < T.length, k = j + 1 ∧ (seatLt T[j] T[k] → (T.take (k + 1)).Pairwise seatLt) ∧ (¬ seatLt T[j] T[k] → decide (ValidS l T) = false)) := by
        rcases Nat.eq_zero_or_pos k with e | e
        · subst e
          exact .inl ⟨rfl, sorted_step hlt hso.out (fun h => absurd h (by omega))⟩
        · obtain ⟨j, rfl⟩ : ∃ j, k = j + 1 := ⟨k - 1, by omega⟩
          exact .inr ⟨j, by omega, rfl, fun h => sorted_step hlt hso.out (fun _ => h), fun h => decide_eq_false (fun hv => h (List.pairwise_iff_getElem.1 hv.2.1 j (j + 1) (by omega) hlt (by omega)))⟩
      obtain ⟨x, hx⟩ : ∃ x, x = T[k] := ⟨_, rfl⟩
      rw [← hx] at f0 f1 f2 BAD GOOD HCK
      clear hx
      obtain ⟨xu, xs, xg⟩ := x
      simp only at f0 f1 f2
      have kx0 := Blk.new wr 44 #[.int .i64 xu, .int .i64 xs, .int .i64 xg]
      have hB0 : Hid (Below w.heap.size w (wr.alloc (.cells #[.int .i64 xu, .int .i64 xs, .int .i64 xg] 44))) := by unfold Hid; have h := hB.out; have hs := h.size; go_grown
      go_wp2_with fail
      refine (find23_c A c l xs _ (H.out.below hB0.out)).mono ?_
      rintro e w1 ⟨A5, c5, A6, c6, A7, c7, rfl, hsi, hb1⟩
      have hB1 := Lib.hid (bthen hB0.out hB0.out.size hb1)
      have kx1 := kx0.kept hb1 kx0.lt
      have HSI1 := Lib.hid hsi
      clear hb1 hsi kx0 hB0 hB f0 f1 f2
      cases hf : find l xs with
      | none =>
        as_aux_lemma =>
        have fin := Lib.hid (BAD.out (fun ⟨s, h1, _⟩ => by simp only at h1; rw [hf] at h1; cases h1))
        clear hf HSI1
        unfold Sec.zero
        simp only [Option.getD_none, Option.isSome_none]
        have hB2 : Hid (Below w.heap.size w (w1.alloc (.cells #[.int .i64 0, .int .i64 0, .int .i64 0, .int .i64 0, .int .i64 0, .slice A5 0 c5, .slice A6 0 c6, .slice A7 0 c7, .bool false] 40))) := by unfold Hid; have h := hB1.out; have hs := h.size; go_grown
        go_wp2
        go_ret
        exact ⟨by rw [fin.out]; rfl, hB2.out⟩
      | some s =>
        have HF := Lib.hid hf
        rw [hf] at HSI1
        simp only [Option.getD_some] at HSI1
        clear hf
        simp only [Option.getD_some, Option.isSome_some]
        have hB2 : Hid (Below w.heap.size w (w1.alloc (.cells #[.int .i64 s.id, .int .i64 s.course, .int .i64 s.term, .int .i64 s.campus, .int .i64 s.seats, .slice A5 s.meets.length c5, .slice A6 s.groups.length c6, .slice A7 s.labs.length c7, .bool s.lab] 40))) := by unfold Hid; have h := hB1.out; have hs := h.size; go_grown
        have ky2 := Blk.new w1 40 #[.int .i64 s.id, .int .i64 s.course, .int .i64 s.term, .int .i64 s.campus, .int .i64 s.seats, .slice A5 s.meets.length c5, .slice A6 s.groups.length c6, .slice A7 s.labs.length c7, .bool s.lab]
        have kx2 := kx1.alloc (.cells #[.int .i64 s.id, .int .i64 s.course, .int .i64 s.term, .int .i64 s.campus, .int .i64 s.seats, .slice A5 s.meets.length c5, .slice A6 s.groups.length c6, .slice A7 s.labs.length c7, .bool s.lab] 40)
        have hg2 : Hid (Below w1.heap.size w1 (w1.alloc (.cells #[.int .i64 s.id, .int .i64 s.course, .int .i64 s.term, .int .i64 s.campus, .int .i64 s.seats, .slice A5 s.meets.length c5, .slice A6 s.groups.length c6, .slice A7 s.labs.length c7, .bool s.lab] 40))) := by unfold Hid; go_grown
        have HSI2 := Lib.hid (HSI1.out.below hg2.out)
        obtain ⟨q0, q1, q2, qf⟩ := kx1.c3
        have hlx := kx1.lt
        have BADS : Hid (¬ seatOk ⟨xu, xs, xg⟩ → decide (ValidS l T) = false) := fun h => BAD.out (fun ⟨_, _, h1, _⟩ => h h1)
        clear hg2
        by_cases g1 : xu < 0
        · have fin := Lib.hid (BADS.out (by unfold seatOk; simp only; omega))
          go_wp2
          go_ret
          exact ⟨by rw [fin.out]; rfl, hB2.out⟩
        by_cases g2 : 20000 ≤ xu
        · have fin := Lib.hid (BADS.out (by unfold seatOk; simp only; omega))
          go_wp2
          go_ret
          exact ⟨by rw [fin.out]; rfl, hB2.out⟩
        by_cases g3 : xg < -1
        · have fin := Lib.hid (BADS.out (by unfold seatOk; simp only; omega))
          go_wp2
          go_ret
          exact ⟨by rw [fin.out]; rfl, hB2.out⟩
        by_cases g4 : 8 ≤ xg
        · have fin := Lib.hid (BADS.out (by unfold seatOk; simp only; omega))
          go_wp2
          go_ret
          exact ⟨by rw [fin.out]; rfl, hB2.out⟩
        have HOK : Hid (seatOk ⟨xu, xs, xg⟩) := by unfold Hid seatOk; simp only; omega
        go_upto_region 8 with (fail)
        go_cut [82] (fun s82 wx => ∃ b : Bool, s82 = .bool b ∧ Hid (Below w.heap.size w wx) ∧ Blk wx wr.heap.size 44 #[.int .i64 xu, .int .i64 xs, .int .i64 xg] ∧ Blk wx w1.heap.size 40 #[.int .i64 s.id, .int .i64 s.course, .int .i64 s.term, .int .i64 s.campus, .int .i64 s.seats, .slice A5 s.meets.length c5, .slice A6 s.groups.length c6, .slice A7 s.labs.length c7, .bool s.lab] ∧ Hid (SecIn wx s A5 c5 A6 c6 A7 c7) ∧ Hid (b = true → decide (ValidS l T) = false) ∧ Hid (b = false → (T.take (k + 1)).Pairwise seatLt))
        case first => as_aux_lemma =>
          rcases HCK.out with ⟨hk0, hpp⟩ | ⟨j, hj, hk0, hyes, hno⟩
          · have d5 : decide ((0 : Int) < k) = false := by simp; omega
            have d6 : decide (0 < k) = false := by simp; omega
            clear hk0
            go_wp2_with fail
            go_quiet (fail)
            go_wp2_with fail
            go_meet
            exact ⟨false, rfl, bdrewN hB2.out _, kx2.drewN _, ky2.drewN _, HSI2.out.below (bdrewN (Below.refl _ _) _), (fun h => by cases h), fun _ => hpp⟩
          · have d5 : decide ((0 : Int) < k) = true := by simp; omega
            have d6 : decide (0 < k) = true := by simp; omega
            have hjk : (k : Int) - 1 = j := by omega
            have hwj : IntKind.i64.wrap (j : Int) = j := wrapi (by omega) (by omega)
            have dj1 : decide ((j : Int) < T.length) = true := by simp; omega
            have dj2 : decide (j < T.length) = true := by simp; omega
            obtain ⟨_, e7, p0, p1, p2⟩ := HT.out.at hB1.out j hj
            cases e7
            obtain ⟨_, e7, r0, r1, r2⟩ := HT.out.at hB2.out j hj
            cases e7
            obtain ⟨y, hy⟩ : ∃ y, y = T[j] := ⟨_, rfl⟩
            rw [← hy] at p0 p1 p2 r0 r1 r2 hyes hno
            obtain ⟨yu, ys, yg⟩ := y
            simp only at p0 p1 p2 r0 r1 r2
            have hne1 : ¬ (ad.add (j * 3)).block = w1.heap.size := Nat.ne_of_lt (block_lt p0)
            have hne2 : ¬ w1.heap.size = (ad.add (j * 3)).block := fun h => hne1 h.symm
            have HNO := Lib.hid hno
            have HYES := Lib.hid hyes
            clear hk0 hy hno hyes
            by_cases h1 : xs < ys
            · have d7 : decide (xs < ys) = true := by simp; omega
              go_wp2_with fail
              go_quiet (fail)
              go_wp2_with fail
              go_meet
              exact ⟨true, rfl, bdrewN hB2.out _, kx2.drewN _, ky2.drewN _, HSI2.out.below (bdrewN (Below.refl _ _) _), (fun _ => HNO.out (by unfold seatLt; simp only; omega)), fun h => by cases h⟩
            have d7 : decide (xs < ys) = false := by simp; omega
            by_cases h2 : ys = xs
            · have d8 : (ys == xs) = true := by simp [h2]
              by_cases h3 : xu ≤ yu
              · have d9 : decide (xu ≤ yu) = true := by simp; omega
                have fin := Lib.hid (HNO.out (by unfold seatLt; simp only; omega))
                clear h2
                go_wp2_with fail
                go_quiet (fail)
                go_wp2_with fail
                go_meet
                exact ⟨true, rfl, bdrewN hB2.out _, kx2.drewN _, ky2.drewN _, HSI2.out.below (bdrewN (Below.refl _ _) _), (fun _ => fin.out), fun h => by cases h⟩
              · have d9 : decide (xu ≤ yu) = false := by simp; omega
                have fin := Lib.hid (HYES.out (by unfold seatLt; simp only; omega))
                clear h2
                go_wp2_with fail
                go_quiet (fail)
                go_wp2_with fail
                go_meet
                exact ⟨false, rfl, bdrewN hB2.out _, kx2.drewN _, ky2.drewN _, HSI2.out.below (bdrewN (Below.refl _ _) _), (fun h => by cases h), fun _ => fin.out⟩
            · have d8 : (ys == xs) = false := by simp [h2]
              have fin := Lib.hid (HYES.out (by unfold seatLt; simp only; omega))
              clear h2
              go_wp2_with fail
              go_quiet (fail)
              go_wp2_with fail
              go_meet
              exact ⟨false, rfl, bdrewN hB2.out _, kx2.drewN _, ky2.drewN _, HSI2.out.below (bdrewN (Below.refl _ _) _), (fun h => by cases h), fun _ => fin.out⟩
        case rest => as_aux_lemma =>
          obtain ⟨b, rfl, hBc, kx, ky, HSIc, hbt, hbf⟩ := hcut
          clear HCK hB2 ky2 kx2 HSI2 HSI1 kx1 hB1 q0 q1 q2 qf
          obtain ⟨q0, q1, q2, qf⟩ := kx.c3
          cases b
          case true =>
            have fin := Lib.hid (hbt.out rfl)
            clear hbt hbf
            go_wp2
            go_ret
            exact ⟨by rw [fin.out]; rfl, hBc.out⟩
          have hpp := Lib.hid (hbf.out rfl)
          clear hbt hbf
          have HTc := Lib.hid (HT.out.below hBc.out)
          obtain ⟨hcb0, hcb1⟩ := cntS_bound T xs (-2)
          obtain ⟨hcg0, hcg1⟩ := cntS_bound T xs xg
          have BADC : Hid (¬ (cntS T xs (-2) ≤ s.seats ∧ (0 ≤ xg → cntS T xs xg ≤ resv s xg)) → decide (ValidS l T) = false) := fun h => BAD.out (fun ⟨s', h1, _, h2⟩ => by
            simp only at h1 h2
            rw [HF.out] at h1
            cases h1
            exact h h2)
          have GOODC : Hid (cntS T xs (-2) ≤ s.seats → (0 ≤ xg → cntS T xs xg ≤ resv s xg) → ∀ x ∈ T.take (k + 1), okAt l T x) := fun h1 h2 => GOOD.out ⟨s, HF.out, HOK.out, h1, h2⟩
          obtain ⟨rv, hrv⟩ : ∃ rv, rv = resv s xg := ⟨_, rfl⟩
          rw [← hrv] at BADC GOODC
          have HRE := Lib.hid hrv
          clear hrv
          by_cases g5 : s.seats < cntS T xs (-2)
          · as_aux_lemma =>
            have d1 : decide (s.seats < cntS T xs (-2)) = true := by simp; omega
            have fin := Lib.hid (BADC.out (by omega))
            go_wp2_with fail
            refine region_below (by kernel_rfl) (by kernel_rfl) (fun ι hι f hf hg => ?_); have HFN := Lib.hid hf; have HGN := Lib.hid hg; have k0 : ∀ n, (f n).cell? ⟨w1.heap.size, 0, none⟩ = some (.int .i64 s.id) := fun n => (ky.kept (hf n) ky.lt).cell 0 rfl; have k1 : ∀ n, (f n).cell? ⟨w1.heap.size, 1, none⟩ = some (.int .i64 s.course) := fun n => (ky.kept (hf n) ky.lt).cell 1 rfl; have k2 : ∀ n, (f n).cell? ⟨w1.heap.size, 2, none⟩ = some (.int .i64 s.term) := fun n => (ky.kept (hf n) ky.lt).cell 2 rfl; have k3 : ∀ n, (f n).cell? ⟨w1.heap.size, 3, none⟩ = some (.int .i64 s.campus) := fun n => (ky.kept (hf n) ky.lt).cell 3 rfl; have k4 : ∀ n, (f n).cell? ⟨w1.heap.size, 4, none⟩ = some (.int .i64 s.seats) := fun n => (ky.kept (hf n) ky.lt).cell 4 rfl; have k5 : ∀ n, (f n).cell? ⟨w1.heap.size, 5, none⟩ = some (.slice A5 s.meets.length c5) := fun n => (ky.kept (hf n) ky.lt).cell 5 rfl; have k6 : ∀ n, (f n).cell? ⟨w1.heap.size, 6, none⟩ = some (.slice A6 s.groups.length c6) := fun n => (ky.kept (hf n) ky.lt).cell 6 rfl; have k7 : ∀ n, (f n).cell? ⟨w1.heap.size, 7, none⟩ = some (.slice A7 s.labs.length c7) := fun n => (ky.kept (hf n) ky.lt).cell 7 rfl; have k8 : ∀ n, (f n).cell? ⟨w1.heap.size, 8, none⟩ = some (.bool s.lab) := fun n => (ky.kept (hf n) ky.lt).cell 8 rfl; have m0 : ∀ n, (f n).cell? ⟨wr.heap.size, 0, none⟩ = some (.int .i64 xu) := fun n => (kx.kept (hf n) kx.lt).cell 0 rfl; have m1 : ∀ n, (f n).cell? ⟨wr.heap.size, 1, none⟩ = some (.int .i64 xs) := fun n => (kx.kept (hf n) kx.lt).cell 1 rfl; have m2 : ∀ n, (f n).cell? ⟨wr.heap.size, 2, none⟩ = some (.int .i64 xg) := fun n => (kx.kept (hf n) kx.lt).cell 2 rfl; have HCC : Hid (∀ g' n, Calls Tryz.prog 67 #[.slice (some ad) T.length d, .int .i64 xs, .int .i64 g'] (f n) fun e w' => e = .returned (.int .i64 (cntS T xs g')) ∧ Below (f n).heap.size (f n) w') := (fun g' n => rcount_c (some ad) d T xs g' (f n) (HTc.out.below (hf n))); have HRS : Hid (∀ n, Calls Tryz.prog 68 #[.agg #[.int .i64 s.id, .int .i64 s.course, .int .i64 s.term, .int .i64 s.campus, .int .i64 s.seats, .slice A5 s.meets.length c5, .slice A6 s.groups.length c6, .slice A7 s.labs.length c7, .bool s.lab], .int .i64 xg] (f n) fun e w' => e = .returned (.int .i64 rv) ∧ Below (f n).heap.size (f n) w') := (fun n => (by rw [HRE.out]; exact rresv_c s A5 c5 A6 c6 A7 c7 xg (f n) (HSIc.out.below (hf n)))); clear hf hg
            repeat go_big_quiet_step (first | (refine (HCC.out _ _).mono ?_; rintro e w8 ⟨rfl, hb8⟩; exact ⟨rfl, HGN.out _ _ hb8⟩) | (refine (HRS.out _).mono ?_; rintro e w8 ⟨rfl, hb8⟩; exact ⟨rfl, HGN.out _ _ hb8⟩))
            refine wpQuiet_nil ?_
            rintro _ ⟨n, rfl⟩
            have hb := Lib.hid (bthen hBc.out hBc.out.size (HFN.out n))
            generalize f n = w3 at *
            go_wp2
            go_ret
            exact ⟨by rw [fin.out]; rfl, hb.out⟩
          have d1 : decide (s.seats < cntS T xs (-2)) = false := by simp; omega
          by_cases g6 : 0 ≤ xg
          case neg =>
            as_aux_lemma =>
            have d2 : decide (0 ≤ xg) = false := by simp; omega
            have fin := Lib.hid (GOODC.out (by omega) (fun h => absurd h g6))
            go_wp2_with fail
            refine region_below (by kernel_rfl) (by kernel_rfl) (fun ι hι f hf hg => ?_); have HFN := Lib.hid hf; have HGN := Lib.hid hg; have k0 : ∀ n, (f n).cell? ⟨w1.heap.size, 0, none⟩ = some (.int .i64 s.id) := fun n => (ky.kept (hf n) ky.lt).cell 0 rfl; have k1 : ∀ n, (f n).cell? ⟨w1.heap.size, 1, none⟩ = some (.int .i64 s.course) := fun n => (ky.kept (hf n) ky.lt).cell 1 rfl; have k2 : ∀ n, (f n).cell? ⟨w1.heap.size, 2, none⟩ = some (.int .i64 s.term) := fun n => (ky.kept (hf n) ky.lt).cell 2 rfl; have k3 : ∀ n, (f n).cell? ⟨w1.heap.size, 3, none⟩ = some (.int .i64 s.campus) := fun n => (ky.kept (hf n) ky.lt).cell 3 rfl; have k4 : ∀ n, (f n).cell? ⟨w1.heap.size, 4, none⟩ = some (.int .i64 s.seats) := fun n => (ky.kept (hf n) ky.lt).cell 4 rfl; have k5 : ∀ n, (f n).cell? ⟨w1.heap.size, 5, none⟩ = some (.slice A5 s.meets.length c5) := fun n => (ky.kept (hf n) ky.lt).cell 5 rfl; have k6 : ∀ n, (f n).cell? ⟨w1.heap.size, 6, none⟩ = some (.slice A6 s.groups.length c6) := fun n => (ky.kept (hf n) ky.lt).cell 6 rfl; have k7 : ∀ n, (f n).cell? ⟨w1.heap.size, 7, none⟩ = some (.slice A7 s.labs.length c7) := fun n => (ky.kept (hf n) ky.lt).cell 7 rfl; have k8 : ∀ n, (f n).cell? ⟨w1.heap.size, 8, none⟩ = some (.bool s.lab) := fun n => (ky.kept (hf n) ky.lt).cell 8 rfl; have m0 : ∀ n, (f n).cell? ⟨wr.heap.size, 0, none⟩ = some (.int .i64 xu) := fun n => (kx.kept (hf n) kx.lt).cell 0 rfl; have m1 : ∀ n, (f n).cell? ⟨wr.heap.size, 1, none⟩ = some (.int .i64 xs) := fun n => (kx.kept (hf n) kx.lt).cell 1 rfl; have m2 : ∀ n, (f n).cell? ⟨wr.heap.size, 2, none⟩ = some (.int .i64 xg) := fun n => (kx.kept (hf n) kx.lt).cell 2 rfl; have HCC : Hid (∀ g' n, Calls Tryz.prog 67 #[.slice (some ad) T.length d, .int .i64 xs, .int .i64 g'] (f n) fun e w' => e = .returned (.int .i64 (cntS T xs g')) ∧ Below (f n).heap.size (f n) w') := (fun g' n => rcount_c (some ad) d T xs g' (f n) (HTc.out.below (hf n))); have HRS : Hid (∀ n, Calls Tryz.prog 68 #[.agg #[.int .i64 s.id, .int .i64 s.course, .int .i64 s.term, .int .i64 s.campus, .int .i64 s.seats, .slice A5 s.meets.length c5, .slice A6 s.groups.length c6, .slice A7 s.labs.length c7, .bool s.lab], .int .i64 xg] (f n) fun e w' => e = .returned (.int .i64 rv) ∧ Below (f n).heap.size (f n) w') := (fun n => (by rw [HRE.out]; exact rresv_c s A5 c5 A6 c6 A7 c7 xg (f n) (HSIc.out.below (hf n)))); clear hf hg
            repeat go_big_quiet_step (first | (refine (HCC.out _ _).mono ?_; rintro e w8 ⟨rfl, hb8⟩; exact ⟨rfl, HGN.out _ _ hb8⟩) | (refine (HRS.out _).mono ?_; rintro e w8 ⟨rfl, hb8⟩; exact ⟨rfl, HGN.out _ _ hb8⟩))
            refine wpQuiet_nil ?_
            rintro _ ⟨n, rfl⟩
            have hb := Lib.hid (bthen hBc.out hBc.out.size (HFN.out n))
            generalize f n = w3 at *
            go_wp2
            go_roundg (gk - 1)
            case measure => omega
            case rel => exact ⟨k + 1, by omega, by go_num, fin, hpp, hb⟩
          have d2 : decide (0 ≤ xg) = true := by simp; omega
          by_cases g7 : rv < cntS T xs xg
          · as_aux_lemma =>
            have d3 : decide (rv < cntS T xs xg) = true := by simp; omega
            have fin := Lib.hid (BADC.out (fun h => by have := h.2 g6; omega))
            go_wp2_with fail
            refine region_below (by kernel_rfl) (by kernel_rfl) (fun ι hι f hf hg => ?_); have HFN := Lib.hid hf; have HGN := Lib.hid hg; have k0 : ∀ n, (f n).cell? ⟨w1.heap.size, 0, none⟩ = some (.int .i64 s.id) := fun n => (ky.kept (hf n) ky.lt).cell 0 rfl; have k1 : ∀ n, (f n).cell? ⟨w1.heap.size, 1, none⟩ = some (.int .i64 s.course) := fun n => (ky.kept (hf n) ky.lt).cell 1 rfl; have k2 : ∀ n, (f n).cell? ⟨w1.heap.size, 2, none⟩ = some (.int .i64 s.term) := fun n => (ky.kept (hf n) ky.lt).cell 2 rfl; have k3 : ∀ n, (f n).cell? ⟨w1.heap.size, 3, none⟩ = some (.int .i64 s.campus) := fun n => (ky.kept (hf n) ky.lt).cell 3 rfl; have k4 : ∀ n, (f n).cell? ⟨w1.heap.size, 4, none⟩ = some (.int .i64 s.seats) := fun n => (ky.kept (hf n) ky.lt).cell 4 rfl; have k5 : ∀ n, (f n).cell? ⟨w1.heap.size, 5, none⟩ = some (.slice A5 s.meets.length c5) := fun n => (ky.kept (hf n) ky.lt).cell 5 rfl; have k6 : ∀ n, (f n).cell? ⟨w1.heap.size, 6, none⟩ = some (.slice A6 s.groups.length c6) := fun n => (ky.kept (hf n) ky.lt).cell 6 rfl; have k7 : ∀ n, (f n).cell? ⟨w1.heap.size, 7, none⟩ = some (.slice A7 s.labs.length c7) := fun n => (ky.kept (hf n) ky.lt).cell 7 rfl; have k8 : ∀ n, (f n).cell? ⟨w1.heap.size, 8, none⟩ = some (.bool s.lab) := fun n => (ky.kept (hf n) ky.lt).cell 8 rfl; have m0 : ∀ n, (f n).cell? ⟨wr.heap.size, 0, none⟩ = some (.int .i64 xu) := fun n => (kx.kept (hf n) kx.lt).cell 0 rfl; have m1 : ∀ n, (f n).cell? ⟨wr.heap.size, 1, none⟩ = some (.int .i64 xs) := fun n => (kx.kept (hf n) kx.lt).cell 1 rfl; have m2 : ∀ n, (f n).cell? ⟨wr.heap.size, 2, none⟩ = some (.int .i64 xg) := fun n => (kx.kept (hf n) kx.lt).cell 2 rfl; have HCC : Hid (∀ g' n, Calls Tryz.prog 67 #[.slice (some ad) T.length d, .int .i64 xs, .int .i64 g'] (f n) fun e w' => e = .returned (.int .i64 (cntS T xs g')) ∧ Below (f n).heap.size (f n) w') := (fun g' n => rcount_c (some ad) d T xs g' (f n) (HTc.out.below (hf n))); have HRS : Hid (∀ n, Calls Tryz.prog 68 #[.agg #[.int .i64 s.id, .int .i64 s.course, .int .i64 s.term, .int .i64 s.campus, .int .i64 s.seats, .slice A5 s.meets.length c5, .slice A6 s.groups.length c6, .slice A7 s.labs.length c7, .bool s.lab], .int .i64 xg] (f n) fun e w' => e = .returned (.int .i64 rv) ∧ Below (f n).heap.size (f n) w') := (fun n => (by rw [HRE.out]; exact rresv_c s A5 c5 A6 c6 A7 c7 xg (f n) (HSIc.out.below (hf n)))); clear hf hg
            repeat go_big_quiet_step (first | (refine (HCC.out _ _).mono ?_; rintro e w8 ⟨rfl, hb8⟩; exact ⟨rfl, HGN.out _ _ hb8⟩) | (refine (HRS.out _).mono ?_; rintro e w8 ⟨rfl, hb8⟩; exact ⟨rfl, HGN.out _ _ hb8⟩))
            refine wpQuiet_nil ?_
            rintro _ ⟨n, rfl⟩
            have hb := Lib.hid (bthen hBc.out hBc.out.size (HFN.out n))
            generalize f n = w3 at *
            go_wp2
            go_ret
            exact ⟨by rw [fin.out]; rfl, hb.out⟩
          · as_aux_lemma =>
            have d3 : decide (rv < cntS T xs xg) = false := by simp; omega
            have fin := Lib.hid (GOODC.out (by omega) (fun _ => by omega))
            go_wp2_with fail
            refine region_below (by kernel_rfl) (by kernel_rfl) (fun ι hι f hf hg => ?_); have HFN := Lib.hid hf; have HGN := Lib.hid hg; have k0 : ∀ n, (f n).cell? ⟨w1.heap.size, 0, none⟩ = some (.int .i64 s.id) := fun n => (ky.kept (hf n) ky.lt).cell 0 rfl; have k1 : ∀ n, (f n).cell? ⟨w1.heap.size, 1, none⟩ = some (.int .i64 s.course) := fun n => (ky.kept (hf n) ky.lt).cell 1 rfl; have k2 : ∀ n, (f n).cell? ⟨w1.heap.size, 2, none⟩ = some (.int .i64 s.term) := fun n => (ky.kept (hf n) ky.lt).cell 2 rfl; have k3 : ∀ n, (f n).cell? ⟨w1.heap.size, 3, none⟩ = some (.int .i64 s.campus) := fun n => (ky.kept (hf n) ky.lt).cell 3 rfl; have k4 : ∀ n, (f n).cell? ⟨w1.heap.size, 4, none⟩ = some (.int .i64 s.seats) := fun n => (ky.kept (hf n) ky.lt).cell 4 rfl; have k5 : ∀ n, (f n).cell? ⟨w1.heap.size, 5, none⟩ = some (.slice A5 s.meets.length c5) := fun n => (ky.kept (hf n) ky.lt).cell 5 rfl; have k6 : ∀ n, (f n).cell? ⟨w1.heap.size, 6, none⟩ = some (.slice A6 s.groups.length c6) := fun n => (ky.kept (hf n) ky.lt).cell 6 rfl; have k7 : ∀ n, (f n).cell? ⟨w1.heap.size, 7, none⟩ = some (.slice A7 s.labs.length c7) := fun n => (ky.kept (hf n) ky.lt).cell 7 rfl; have k8 : ∀ n, (f n).cell? ⟨w1.heap.size, 8, none⟩ = some (.bool s.lab) := fun n => (ky.kept (hf n) ky.lt).cell 8 rfl; have m0 : ∀ n, (f n).cell? ⟨wr.heap.size, 0, none⟩ = some (.int .i64 xu) := fun n => (kx.kept (hf n) kx.lt).cell 0 rfl; have m1 : ∀ n, (f n).cell? ⟨wr.heap.size, 1, none⟩ = some (.int .i64 xs) := fun n => (kx.kept (hf n) kx.lt).cell 1 rfl; have m2 : ∀ n, (f n).cell? ⟨wr.heap.size, 2, none⟩ = some (.int .i64 xg) := fun n => (kx.kept (hf n) kx.lt).cell 2 rfl; have HCC : Hid (∀ g' n, Calls Tryz.prog 67 #[.slice (some ad) T.length d, .int .i64 xs, .int .i64 g'] (f n) fun e w' => e = .returned (.int .i64 (cntS T xs g')) ∧ Below (f n).heap.size (f n) w') := (fun g' n => rcount_c (some ad) d T xs g' (f n) (HTc.out.below (hf n))); have HRS : Hid (∀ n, Calls Tryz.prog 68 #[.agg #[.int .i64 s.id, .int .i64 s.course, .int .i64 s.term, .int .i64 s.campus, .int .i64 s.seats, .slice A5 s.meets.length c5, .slice A6 s.groups.length c6, .slice A7 s.labs.length c7, .bool s.lab], .int .i64 xg] (f n) fun e w' => e = .returned (.int .i64 rv) ∧ Below (f n).heap.size (f n) w') := (fun n => (by rw [HRE.out]; exact rresv_c s A5 c5 A6 c6 A7 c7 xg (f n) (HSIc.out.below (hf n)))); clear hf hg
            repeat go_big_quiet_step (first | (refine (HCC.out _ _).mono ?_; rintro e w8 ⟨rfl, hb8⟩; exact ⟨rfl, HGN.out _ _ hb8⟩) | (refine (HRS.out _).mono ?_; rintro e w8 ⟨rfl, hb8⟩; exact ⟨rfl, HGN.out _ _ hb8⟩))
            refine wpQuiet_nil ?_
            rintro _ ⟨n, rfl⟩
            have hb := Lib.hid (bthen hBc.out hBc.out.size (HFN.out n))
            generalize f n = w3 at *
            go_wp2
            go_roundg (gk - 1)
            case measure => omega
            case rel => exact ⟨k + 1, by omega, by go_num, fin, hpp, hb⟩
    · obtain rfl : k = T.length := by omega
      have h1 := hok.out
      have h2 := hso.out
      rw [List.take_length] at h1 h2
      have FIN := Lib.hid (decide_eq_true (valid_of H0.out h1 h2))
      clear h1 h2 hlt hk
      go_wp2
      go_ret
      exact ⟨by rw [FIN.out]; rfl, hB.out⟩

set_option maxHeartbeats 1000000 in
theorem rcheck25_c (A : Option Addr) (c : Nat) (l : List Sec) (B : Option Addr) (d : Nat) (T : List Seat) (w : World) (h : RSecs w A l) (ht : RSeats w B T) :
    Calls Tryz.prog 25 #[.slice A l.length c, .slice B T.length d] w fun e w' => e = .returned (.int .i64 (seatCheck l T)) ∧ Below w.heap.size w w' := by
  have H := Lib.hid h
  have HT := Lib.hid ht
  clear h ht
  go_enter Tryz.func25, Tryz.ntmps25
  go_wp2_with fail
  refine (rcheckAll_c A c l _ H.out).mono ?_
  rintro e w1 ⟨rfl, hb1⟩
  have hB1 := Lib.hid hb1
  clear hb1
  by_cases hz : checkAllS l = 0
  case neg =>
    have fin := Lib.hid (seatCheck_err (taken := T) hz)
    have d1 : (checkAllS l != 0) = true := by simp [hz]
    clear hz
    go_wp2
    go_ret
    exact ⟨by rw [fin.out]; rfl, hB1.out⟩
  have HZ := Lib.hid hz
  rw [hz]
  clear hz
  go_wp2_with fail
  refine (rvalid_c A c l B d T _ (H.out.below hB1.out) (HT.out.below hB1.out) HZ.out).mono ?_
  rintro e w2 ⟨rfl, hb2⟩
  have hB2 := Lib.hid (bthen hB1.out hB1.out.size hb2)
  clear hb2
  by_cases hv : ValidS l T
  · have fin := Lib.hid (seatCheck_ok HZ.out hv)
    rw [decide_eq_true hv]
    clear hv
    go_wp2
    go_ret
    exact ⟨by rw [fin.out]; rfl, hB2.out⟩
  · have fin := Lib.hid (seatCheck_no HZ.out hv)
    rw [decide_eq_false hv]
    clear hv
    go_wp2
    go_ret
    exact ⟨by rw [fin.out]; rfl, hB2.out⟩
end Go.Proofs.YteonpdnncodkaaaGreatDoor
