/- The reference of layer 23: Check, CheckAll. -/
import Derived.Test.YteonpdnncodkaaaGreatDoorQ4
set_option linter.unusedVariables false
set_option linter.unusedSimpArgs false
namespace Go.Proofs.YteonpdnncodkaaaGreatDoor
open Go.RowKit

set_option maxRecDepth 100000 in
set_option maxHeartbeats 1000000 in
theorem rcheck23_c (s : Sec) (A5 : Option Addr) (c5 : Nat) (A6 : Option Addr) (c6 : Nat) (A7 : Option Addr) (c7 : Nat) (w : World) (h : SecIn w s A5 c5 A6 c6 A7 c7) :
    Calls Tryz.prog 66 #[.agg #[.int .i64 s.id, .int .i64 s.course, .int .i64 s.term, .int .i64 s.campus, .int .i64 s.seats, .slice A5 s.meets.length c5, .slice A6 s.groups.length c6, .slice A7 s.labs.length c7, .bool s.lab]] w fun e w' => e = .returned (.int .i64 (secCheck s)) ∧ Below w.heap.size w w' := by
  have H := Lib.hid h
  clear h
  go_enter Tryz.func66, Tryz.ntmps66
  go_wp2_with fail
  have W0 : Hid (Below w.heap.size w (w.alloc (.cells #[.int .i64 s.id, .int .i64 s.course, .int .i64 s.term, .int .i64 s.campus, .int .i64 s.seats, .slice A5 s.meets.length c5, .slice A6 s.groups.length c6, .slice A7 s.labs.length c7, .bool s.lab] 40))) := by unfold Hid; go_grown
  have K0 := Blk.new w 40 #[.int .i64 s.id, .int .i64 s.course, .int .i64 s.term, .int .i64 s.campus, .int .i64 s.seats, .slice A5 s.meets.length c5, .slice A6 s.groups.length c6, .slice A7 s.labs.length c7, .bool s.lab]
  refine (rformed_c s A5 c5 A6 c6 A7 c7 _ (H.out.below W0.out)).mono ?_
  rintro e w1 ⟨rfl, hb1⟩
  have hB1 := Lib.hid (bthen W0.out W0.out.size hb1)
  have K1 := K0.kept hb1 K0.lt
  clear W0 hb1 K0
  obtain ⟨b0, b1, b2, b3, b4, b5, b6, b7, b8, bf⟩ := K1.c9
  cases hf : formedB s
  · have fin : Hid (secCheck s = 230) := by unfold Hid secCheck; rw [hf]; rfl
    clear hf
    go_wp2
    go_ret
    exact ⟨by rw [fin.out]; rfl, hB1.out⟩
  · have fin : Hid (secCheck s = meetCheck s.meets) := by unfold Hid secCheck; rw [hf]; rfl
    clear hf
    go_wp2_with fail
    refine (check22_c A5 c5 s.meets _ (H.out.m.below hB1.out)).mono ?_
    rintro e w2 ⟨rfl, hb2⟩
    have hB2 := Lib.hid (bthen hB1.out hB1.out.size hb2)
    clear hb2
    go_wp2
    go_ret
    exact ⟨by rw [fin.out]; rfl, hB2.out⟩

def labGood (l : List Sec) (s : Sec) (n : Int) : Prop := ∃ t, find l n = some t ∧ t.lab = true ∧ t.course = s.course ∧ t.term = s.term
theorem find_of_mem {l : List Sec} (hp : l.Pairwise (fun a b => a.id < b.id)) {t : Sec} (ht : t ∈ l) : find l t.id = some t := by
  cases e : find l t.id with
  | none =>
    have := List.find?_eq_none.1 e t ht
    simp at this
  | some s =>
    obtain ⟨h1, h2⟩ := find_mem e
    rw [ids_unique hp h1 ht h2]
theorem fits_no {l : List Sec} {s : Sec} (hs : s ∈ l) {n : Int} (hn : n ∈ s.labs) (h : ¬ labGood l s n) : ¬ Fits l := by
  rintro ⟨hp, hf⟩
  obtain ⟨t, ht, rfl, h2⟩ := hf _ hs n hn
  exact h ⟨t, find_of_mem hp ht, h2⟩
theorem fits_yes {l : List Sec} (hp : l.Pairwise (fun a b => a.id < b.id)) (h : ∀ s ∈ l, ∀ n ∈ s.labs, labGood l s n) : Fits l :=
  ⟨hp, fun s hs n hn => by
    obtain ⟨t, hf, h2⟩ := h s hs n hn
    exact ⟨t, (find_mem hf).1, (find_mem hf).2, h2⟩⟩
theorem ids_step {l : List Sec} {k : Nat} (hk : k + 1 < l.length) (h : (l.take (k + 1)).Pairwise (fun a b => a.id < b.id)) (h2 : l[k].id < l[k + 1].id) : (l.take (k + 2)).Pairwise (fun a b => a.id < b.id) := by
  rw [List.take_succ_eq_append_getElem hk]
  refine List.pairwise_append.2 ⟨h, List.pairwise_singleton _ _, fun a ha b hb => ?_⟩
  rw [List.mem_singleton.1 hb]
  rw [List.take_succ_eq_append_getElem (by omega)] at ha h
  rcases List.mem_append.1 ha with ha | ha
  · have := (List.pairwise_append.1 h).2.2 a ha l[k] (by simp)
    omega
  · rw [List.mem_singleton.1 ha]; exact h2

set_option maxRecDepth 100000 in
set_option maxHeartbeats 4000000 in
theorem rcheckAll_c (A : Option Addr) (c : Nat) (l : List Sec) (w : World) (h : RSecs w A l) :
    Calls Tryz.prog 46 #[.slice A l.length c] w fun e w' => e = .returned (.int .i64 (checkAllS l)) ∧ Below w.heap.size w w' := by
  have hl := h.len
  have H := Lib.hid h
  clear h
  go_enter Tryz.func46, Tryz.ntmps46
  go_wp2
  go_loopg [3] l.length (fun n i wr => ∃ k : Nat, n + k = l.length ∧ i = .int .i64 k ∧ Hid (∀ s ∈ l.take k, secCheck s = 0) ∧ Hid (Below w.heap.size w wr))
  case atStart => exact ⟨0, by omega, rfl, by unfold Hid; simp, Below.refl _ _⟩
  case round =>
    obtain ⟨k, hk, rfl, ha, hB⟩ := hrel
    by_cases hlt : k < l.length
    · obtain ⟨ad, A5, c5, A6, c6, A7, c7, eA, hsi, f0, f1, f2, f3, f4, f5, f6, f7, f8⟩ := H.out.at hB.out k hlt
      subst eA
      have HSI := Lib.hid (hsi.below hB.out)
      have BAD : Hid (secCheck l[k] ≠ 0 → checkAllS l = secCheck l[k]) := fun h => checkAllS_bad hlt ha.out h
      have GOOD : Hid (secCheck l[k] = 0 → ∀ s ∈ l.take (k + 1), secCheck s = 0) := fun h s hs => by
        rw [List.take_succ_eq_append_getElem hlt] at hs
        rcases List.mem_append.1 hs with hs | hs
        · exact ha.out s hs
        · rw [List.mem_singleton.1 hs]; exact h
      obtain ⟨s, hs⟩ : ∃ s, s = l[k] := ⟨_, rfl⟩
      rw [← hs] at f0 f1 f2 f3 f4 f5 f6 f7 f8 HSI BAD GOOD
      clear hs hsi
      go_wp2_with fail
      refine (rcheck23_c s A5 c5 A6 c6 A7 c7 _ HSI.out).mono ?_
      rintro e w1 ⟨rfl, hb1⟩
      have hB1 := Lib.hid (bthen hB.out hB.out.size hb1)
      clear hb1 f0 f1 f2 f3 f4 f5 f6 f7 f8 hB
      by_cases hz : secCheck s = 0
      · have fin := Lib.hid (GOOD.out hz)
        rw [hz]
        clear hz
        go_wp2
        go_roundg (gk - 1)
        case measure => omega
        case rel => exact ⟨k + 1, by omega, by go_num, fin, hB1⟩
      · have fin := Lib.hid (BAD.out hz)
        have d1 : (secCheck s != 0) = true := by simp [hz]
        clear hz
        go_wp2
        go_ret
        exact ⟨by rw [fin.out]; rfl, hB1.out⟩
    · obtain rfl : k = l.length := by omega
      have hall := ha.out
      rw [List.take_length] at hall
      have NO : Hid (¬ Fits l → checkAllS l = 230) := fun h => by rw [checkAllS_fits hall, if_neg h]
      have YES : Hid (Fits l → checkAllS l = 0) := fun h => by rw [checkAllS_fits hall, if_pos h]
      clear hall ha hlt hk
      go_wp2
      go_loopg [5] l.length (fun n i wr => ∃ k : Nat, n + k = l.length ∧ i = .int .i64 k ∧ Hid ((l.take k).Pairwise (fun a b => a.id < b.id)) ∧ Hid (∀ s ∈ l.take k, ∀ n ∈ s.labs, labGood l s n) ∧ Hid (Below w.heap.size w wr))
      case atStart => exact ⟨0, by omega, rfl, by unfold Hid; simp, by unfold Hid; simp, hB⟩
      case round =>
        clear hB
        obtain ⟨k, hk, rfl, hp, hg, hB⟩ := hrel
        obtain ⟨n1, rfl⟩ : ∃ n1, n1 = gk := ⟨_, rfl⟩
        by_cases hlt : k < l.length
        · have hwk : IntKind.i64.wrap (k : Int) = k := wrapi (by omega) (by omega)
          obtain ⟨ad, A5, c5, A6, c6, A7, c7, eA, hsi, f0, f1, f2, f3, f4, f5, f6, f7, f8⟩ := H.out.at hB.out k hlt
          subst eA
          have hls := hsi.l.len
          have HSI := Lib.hid hsi
          have HM : Hid (l[k] ∈ l) := List.getElem_mem hlt
          have GOOD : Hid ((∀ n ∈ l[k].labs, labGood l l[k] n) → ∀ s ∈ l.take (k + 1), ∀ n ∈ s.labs, labGood l s n) := fun h s hs => by
            rw [List.take_succ_eq_append_getElem hlt] at hs
            rcases List.mem_append.1 hs with hs | hs
            · exact hg.out s hs
            · rw [List.mem_singleton.1 hs]; exact h
          have HCK : Hid ((k = 0 ∧ (l.take (k + 1)).Pairwise (fun a b => a.id < b.id)) ∨ ∃ j, ∃ hj : j < l.length, k = j + 1 ∧ (l[j].id < l[k].id → (l.take (k + 1)).Pairwise (fun a b => a.id < b.id)) ∧ (¬ l[j].id < l[k].id → ¬ Fits l)) := by
            rcases Nat.eq_zero_or_pos k with e | e
            · subst e
              refine .inl ⟨rfl, ?_⟩
              rw [List.take_succ_eq_append_getElem hlt]
              simp
            · obtain ⟨j, rfl⟩ : ∃ j, k = j + 1 := ⟨k - 1, by omega⟩
              exact .inr ⟨j, by omega, rfl, fun h => ids_step hlt hp.out h, fun h hf => h (List.pairwise_iff_getElem.1 hf.1 j (j + 1) (by omega) hlt (by omega))⟩
          obtain ⟨s, hs⟩ : ∃ s, s = l[k] := ⟨_, rfl⟩
          have HS := Lib.hid hs
          rw [← hs] at f0 f1 f2 f3 f4 f5 f6 f7 f8 HSI GOOD HCK HM hls
          clear hs hsi
          go_upto_region 10 with (fail)
          go_cut [44] (fun s44 wx => ∃ b : Bool, s44 = .bool b ∧ Hid (Below w.heap.size w wx) ∧ Hid (b = true → checkAllS l = 230) ∧ Hid (b = false → (l.take (k + 1)).Pairwise (fun a b => a.id < b.id)))
          case first => as_aux_lemma =>
            rcases HCK.out with ⟨hk0, hpp⟩ | ⟨j, hj, hk0, hyes, hno⟩
            · have d5 : decide ((0 : Int) < k) = false := by simp; omega
              have d6 : decide (0 < k) = false := by simp; omega
              clear hk0
              go_wp2_with fail
              go_quiet (fail)
              go_wp2_with fail
              go_meet
              exact ⟨false, rfl, bdrewN hB.out _, (fun h => by cases h), fun _ => hpp⟩
            · have d5 : decide ((0 : Int) < k) = true := by simp; omega
              have d6 : decide (0 < k) = true := by simp; omega
              have hjk : (k : Int) - 1 = j := by omega
              have hwj : IntKind.i64.wrap (j : Int) = j := wrapi (by omega) (by omega)
              have dj1 : decide ((j : Int) < l.length) = true := by simp; omega
              have dj2 : decide (j < l.length) = true := by simp; omega
              obtain ⟨_, _, _, _, _, _, _, e7, _, p0, _⟩ := H.out.at hB.out j hj
              cases e7
              obtain ⟨y, hy⟩ : ∃ y, y = l[j].id := ⟨_, rfl⟩
              rw [← hy] at p0 hyes hno
              have HNO := Lib.hid hno
              have HYES := Lib.hid hyes
              clear hk0 hy hno hyes
              by_cases hle : s.id ≤ y
              · have d7 : decide (s.id ≤ y) = true := by simp; omega
                go_wp2_with fail
                go_quiet (fail)
                go_wp2_with fail
                go_meet
                exact ⟨true, rfl, bdrewN hB.out _, (fun _ => NO.out (HNO.out (by omega))), fun h => by cases h⟩
              · have d7 : decide (s.id ≤ y) = false := by simp; omega
                go_wp2_with fail
                go_quiet (fail)
                go_wp2_with fail
                go_meet
                exact ⟨false, rfl, bdrewN hB.out _, (fun h => by cases h), fun _ => HYES.out (by omega)⟩
          case rest => as_aux_lemma =>
            obtain ⟨b, rfl, hB0, hbt, hbf⟩ := hcut
            clear hB HCK f0 f1 f2 f3 f4 f5 f6 f7 f8 HSI
            cases b
            case true =>
              have fin := Lib.hid (hbt.out rfl)
              clear hbt hbf
              go_wp2
              go_ret
              exact ⟨by rw [fin.out]; rfl, hB0.out⟩
            have hpp := Lib.hid (hbf.out rfl)
            clear hbt hbf
            go_wp2
            go_loopg [6] s.labs.length (fun n i wr => ∃ q : Nat, n + q = s.labs.length ∧ i = .int .i64 q ∧ Hid (∀ n ∈ s.labs.take q, labGood l s n) ∧ Hid (Below w.heap.size w wr))
            case atStart => exact ⟨0, by omega, rfl, by unfold Hid; simp, hB0⟩
            case round =>
              clear hB0
              obtain ⟨q, hq, rfl, hgd, hB⟩ := hrel
              obtain ⟨ad', B5, e5, B6, e6, B7, e7, eA, hsi, f0, f1, f2, f3, f4, f5, f6, f7, f8⟩ := H.out.at hB.out k hlt
              cases eA
              rw [← HS.out] at hsi f0 f1 f2 f3 f4 f5 f6 f7 f8
              have HSI := Lib.hid hsi
              clear hsi
              by_cases hqt : q < s.labs.length
              · as_aux_lemma =>
                have hwq : IntKind.i64.wrap (q : Int) = q := wrapi (by omega) (by omega)
                obtain ⟨al, eL, g0⟩ := HSI.out.l.at hB.out q hqt
                subst eL
                have BADL : Hid (¬ labGood l s s.labs[q] → checkAllS l = 230) := fun h => NO.out (fits_no HM.out (List.getElem_mem hqt) h)
                have GOODL : Hid (labGood l s s.labs[q] → ∀ n ∈ s.labs.take (q + 1), labGood l s n) := fun h n hn => by
                  rw [List.take_succ_eq_append_getElem hqt] at hn
                  rcases List.mem_append.1 hn with hn | hn
                  · exact hgd.out n hn
                  · rw [List.mem_singleton.1 hn]; exact h
                obtain ⟨x, hx⟩ : ∃ x, x = s.labs[q] := ⟨_, rfl⟩
                rw [← hx] at g0 BADL GOODL
                clear hx
                go_wp2_with fail
                refine (find23_c (some ad) c l x _ (H.out.below hB.out)).mono ?_
                rintro e w1 ⟨D5, d5, D6, d6, D7, d7, rfl, hsj, hb1⟩
                have hB1 := Lib.hid (bthen hB.out hB.out.size hb1)
                clear hb1 hsj f0 f1 f2 f3 f4 f5 f6 f7 f8 g0
                cases hf : find l x with
                | none =>
                  have fin := Lib.hid (BADL.out (fun ⟨t, h1, _⟩ => by rw [hf] at h1; cases h1))
                  clear hf
                  unfold Sec.zero
                  simp only [Option.getD_none, Option.isSome_none]
                  have hB2 : Hid (Below w.heap.size w (w1.alloc (.cells #[.int .i64 0, .int .i64 0, .int .i64 0, .int .i64 0, .int .i64 0, .slice D5 0 d5, .slice D6 0 d6, .slice D7 0 d7, .bool false] 40))) := by unfold Hid; have h := hB1.out; have hs := h.size; go_grown
                  go_wp2_with fail
                  go_quiet (fail)
                  go_wp2
                  go_ret
                  exact ⟨by rw [fin.out]; rfl, bdrewN hB2.out _⟩
                | some t =>
                  have BADT : Hid (¬ (t.lab = true ∧ t.course = s.course ∧ t.term = s.term) → checkAllS l = 230) := fun h => BADL.out (fun ⟨t', h1, h2⟩ => by rw [hf] at h1; cases h1; exact h h2)
                  have GOODT : Hid (t.lab = true → t.course = s.course → t.term = s.term → ∀ n ∈ s.labs.take (q + 1), labGood l s n) := fun h1 h2 h3 => GOODL.out ⟨t, hf, h1, h2, h3⟩
                  clear hf
                  simp only [Option.getD_some, Option.isSome_some]
                  have hB2 : Hid (Below w.heap.size w (w1.alloc (.cells #[.int .i64 t.id, .int .i64 t.course, .int .i64 t.term, .int .i64 t.campus, .int .i64 t.seats, .slice D5 t.meets.length d5, .slice D6 t.groups.length d6, .slice D7 t.labs.length d7, .bool t.lab] 40))) := by unfold Hid; have h := hB1.out; have hs := h.size; go_grown
                  obtain ⟨_, _, _, _, _, _, _, eA, _, p0, p1, p2, _⟩ := H.out.at hB1.out k hlt
                  cases eA
                  obtain ⟨_, _, _, _, _, _, _, eA, _, r0, r1, r2, _⟩ := H.out.at hB2.out k hlt
                  cases eA
                  rw [← HS.out] at p0 p1 p2 r0 r1 r2
                  have hne1 : ¬ (ad.add (k * 9)).block = w1.heap.size := Nat.ne_of_lt (block_lt p0)
                  have hne2 : ¬ w1.heap.size = (ad.add (k * 9)).block := fun h => hne1 h.symm
                  obtain ⟨tl, htl⟩ : ∃ tl, tl = t.lab := ⟨_, rfl⟩
                  rw [← htl] at BADT GOODT hB2 r0 r1 r2
                  rw [← htl]
                  clear htl
                  cases tl
                  · have fin := Lib.hid (BADT.out (by simp))
                    go_wp2_with fail
                    go_quiet (fail)
                    go_wp2
                    go_ret
                    exact ⟨by rw [fin.out]; rfl, bdrewN hB2.out _⟩
                  by_cases hco : t.course = s.course
                  case neg =>
                    have fin := Lib.hid (BADT.out (fun h => hco h.2.1))
                    have d1 : (t.course != s.course) = true := by rw [bne_iff_ne]; exact hco
                    clear hco
                    go_wp2_with fail
                    go_quiet (fail)
                    go_wp2
                    go_ret
                    exact ⟨by rw [fin.out]; rfl, bdrewN hB2.out _⟩
                  have d1 : (t.course != s.course) = false := by simp [hco]
                  by_cases hte : t.term = s.term
                  case neg =>
                    have fin := Lib.hid (BADT.out (fun h => hte h.2.2))
                    have d2 : (t.term != s.term) = true := by rw [bne_iff_ne]; exact hte
                    clear hte hco
                    go_wp2_with fail
                    go_quiet (fail)
                    go_wp2
                    go_ret
                    exact ⟨by rw [fin.out]; rfl, bdrewN hB2.out _⟩
                  have d2 : (t.term != s.term) = false := by simp [hte]
                  have fin := Lib.hid (GOODT.out rfl hco hte)
                  clear hco hte
                  go_wp2_with fail
                  go_quiet (fail)
                  go_wp2
                  go_roundg (gk - 1)
                  case measure => omega
                  case rel => exact ⟨q + 1, by omega, by go_num, fin, bdrewN hB2.out _⟩
              · as_aux_lemma =>
                obtain rfl : q = s.labs.length := by omega
                have fin := hgd.out
                rw [List.take_length] at fin
                have FIN := Lib.hid (GOOD.out fin)
                clear fin hqt hq
                go_wp2
                go_roundg (n1 - 1)
                case measure => omega
                case rel => exact ⟨k + 1, by omega, by go_num, hpp, FIN, hB⟩
        · obtain rfl : k = l.length := by omega
          have h1 := hp.out
          have h2 := hg.out
          rw [List.take_length] at h1 h2
          have FIN := Lib.hid (YES.out (fits_yes h1 h2))
          clear h1 h2 hlt hk
          go_wp2
          go_ret
          exact ⟨by rw [FIN.out]; rfl, hB.out⟩
end Go.Proofs.YteonpdnncodkaaaGreatDoor
