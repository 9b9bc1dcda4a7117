/- The references of layers 22 and 24: Clash, Check. -/
import Derived.Test.YteonpdnncodkaaaGreatDoorQ5
import Derived.Test.YteonpdnncodkaaaGreatDoorBun
import Derived.Test.YteonpdnncodkaaaGreatDoorQ1
set_option linter.unusedVariables false
set_option linter.unusedSimpArgs false
namespace Go.Proofs.YteonpdnncodkaaaGreatDoor
open Go.RowKit

theorem meetCheck_mok {l : List Mt} (h : meetCheck l = 0) : MOk l := by
  unfold meetCheck at h
  by_cases e : l.length ≤ 16 ∧ MOk l
  · exact e.2
  · rw [if_neg e] at h; cases h
theorem clashV_meets {a b : List Mt} (ha : meetCheck a = 0) (hb : meetCheck b = 0) : clashV a b = a.any fun x => b.any fun y => x.meets y := by
  unfold clashV
  simp only [ha, hb, decide_true, Bool.true_and]
  rw [Bool.eq_iff_iff]
  simp only [List.any_eq_true]
  constructor
  · rintro ⟨x, hx, y, hy, h⟩
    exact ⟨x, hx, y, hy, by rw [← Mt.over_eq ((meetCheck_mok ha).1 x hx) ((meetCheck_mok hb).1 y hy)]; exact h⟩
  · rintro ⟨x, hx, y, hy, h⟩
    exact ⟨x, hx, y, hy, by rw [Mt.over_eq ((meetCheck_mok ha).1 x hx) ((meetCheck_mok hb).1 y hy)]; exact h⟩

set_option maxRecDepth 100000 in
set_option maxHeartbeats 4000000 in
theorem rclash_c (A : Option Addr) (c : Nat) (a : List Mt) (B : Option Addr) (d : Nat) (b : List Mt) (w : World) (h : RMts w A a) (ht : RMts w B b) (ha : meetCheck a = 0) (hb : meetCheck b = 0) :
    Calls Tryz.prog 50 #[.slice A a.length c, .slice B b.length d] w fun e w' => e = .returned (.tuple #[.bool (clashV a b), .int .i64 0]) ∧ Below w.heap.size w w' := by
  have hal := h.len
  have hbl := ht.len
  have H := Lib.hid h
  have K := Lib.hid ht
  have eV := Lib.hid (clashV_meets ha hb)
  have HA := Lib.hid ha
  have HB := Lib.hid hb
  clear h ht ha hb
  go_enter Tryz.func50, Tryz.ntmps50
  go_wp2_with fail
  refine (check22_c A c a _ H.out).mono ?_
  rintro e w1 ⟨rfl, hb1⟩
  have HB1 := Lib.hid hb1
  clear hb1
  rw [HA.out]
  go_wp2_with fail
  refine (check22_c B d b _ (K.out.below HB1.out)).mono ?_
  rintro e w2 ⟨rfl, hb2⟩
  have HB2 := Lib.hid (bthen HB1.out HB1.out.size hb2)
  clear hb2 HB1
  rw [HB.out]
  go_wp2
  go_loopg [8] a.length (fun n i wr => ∃ k : Nat, n + k = a.length ∧ i = .int .i64 k ∧ Hid (∀ q, (hq : q < k) → (hk : k ≤ a.length) → (b.any fun y => (a[q]'(by omega)).meets y) = false) ∧ Hid (Below w.heap.size w wr))
  case atStart => exact ⟨0, by omega, rfl, by intro q hq; omega, HB2⟩
  case round =>
    clear HB2
    obtain ⟨k, hk, rfl, hno, hB⟩ := hrel
    obtain ⟨n1, rfl⟩ : ∃ n1, n1 = gk := ⟨_, rfl⟩
    by_cases hlt : k < a.length
    · go_wp2
      go_loopg [9] b.length (fun n i wr => ∃ m : Nat, n + m = b.length ∧ i = .int .i64 m ∧ Hid (∀ q, (hq : q < m) → (hm : m ≤ b.length) → a[k].meets (b[q]'(by omega)) = false) ∧ Hid (Below w.heap.size w wr))
      case atStart => exact ⟨0, by omega, rfl, by intro q hq; omega, hB⟩
      case round =>
        clear hB
        obtain ⟨m, hm, rfl, hn2, hB⟩ := hrel
        by_cases hmt : m < b.length
        · have hwk : IntKind.i64.wrap (k : Int) = k := wrapi (by omega) (by omega)
          have hwm : IntKind.i64.wrap (m : Int) = m := wrapi (by omega) (by omega)
          obtain ⟨aa, e1, f0, f1, f2, f3, f4⟩ := H.out.at hB.out k hlt
          subst e1
          obtain ⟨ab, e1, g0, g1, g2, g3, g4⟩ := K.out.at hB.out m hmt
          subst e1
          have MEM : Hid (a[k].meets b[m] = true → clashV a b = true) := fun h => by
            rw [eV.out, List.any_eq_true]
            exact ⟨_, List.getElem_mem hlt, List.any_eq_true.2 ⟨_, List.getElem_mem hmt, h⟩⟩
          go_wp2_with fail
          go_still_tail 8, (by kernel_rfl)
          change wpList _ _ _ _ _ wr.drew
          have hb2 := Lib.hid hB.out.drew
          generalize wr.drew = w3 at *
          go_wp2_with fail
          refine (Over22_c a[k] b[m] _).mono ?_
          rintro e w4 ⟨rfl, hb4⟩
          have hB4 := Lib.hid (bthen hb2.out hb2.out.size hb4)
          clear hb4 hb2 f0 f1 f2 f3 f4 g0 g1 g2 g3 g4
          cases ho : a[k].meets b[m]
          · have hn3 : Hid (∀ q, (hq : q < m + 1) → (hm : m + 1 ≤ b.length) → a[k].meets (b[q]'(by omega)) = false) := by
              intro q hq _
              by_cases e : q = m
              · subst e; exact ho
              · exact hn2.out q (by omega) (by omega)
            clear ho
            go_wp2
            go_roundg (gk - 1)
            case measure => omega
            case rel => exact ⟨m + 1, by omega, by go_num, hn3, hB4⟩
          · have fin := Lib.hid (MEM.out ho)
            clear ho
            go_wp2
            refine bodyPost_ret (by simp only [results, Tryz.results50]; go_simp <;> rfl) rfl ?_
            exact ⟨by rw [fin.out], hB4.out⟩
        · obtain rfl : m = b.length := by omega
          have hno2 : Hid (∀ q, (hq : q < k + 1) → (hk : k + 1 ≤ a.length) → (b.any fun y => (a[q]'(by omega)).meets y) = false) := by
            intro q hq _
            by_cases e : q = k
            · subst e
              rw [List.any_eq_false]
              intro y hy
              obtain ⟨r, hr, rfl⟩ := List.mem_iff_getElem.1 hy
              rw [hn2.out r hr (Nat.le_refl _)]; simp
            · exact hno.out q (by omega) (by omega)
          clear hmt hm
          go_wp2
          go_roundg (n1 - 1)
          case measure => omega
          case rel => exact ⟨k + 1, by omega, by go_num, hno2, hB⟩
    · obtain rfl : k = a.length := by omega
      have fin : Hid (clashV a b = false) := by
        unfold Hid
        rw [eV.out, List.any_eq_false]
        intro x hx
        obtain ⟨q, hq, rfl⟩ := List.mem_iff_getElem.1 hx
        rw [hno.out q hq (Nat.le_refl _)]; simp
      clear hlt hk
      go_wp2
      refine bodyPost_ret (by simp only [results, Tryz.results50]; go_simp <;> rfl) rfl ?_
      exact ⟨by rw [fin.out], hB.out⟩
end Go.Proofs.YteonpdnncodkaaaGreatDoor

/- The reference of layer 24: Check. -/
set_option linter.unusedVariables false
set_option linter.unusedSimpArgs false
namespace Go.Proofs.YteonpdnncodkaaaGreatDoor
open Go.RowKit

theorem bun_sec {l : List Sec} {sec lab : Int} {s : Sec} (h0 : checkAllS l = 0) (hf : find l sec = some s) (hl : s.lab = false) : bunCheck l sec lab = (if s.labs.length = 0 ∧ lab = -1 then 0 else
    match find l lab with
    | none => 240
    | some x => if (s.labs.any fun y => lab == y) = false ∨ x.lab = false ∨ x.term ≠ s.term ∨ clashV s.meets x.meets = true then 240 else 0) := by
  unfold bunCheck
  rw [if_neg (by simp [h0]), hf]
  simp only [hl]
  rw [if_neg (by simp)]
  rfl
theorem bun_none {l : List Sec} {sec lab : Int} (h0 : checkAllS l = 0) (hf : find l sec = none) : bunCheck l sec lab = 240 := by
  unfold bunCheck
  rw [if_neg (by simp [h0]), hf]
theorem bun_lab {l : List Sec} {sec lab : Int} {s : Sec} (h0 : checkAllS l = 0) (hf : find l sec = some s) (hl : s.lab = true) : bunCheck l sec lab = 240 := by
  unfold bunCheck
  rw [if_neg (by simp [h0]), hf]
  simp only [hl]
  rw [if_pos trivial]

set_option maxRecDepth 100000 in
set_option maxHeartbeats 4000000 in
theorem rcheck24_c (A : Option Addr) (c : Nat) (l : List Sec) (sec lab : Int) (w : World) (h : RSecs w A l) :
    Calls Tryz.prog 26 #[.slice A l.length c, .agg #[.int .i64 sec, .int .i64 lab]] w fun e w' => e = .returned (.int .i64 (bunCheck l sec lab)) ∧ Below w.heap.size w w' := by
  have H := Lib.hid h
  clear h
  go_enter Tryz.func26, Tryz.ntmps26
  go_wp2_with fail
  have W0 : Hid (Below w.heap.size w (w.alloc (.cells #[.int .i64 sec, .int .i64 lab] 25))) := by unfold Hid; go_grown
  have kb0 := Blk.new w 25 #[.int .i64 sec, .int .i64 lab]
  refine (rcheckAll_c A c l _ (H.out.below W0.out)).mono ?_
  rintro e w1 ⟨rfl, hb1⟩
  have HB1 := Lib.hid (bthen W0.out W0.out.size hb1)
  have kb1 := kb0.kept hb1 kb0.lt
  clear hb1 W0 kb0
  by_cases hz : checkAllS l = 0
  case neg =>
    have fin : Hid (bunCheck l sec lab = checkAllS l) := by unfold Hid bunCheck; rw [if_pos hz]
    have d1 : (checkAllS l != 0) = true := by simp [hz]
    clear hz
    go_wp2
    go_ret
    exact ⟨by rw [fin.out]; rfl, HB1.out⟩
  have HZ := Lib.hid hz
  rw [hz]
  clear hz
  obtain ⟨q0, q1, _⟩ := kb1.c2
  go_wp2_with fail
  refine (find23_c A c l sec _ (H.out.below HB1.out)).mono ?_
  rintro e w2 ⟨A5, c5, A6, c6, A7, c7, rfl, hsi, hb2⟩
  have HB2 := Lib.hid (bthen HB1.out HB1.out.size hb2)
  have kb2 := kb1.kept hb2 kb1.lt
  clear hb2 kb1 HB1 q0 q1
  cases hf : find l sec with
  | none =>
    as_aux_lemma =>
    have fin := Lib.hid (bun_none (lab := lab) HZ.out hf)
    clear hf hsi
    unfold Sec.zero
    simp only [Option.getD_none, Option.isSome_none]
    have hB2 : Hid (Below w.heap.size w (w2.alloc (.cells #[.int .i64 0, .int .i64 0, .int .i64 0, .int .i64 0, .int .i64 0, .slice A5 0 c5, .slice A6 0 c6, .slice A7 0 c7, .bool false] 40))) := HB2.out.alloc HB2.out.size _
    go_wp2
    go_ret
    exact ⟨by rw [fin.out]; rfl, hB2.out⟩
  | some s =>
    rw [hf] at hsi
    have HF := Lib.hid hf
    clear hf
    simp only [Option.getD_some] at hsi
    simp only [Option.getD_some, Option.isSome_some]
    obtain ⟨sl, hsl⟩ : ∃ sl, sl = s.lab := ⟨_, rfl⟩
    have HSL := Lib.hid hsl
    have hms := Lib.hid (secCheck_zero ((checkAllS_zero HZ.out).1 s (find_mem HF.out).1)).2
    rw [← hsl]
    clear hsl
    have hg3 : Hid (Below w2.heap.size w2 (w2.alloc (.cells #[.int .i64 s.id, .int .i64 s.course, .int .i64 s.term, .int .i64 s.campus, .int .i64 s.seats, .slice A5 s.meets.length c5, .slice A6 s.groups.length c6, .slice A7 s.labs.length c7, .bool sl] 40))) := by unfold Hid; go_grown
    have HB3 := Lib.hid (bthen HB2.out HB2.out.size hg3.out)
    have HSI3 := Lib.hid (hsi.below hg3.out)
    have kb3 := kb2.kept hg3.out kb2.lt
    have ks3 := Blk.new w2 40 #[.int .i64 s.id, .int .i64 s.course, .int .i64 s.term, .int .i64 s.campus, .int .i64 s.seats, .slice A5 s.meets.length c5, .slice A6 s.groups.length c6, .slice A7 s.labs.length c7, .bool sl]
    have hll := hsi.l.len
    obtain ⟨q0, q1, _⟩ := kb2.c2
    have hlb := kb2.lt
    clear hsi HB2 hg3
    cases sl
    case true =>
      as_aux_lemma =>
      have fin := Lib.hid (bun_lab (lab := lab) HZ.out HF.out HSL.out.symm)
      go_wp2
      go_ret
      exact ⟨by rw [fin.out]; rfl, HB3.out⟩
    have EQ := Lib.hid (bun_sec (lab := lab) HZ.out HF.out HSL.out.symm)
    obtain ⟨nl, hnl⟩ : ∃ nl, nl = s.labs.length := ⟨_, rfl⟩
    rw [← hnl] at EQ ks3 HB3 kb3 HSI3 hll
    rw [← hnl]
    have HNL := Lib.hid hnl
    clear hnl
    by_cases hn0 : nl = 0
    · as_aux_lemma =>
      subst hn0
      by_cases h1 : lab = -1
      · have fin : Hid (bunCheck l sec lab = 0) := by unfold Hid; rw [EQ.out, if_pos ⟨rfl, h1⟩]
        have d1 : (lab != -1) = false := by simp [h1]
        clear h1
        go_wp2
        go_ret
        exact ⟨by rw [fin.out]; rfl, HB3.out⟩
      · have fin : Hid (bunCheck l sec lab = 240) := by
          unfold Hid
          have h0 : s.labs = [] := List.length_eq_zero_iff.1 HNL.out.symm
          rw [EQ.out, if_neg (fun h => h1 h.2)]
          cases find l lab with
          | none => rfl
          | some x => simp only [h0]; rw [if_pos (.inl rfl)]
        have d1 : (lab != -1) = true := by rw [bne_iff_ne]; exact h1
        clear h1
        go_wp2
        go_ret
        exact ⟨by rw [fin.out]; rfl, HB3.out⟩
    have hnp : ¬ ((nl : Int) = 0) := by omega
    have d1 : ((nl : Int) == 0) = false := by simp; omega
    have EQ2 : Hid (bunCheck l sec lab = (match find l lab with
      | none => 240
      | some x => if (s.labs.any fun y => lab == y) = false ∨ x.lab = false ∨ x.term ≠ s.term ∨ clashV s.meets x.meets = true then 240 else 0)) := by unfold Hid; rw [EQ.out, if_neg (fun h => hn0 h.1)]
    clear EQ hn0
    obtain ⟨p0, p1, _⟩ := kb3.c2
    go_wp2_with fail
    refine (find23_c A c l lab _ (H.out.below HB3.out)).mono ?_
    rintro e w4 ⟨B5, e5, B6, e6, B7, e7, rfl, hxi, hb4⟩
    have HB4 := Lib.hid (bthen HB3.out HB3.out.size hb4)
    have kb4 := kb3.kept hb4 kb3.lt
    have ks4 := ks3.kept hb4 ks3.lt
    have HSI4 := Lib.hid (HSI3.out.below hb4)
    clear hb4 kb3 ks3 HB3 HSI3 q0 q1 p0 p1 hlb kb2
    obtain ⟨p0, p1, _⟩ := kb4.c2
    obtain ⟨s0, s1, s2, s3, s4, s5, s6, s7, s8, _⟩ := ks4.c9
    have hl1 := kb4.lt
    have hl2 := ks4.lt
    cases hx : find l lab with
    | none =>
      as_aux_lemma =>
      have fin : Hid (bunCheck l sec lab = 240) := by unfold Hid; rw [EQ2.out, hx]
      clear hx hxi EQ2
      unfold Sec.zero
      simp only [Option.getD_none, Option.isSome_none]
      have hB5 : Hid (Below w.heap.size w (w4.alloc (.cells #[.int .i64 0, .int .i64 0, .int .i64 0, .int .i64 0, .int .i64 0, .slice B5 0 e5, .slice B6 0 e6, .slice B7 0 e7, .bool false] 40))) := HB4.out.alloc HB4.out.size _
      go_wp2
      go_ret
      exact ⟨by rw [fin.out]; rfl, hB5.out⟩
    | some x =>
      rw [hx] at hxi
      have EQ3 : Hid (bunCheck l sec lab = if (s.labs.any fun y => lab == y) = false ∨ x.lab = false ∨ x.term ≠ s.term ∨ clashV s.meets x.meets = true then 240 else 0) := by unfold Hid; rw [EQ2.out, hx]
      have hmx := Lib.hid (secCheck_zero ((checkAllS_zero HZ.out).1 x (find_mem hx).1)).2
      clear hx EQ2
      simp only [Option.getD_some] at hxi
      simp only [Option.getD_some, Option.isSome_some]
      obtain ⟨xl, hxl⟩ : ∃ xl, xl = x.lab := ⟨_, rfl⟩
      rw [← hxl] at EQ3
      rw [← hxl]
      clear hxl
      have hg5 : Hid (Below w4.heap.size w4 (w4.alloc (.cells #[.int .i64 x.id, .int .i64 x.course, .int .i64 x.term, .int .i64 x.campus, .int .i64 x.seats, .slice B5 x.meets.length e5, .slice B6 x.groups.length e6, .slice B7 x.labs.length e7, .bool xl] 40))) := by unfold Hid; go_grown
      have HB5 := Lib.hid (bthen HB4.out HB4.out.size hg5.out)
      have HXI5 := Lib.hid (hxi.below hg5.out)
      have HSI5 := Lib.hid (HSI4.out.below hg5.out)
      have ks5 := ks4.kept hg5.out ks4.lt
      have kx5 := Blk.new w4 40 #[.int .i64 x.id, .int .i64 x.course, .int .i64 x.term, .int .i64 x.campus, .int .i64 x.seats, .slice B5 x.meets.length e5, .slice B6 x.groups.length e6, .slice B7 x.labs.length e7, .bool xl]
      clear hxi hg5 HB4 HSI4
      obtain ⟨hs, hhs⟩ : ∃ hs, hs = (s.labs.any fun y => lab == y) := ⟨_, rfl⟩
      rw [← hhs] at EQ3
      go_wp2_with fail
      have hcall := rhasI_c A7 c7 s.labs lab _ HSI5.out.l
      rw [← hhs, ← HNL.out] at hcall
      refine hcall.mono ?_
      rintro e w6 ⟨rfl, hb6⟩
      have HB6 := Lib.hid (bthen HB5.out HB5.out.size hb6)
      have HXI6 := Lib.hid (HXI5.out.below hb6)
      have HSI6 := Lib.hid (HSI5.out.below hb6)
      have ks6 := ks5.kept hb6 ks5.lt
      have kx6 := kx5.kept hb6 kx5.lt
      clear hhs hb6 HB5 HXI5 HSI5 ks5 kx5 hcall p0 p1 s0 s1 s2 s3 s4 s5 s6 s7 s8 hl1 hl2 ks4 kb4
      cases hs
      · have fin : Hid (bunCheck l sec lab = 240) := by unfold Hid; rw [EQ3.out, if_pos (.inl rfl)]
        go_wp2
        go_ret
        exact ⟨by rw [fin.out]; rfl, HB6.out⟩
      obtain ⟨s0, s1, s2, s3, s4, s5, s6, s7, s8, _⟩ := ks6.c9
      obtain ⟨x0, x1, x2, x3, x4, x5, x6, x7, x8, _⟩ := kx6.c9
      cases xl
      · have fin : Hid (bunCheck l sec lab = 240) := by unfold Hid; rw [EQ3.out, if_pos (.inr (.inl rfl))]
        go_wp2
        go_ret
        exact ⟨by rw [fin.out]; rfl, HB6.out⟩
      by_cases ht : x.term = s.term
      case neg =>
        have fin : Hid (bunCheck l sec lab = 240) := by unfold Hid; rw [EQ3.out, if_pos (.inr (.inr (.inl ht)))]
        have d2 : (x.term != s.term) = true := by rw [bne_iff_ne]; exact ht
        clear ht
        go_wp2
        go_ret
        exact ⟨by rw [fin.out]; rfl, HB6.out⟩
      have d2 : (x.term != s.term) = false := by simp [ht]
      have EQ4 : Hid (bunCheck l sec lab = if clashV s.meets x.meets = true then 240 else 0) := by
        unfold Hid
        rw [EQ3.out]
        by_cases h : clashV s.meets x.meets = true
        · rw [if_pos h, if_pos (.inr (.inr (.inr h)))]
        · rw [if_neg h, if_neg (by rintro (h | h | h | h') <;> simp_all)]
      clear ht EQ3
      go_wp2_with fail
      refine (rclash_c A5 c5 s.meets B5 e5 x.meets _ HSI6.out.m HXI6.out.m hms.out hmx.out).mono ?_
      rintro e w7 ⟨rfl, hb7⟩
      have HB7 := Lib.hid (bthen HB6.out HB6.out.size hb7)
      clear hb7 HB6 s0 s1 s2 s3 s4 s5 s6 s7 s8 x0 x1 x2 x3 x4 x5 x6 x7 x8
      cases hv : clashV s.meets x.meets
      · have fin : Hid (bunCheck l sec lab = 0) := by unfold Hid; rw [EQ4.out, hv]; rfl
        clear hv
        go_wp2
        go_ret
        exact ⟨by rw [fin.out]; rfl, HB7.out⟩
      · have fin : Hid (bunCheck l sec lab = 240) := by unfold Hid; rw [EQ4.out, hv]; rfl
        clear hv
        go_wp2
        go_ret
        exact ⟨by rw [fin.out]; rfl, HB7.out⟩
end Go.Proofs.YteonpdnncodkaaaGreatDoor
