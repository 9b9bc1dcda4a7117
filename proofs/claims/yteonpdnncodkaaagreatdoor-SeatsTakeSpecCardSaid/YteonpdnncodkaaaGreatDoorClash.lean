/- meeting.Clash, bundles.Check: their contracts. -/
import Derived.Test.YteonpdnncodkaaaGreatDoorSpec4
import Derived.Test.YteonpdnncodkaaaGreatDoorMeet
set_option linter.unusedVariables false
set_option linter.unusedSimpArgs false
namespace Go.Proofs.YteonpdnncodkaaaGreatDoor
open Go.RowKit

set_option maxHeartbeats 1000000 in
theorem idxMt_c (A : Option Addr) (c : Nat) (l : List Mt) (a : Mt) (w : World) (h : RMts w A l) :
    Calls Tryz.prog 79 #[.slice A l.length c, .func (.func 61) #[.agg #[.int .i64 a.day, .int .i64 a.frm, .int .i64 a.til, .int .i64 a.fst, .int .i64 a.lst]] #[]] w fun e w' => e = .returned (.int .i64 (idx (fun x => a.over x) l)) ∧ Below w.heap.size w w' := by
  have hl := h.len
  have H := Lib.hid h
  clear h
  have eg : ∀ args w, (callFunc 61 args).run Tryz.prog w = .ok (.enter 61 args) w := enters_of Tryz.func61 (by kernel_rfl) rfl
  go_enter Tryz.func79, Tryz.ntmps79
  go_wp2
  go_loopg [8] l.length (fun n i wr => ∃ k : Nat, n + k = l.length ∧ i = .int .i64 k ∧ Hid (∀ q, (hq : q < k) → (hk : k ≤ l.length) → a.over (l[q]'(by omega)) = false) ∧ Hid (Below w.heap.size w wr))
  case atStart => exact ⟨0, by omega, rfl, by intro q hq; omega, by unfold Hid; go_grown⟩
  case round =>
    obtain ⟨k, hk, rfl, ha, hB⟩ := hrel
    by_cases hlt : k < l.length
    · obtain ⟨ad, rfl, f0, f1, f2, f3, f4⟩ := H.out.at hB.out k hlt
      go_wp2_with fail
      refine (overlaps_c a l[k] _).mono ?_
      rintro e w1 ⟨rfl, hb1⟩
      have hB1 := Lib.hid (bthen hB.out hB.out.size hb1)
      clear hb1 hB f0 f1 f2 f3 f4
      cases hp : a.over l[k]
      · have fin := Lib.hid (fun q (hq : q < k + 1) (_ : k + 1 ≤ l.length) => idx_none_step (p := fun x => a.over x) hlt (fun q hq => ha.out q hq (by omega)) hp q hq)
        clear hp
        go_wp2
        go_roundg (gk - 1)
        case measure => omega
        case rel => exact ⟨k + 1, by omega, by go_num, fin, hB1⟩
      · have fin := Lib.hid (idx_some (p := fun x => a.over x) hlt (fun q hq => ha.out q hq (by omega)) hp)
        clear hp
        go_wp2
        go_ret
        exact ⟨ret_i64 fin.out.symm, hB1.out⟩
    · obtain rfl : k = l.length := by omega
      have fin := Lib.hid (idx_none (p := fun x => a.over x) (fun q hq => ha.out q hq (Nat.le_refl _)))
      go_wp2
      go_ret
      exact ⟨ret_i64 fin.out.symm, hB.out⟩

set_option maxHeartbeats 1000000 in
theorem conMt_c (A : Option Addr) (c : Nat) (l : List Mt) (a : Mt) (w : World) (h : RMts w A l) :
    Calls Tryz.prog 60 #[.slice A l.length c, .func (.func 61) #[.agg #[.int .i64 a.day, .int .i64 a.frm, .int .i64 a.til, .int .i64 a.fst, .int .i64 a.lst]] #[]] w fun e w' => e = .returned (.bool (l.any fun x => a.over x)) ∧ Below w.heap.size w w' := by
  go_enter Tryz.func60, Tryz.ntmps60
  go_wp2_with fail
  refine (idxMt_c A c l a _ h).mono ?_
  rintro e w1 ⟨rfl, hb1⟩
  have e1 := Lib.hid (idx_any (fun y => a.over y) l)
  generalize idx (fun y => a.over y) l = n at *
  have HB1 := Lib.hid hb1
  clear hb1
  go_wp2
  go_ret
  exact ⟨by rw [← e1.out]; rfl, HB1.out⟩

set_option maxHeartbeats 2000000 in
theorem clash_c (A : Option Addr) (c : Nat) (a : List Mt) (B : Option Addr) (d : Nat) (b : List Mt) (w : World) (h : RMts w A a) (hc : a.length ≤ c) (k : RMts w B b) (hd : b.length ≤ d) :
    Calls Tryz.prog 37 #[.slice A a.length c, .slice B b.length d] w fun e w' => e = .returned (.tuple #[.bool (clashV a b), .int .i64 (clashE a b)]) ∧ Below w.heap.size w w' := by
  have hla := h.len
  have hlb := k.len
  have H := Lib.hid h
  have K := Lib.hid k
  clear h k
  go_enter Tryz.func37, Tryz.ntmps37
  go_wp2_with fail
  refine (meetCheck_c A c a _ H.out hc).mono ?_
  rintro e w1 ⟨rfl, hb1⟩
  have HB1 := Lib.hid hb1
  clear hb1
  by_cases ha : meetCheck a = 0
  · have Ha := Lib.hid ha
    rw [ha]
    clear ha
    go_wp2_with fail
    refine (meetCheck_c B d b _ (K.out.below HB1.out) hd).mono ?_
    rintro e w2 ⟨rfl, hb2⟩
    have HB2 := Lib.hid (bthen HB1.out HB1.out.size hb2)
    clear hb2 HB1
    by_cases hb : meetCheck b = 0
    · have Hb := Lib.hid hb
      rw [hb]
      clear hb
      have eE : Hid (clashE a b = 0) := by unfold Hid clashE; rw [if_neg (by simp [Ha.out]), Hb.out]
      have eV : Hid (clashV a b = a.any fun x => b.any fun y => x.over y) := by unfold Hid clashV; simp [Ha.out, Hb.out]
      go_wp2
      go_loopg [22] a.length (fun n i wr => ∃ k : Nat, n + k = a.length ∧ i = .int .i64 k ∧ Hid (∀ q, (hq : q < k) → (hk : k ≤ a.length) → (b.any fun y => (a[q]'(by omega)).over y) = false) ∧ Hid (Below w.heap.size w wr))
      case atStart => exact ⟨0, by omega, rfl, by intro q hq; omega, HB2⟩
      case round =>
        obtain ⟨k, hk, rfl, hno, hB⟩ := hrel
        by_cases hlt : k < a.length
        · obtain ⟨ad, rfl, f0, f1, f2, f3, f4⟩ := H.out.at hB.out k hlt
          go_wp2_with fail
          refine (conMt_c B d b a[k] _ (K.out.below (by have h := hB.out; have hs := h.size; go_grown))).mono ?_
          rintro e w3 ⟨rfl, hb3⟩
          have hB3 : Hid (Below w.heap.size w w3) := bthen (hB.out.alloc hB.out.size _) (by have h := hB.out.size; simp; omega) hb3
          clear hb3 f0 f1 f2 f3 f4
          cases hp : b.any fun y => a[k].over y
          · have hno2 : Hid (∀ q, (hq : q < k + 1) → (hk : k + 1 ≤ a.length) → (b.any fun y => (a[q]'(by omega)).over y) = false) := by
              intro q hq _
              by_cases e : q = k
              · subst e; exact hp
              · exact hno.out q (by omega) (by omega)
            clear hp
            go_wp2
            go_roundg (gk - 1)
            case measure => omega
            case rel => exact ⟨k + 1, by omega, by go_num, hno2, hB3⟩
          · have fin : Hid (clashV a b = true) := by unfold Hid; rw [eV.out, List.any_eq_true]; exact ⟨_, List.getElem_mem hlt, hp⟩
            clear hp
            go_wp2
            refine bodyPost_ret (by simp only [results, Tryz.results37]; go_simp <;> rfl) rfl ?_
            exact ⟨by rw [eE.out, fin.out], hB3.out⟩
        · obtain rfl : k = a.length := by omega
          have fin : Hid (clashV a b = false) := by
            unfold Hid
            rw [eV.out, List.any_eq_false]
            intro x hx
            obtain ⟨q, hq, rfl⟩ := List.mem_iff_getElem.1 hx
            rw [hno.out q hq (Nat.le_refl _)]; simp
          go_wp2
          refine bodyPost_ret (by simp only [results, Tryz.results37]; go_simp <;> rfl) rfl ?_
          exact ⟨by rw [eE.out, fin.out], hB.out⟩
    · have eE : Hid (clashE a b = meetCheck b) := by unfold Hid clashE; rw [if_neg (by simp [Ha.out])]
      have eV : Hid (clashV a b = false) := by unfold Hid clashV; simp [hb]
      have d0 : (meetCheck b != 0) = true := by simp [hb]
      clear hb
      go_wp2
      refine bodyPost_ret (by simp only [results, Tryz.results37]; go_simp <;> rfl) rfl ?_
      exact ⟨by rw [eE.out, eV.out], HB2.out⟩
  · have eE : Hid (clashE a b = meetCheck a) := by unfold Hid clashE; rw [if_pos ha]
    have eV : Hid (clashV a b = false) := by unfold Hid clashV; simp [ha]
    have d0 : (meetCheck a != 0) = true := by simp [ha]
    clear ha
    go_wp2
    refine bodyPost_ret (by simp only [results, Tryz.results37]; go_simp <;> rfl) rfl ?_
    exact ⟨by rw [eE.out, eV.out], HB1.out⟩
end Go.Proofs.YteonpdnncodkaaaGreatDoor
