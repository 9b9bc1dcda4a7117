/- seats.Free: its contract. -/
import Derived.Test.YteonpdnncodkaaaGreatDoorFree
set_option linter.unusedVariables false
set_option linter.unusedSimpArgs false
namespace Go.Proofs.YteonpdnncodkaaaGreatDoor
open Go.RowKit

def freeN (s : Sec) (L : List Seat) (group now : Int) : Int := if 0 ≤ group then min (genF s L now + resF s L now group) (allF s L) else genF s L now
def freeE (l : List Sec) (taken : List Seat) (sec group : Int) : Int := if seatCheck l taken ≠ 0 then seatCheck l taken else if group < -1 ∨ 7 < group then 1 else if (find l sec).isSome = true then 0 else 250
def freeV (l : List Sec) (taken : List Seat) (sec group now : Int) : Int := if freeE l taken sec group = 0 then freeN ((find l sec).getD Sec.zero) (ofSec taken sec) group now else 0
theorem find_mem {l : List Sec} {id : Int} {s : Sec} (h : find l id = some s) : s ∈ l ∧ s.id = id := by
  unfold find at h
  have := List.find?_some h
  exact ⟨List.mem_of_find?_eq_some h, by simpa using this⟩
theorem formed_of {l : List Sec} (h : checkAllS l = 0) {s : Sec} (hs : s ∈ l) : Formed s := (secCheck_zero ((checkAllS_zero h).1 s hs)).1
theorem genF_bound {s : Sec} (h : Formed s) {L : List Seat} (hL : L.length ≤ 140737488355328) (now : Int) : 0 ≤ genF s L now ∧ genF s L now ≤ 4096 := by
  have h1 := wi_true.1 h.2.2.2.2.1
  have h2 := gsum_bound h hL now 8
  have h3 := cn_bound L (-1)
  unfold genF
  omega
theorem resF_bound {s : Sec} (h : Formed s) {L : List Seat} (hL : L.length ≤ 140737488355328) (now g : Int) : -140737488355328 ≤ resF s L now g ∧ resF s L now g ≤ 4096 := by
  have h1 := wi_true.1 h.2.2.2.2.1
  have h2 := kept_bound h g now
  have h3 := cn_bound L g
  unfold resF allF
  omega

set_option maxRecDepth 100000 in
set_option maxHeartbeats 4000000 in
theorem seatFree_c (A : Option Addr) (c : Nat) (l : List Sec) (B : Option Addr) (d : Nat) (taken : List Seat) (sec group now : Int) (w : World) (hG : Glob w) (h : RSecs w A l) (ht : RSeats w B taken) :
    Calls Tryz.prog 11 #[.slice A l.length c, .slice B taken.length d, .int .i64 sec, .int .i64 group, .int .i64 now] w fun e w' => e = .returned (.tuple #[.int .i64 (freeV l taken sec group now), .int .i64 (freeE l taken sec group)]) ∧ Below w.heap.size w w' := by
  have hl := h.len
  have hlt := ht.len
  have H := Lib.hid h
  have HT := Lib.hid ht
  clear h ht
  go_enter Tryz.func11, Tryz.ntmps11
  go_wp2_with fail
  refine (seatCheck_c A c l B d taken _ hG H.out HT.out).mono ?_
  rintro e w1 ⟨rfl, hb1⟩
  have hB := Lib.hid hb1
  clear hb1
  by_cases h0 : seatCheck l taken = 0
  · by_cases hg : group < -1 ∨ 7 < group
    · have e1 : Hid (freeE l taken sec group = 1) := by unfold Hid freeE; rw [if_neg (by simp [h0]), if_pos hg]
      have e2 : Hid (freeV l taken sec group now = 0) := by unfold Hid freeV; rw [e1.out, if_neg (by omega)]
      rw [h0]
      clear h0
      rcases hg with hg | hg
      all_goals
        go_wp2
        refine bodyPost_ret (by simp only [results, Tryz.results11]; go_simp <;> rfl) rfl ?_
        exact ⟨by rw [e1.out, e2.out], hB.out⟩
    · have hg1 : ¬ group < -1 := by omega
      have hg2 : ¬ 7 < group := by omega
      have hg3 : ¬ 8 ≤ group := by omega
      have H0 := Lib.hid h0
      rw [h0]
      have HG := Lib.hid hg
      clear h0 hg
      go_wp2_with fail
      refine (find_c A c l sec _ (H.out.below hB.out)).mono ?_
      rintro e w2 ⟨A5, c5, A6, c6, A7, c7, rfl, hs, hb2⟩
      have HS := Lib.hid hs
      have hB2 := Lib.hid (bthen hB.out hB.out.size hb2)
      clear hb2 hs hB
      obtain ⟨s, hs⟩ : ∃ s, s = (find l sec).getD Sec.zero := ⟨_, rfl⟩
      have E1 := Lib.hid hs
      rw [← hs] at HS
      rw [← hs]
      clear hs
      cases hf : (find l sec).isSome
      · have e1 : Hid (freeE l taken sec group = 250) := by unfold Hid freeE; rw [if_neg (by simp [H0.out]), if_neg HG.out, if_neg (by simp [hf])]
        have e2 : Hid (freeV l taken sec group now = 0) := by unfold Hid freeV; rw [e1.out, if_neg (by omega)]
        clear hf
        go_wp2
        refine bodyPost_ret (by simp only [results, Tryz.results11]; go_simp <;> rfl) rfl ?_
        exact ⟨by rw [e1.out, e2.out], by have h := hB2.out; have hs := h.size; go_grown⟩
      · have e1 : Hid (freeE l taken sec group = 0) := by unfold Hid freeE; rw [if_neg (by simp [H0.out]), if_neg HG.out, if_pos hf]
        obtain ⟨hmem, hid⟩ : s ∈ l ∧ s.id = sec := by
          rw [E1.out]
          cases hq : find l sec with
          | none => rw [hq] at hf; cases hf
          | some t => exact find_mem hq
        have HF := Lib.hid (formed_of (seatCheck_zero H0.out).1 hmem)
        have e2 : Hid (freeV l taken sec group now = freeN s (ofSec taken s.id) group now) := by unfold Hid freeV; rw [e1.out, if_pos rfl, ← E1.out, hid]
        clear hf hmem hid
        go_wp2_with fail
        have W0 : Below w.heap.size w (w2.alloc (.cells #[.int .i64 s.id, .int .i64 s.course, .int .i64 s.term, .int .i64 s.campus, .int .i64 s.seats, .slice A5 s.meets.length c5, .slice A6 s.groups.length c6, .slice A7 s.labs.length c7, .bool s.lab] 40)) := hB2.out.alloc hB2.out.size _
        refine (free_c s A5 c5 A6 c6 A7 c7 B d taken now _ (HS.out.below (by have h := Below.refl w2.heap.size w2; go_grown)) (HT.out.below W0) HF.out).mono ?_
        rintro e w3 ⟨rfl, hb3⟩
        have hB3 := Lib.hid (bthen W0 W0.size hb3)
        clear hb3 W0 hB2
        obtain ⟨L, hL⟩ : ∃ L, L = ofSec taken s.id := ⟨_, rfl⟩
        have hll : (ofSec taken s.id).length ≤ taken.length := List.length_filter_le _ _
        rw [← hL] at hll e2
        rw [← hL]
        clear hL
        unfold resV resA
        have hgb := genF_bound HF.out (L := L) (by omega) now
        obtain ⟨hgb1, hgb2⟩ := hgb
        obtain ⟨al, hal⟩ : ∃ al, al = allF s L := ⟨_, rfl⟩
        obtain ⟨G, hG⟩ : ∃ G, G = genF s L now := ⟨_, rfl⟩
        have HAL := Lib.hid hal
        have HGG := Lib.hid hG
        rw [← hG] at hgb1 hgb2
        rw [← hG, ← hal]
        clear hG hal
        by_cases hn : 0 ≤ group
        · obtain ⟨gi, rfl⟩ : ∃ gi : Nat, group = gi := ⟨group.toNat, by omega⟩
          have hrb := resF_bound HF.out (L := L) (by omega) now gi
          obtain ⟨hrb1, hrb2⟩ := hrb
          obtain ⟨R, hR⟩ : ∃ R, R = resF s L now gi := ⟨_, rfl⟩
          have HR := Lib.hid hR
          rw [← hR] at hrb1 hrb2
          clear hR
          have e3 : Hid (freeN s L gi now = min (G + R) al) := by unfold Hid freeN; rw [if_pos hn, HGG.out, HR.out, HAL.out]
          have z0 : (#[Value.int .i64 (resC s L now 8 0), .int .i64 (resC s L now 8 1), .int .i64 (resC s L now 8 2), .int .i64 (resC s L now 8 3), .int .i64 (resC s L now 8 4), .int .i64 (resC s L now 8 5), .int .i64 (resC s L now 8 6), .int .i64 (resC s L now 8 7)] : Array Value)[gi]? = some (.int .i64 R) := by
            have h := resA_get s L now 8 gi (by omega)
            have h2 : resC s L now 8 gi = R := by unfold resC; rw [if_pos (by omega), HR.out]
            rw [h2] at h
            exact h
          have hwg : IntKind.i64.wrap (gi : Int) = gi := wrapi (by omega) (by omega)
          have ea : Addr.add ⟨w3.heap.size, 0, none⟩ gi = ⟨w3.heap.size, gi, none⟩ := add0 _ _
          by_cases hal4 : G + R ≤ al
          · have em : min (G + R) al = G + R := by omega
            go_wp2
            refine bodyPost_ret (by simp only [results, Tryz.results11]; go_simp <;> rfl) rfl ?_
            exact ⟨by rw [e1.out, e2.out, e3.out, em], by have h := hB3.out; have hs := h.size; go_grown⟩
          · have em : min (G + R) al = al := by omega
            go_wp2
            refine bodyPost_ret (by simp only [results, Tryz.results11]; go_simp <;> rfl) rfl ?_
            exact ⟨by rw [e1.out, e2.out, e3.out, em], by have h := hB3.out; have hs := h.size; go_grown⟩
        · have e3 : Hid (freeN s L group now = G) := by unfold Hid freeN; rw [if_neg hn, HGG.out]
          go_wp2
          refine bodyPost_ret (by simp only [results, Tryz.results11]; go_simp <;> rfl) rfl ?_
          exact ⟨by rw [e1.out, e2.out, e3.out], by have h := hB3.out; have hs := h.size; go_grown⟩
  · have e1 : Hid (freeE l taken sec group = seatCheck l taken) := by unfold Hid freeE; rw [if_pos h0]
    have e2 : Hid (freeV l taken sec group now = 0) := by unfold Hid freeV; rw [e1.out, if_neg h0]
    have d0 : (seatCheck l taken != 0) = true := by simp [h0]
    clear h0
    go_wp2
    refine bodyPost_ret (by simp only [results, Tryz.results11]; go_simp <;> rfl) rfl ?_
    exact ⟨by rw [e1.out, e2.out], hB.out⟩
end Go.Proofs.YteonpdnncodkaaaGreatDoor
