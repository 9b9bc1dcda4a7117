/- The reference of layer 25: All, FreeFor, General, Groups. -/
import Derived.Test.YteonpdnncodkaaaGreatDoorQ1
set_option linter.unusedVariables false
set_option linter.unusedSimpArgs false
namespace Go.Proofs.YteonpdnncodkaaaGreatDoor
open Go.RowKit

set_option maxRecDepth 100000 in
set_option maxHeartbeats 2000000 in
theorem rall_c (s : Sec) (A5 : Option Addr) (c5 : Nat) (A6 : Option Addr) (c6 : Nat) (A7 : Option Addr) (c7 : Nat) (B : Option Addr) (d : Nat) (T : List Seat) (w : World) (ht : RSeats w B T) (hs : 0 ≤ s.seats ∧ s.seats ≤ 4096) :
    Calls Tryz.prog 72 #[.agg #[.int .i64 s.id, .int .i64 s.course, .int .i64 s.term, .int .i64 s.campus, .int .i64 s.seats, .slice A5 s.meets.length c5, .slice A6 s.groups.length c6, .slice A7 s.labs.length c7, .bool s.lab], .slice B T.length d] w fun e w' => e = .returned (.int .i64 (allF s (ofSec T s.id))) ∧ Below w.heap.size w w' := by
  have hl := ht.len
  have HT := Lib.hid ht
  clear ht
  obtain ⟨hs0, hs1⟩ := hs
  have hcb := cntS_bound T s.id (-2)
  obtain ⟨hcb0, hcb1⟩ := hcb
  obtain ⟨ct, hct⟩ : ∃ ct, ct = cntS T s.id (-2) := ⟨_, rfl⟩
  have HR : Hid (allF s (ofSec T s.id) = s.seats - ct) := by unfold Hid allF; rw [hct, cntS_all]
  rw [← hct] at hcb0 hcb1
  go_enter Tryz.func72, Tryz.ntmps72
  go_wp2_with fail
  have W1 : Hid (Below w.heap.size w (w.alloc (.cells #[.int .i64 s.id, .int .i64 s.course, .int .i64 s.term, .int .i64 s.campus, .int .i64 s.seats, .slice A5 s.meets.length c5, .slice A6 s.groups.length c6, .slice A7 s.labs.length c7, .bool s.lab] 40))) := by unfold Hid; go_grown
  have ky := Blk.new w 40 #[.int .i64 s.id, .int .i64 s.course, .int .i64 s.term, .int .i64 s.campus, .int .i64 s.seats, .slice A5 s.meets.length c5, .slice A6 s.groups.length c6, .slice A7 s.labs.length c7, .bool s.lab]
  have HT1 := Lib.hid (HT.out.below W1.out)
  refine region_below (by kernel_rfl) (by kernel_rfl) (fun ι hι f hf hg => ?_)
  have HFN := Lib.hid hf
  have HGN := Lib.hid hg
  have k0 : ∀ n, (f n).cell? ⟨w.heap.size, 0, none⟩ = some (.int .i64 s.id) := fun n => (ky.kept (hf n) ky.lt).cell 0 rfl
  have k4 : ∀ n, (f n).cell? ⟨w.heap.size, 4, none⟩ = some (.int .i64 s.seats) := fun n => (ky.kept (hf n) ky.lt).cell 4 rfl
  have HCT : Hid (∀ n, Calls Tryz.prog 67 #[.slice B T.length d, .int .i64 s.id, .int .i64 (-2)] (f n) fun e w' => e = .returned (.int .i64 ct) ∧ Below (f n).heap.size (f n) w') := fun n => by rw [hct]; exact rcount_c B d T s.id (-2) (f n) (HT1.out.below (hf n))
  have hwr : IntKind.i64.wrap (s.seats - ct) = s.seats - ct := wrapi (by omega) (by omega)
  clear hf hg hct
  repeat go_big_quiet_step ((refine (HCT.out _).mono ?_; rintro e w8 ⟨rfl, hb8⟩; exact ⟨rfl, HGN.out _ _ hb8⟩))
  refine wpQuiet_nil ?_
  rintro _ ⟨n, rfl⟩
  have hb := Lib.hid (bthen W1.out W1.out.size (HFN.out n))
  clear k0 k4 HCT
  generalize f n = w3 at *
  go_wp2
  go_ret
  exact ⟨ret_i64 (by rw [HR.out]), hb.out⟩

set_option maxRecDepth 100000 in
set_option maxHeartbeats 2000000 in
theorem rfreefor_c (s : Sec) (A5 : Option Addr) (c5 : Nat) (A6 : Option Addr) (c6 : Nat) (A7 : Option Addr) (c7 : Nat) (B : Option Addr) (d : Nat) (T : List Seat) (g now : Int) (w : World) (h : SecIn w s A5 c5 A6 c6 A7 c7) (ht : RSeats w B T) (hs : Formed s) (hg : 0 ≤ g) :
    Calls Tryz.prog 51 #[.agg #[.int .i64 s.id, .int .i64 s.course, .int .i64 s.term, .int .i64 s.campus, .int .i64 s.seats, .slice A5 s.meets.length c5, .slice A6 s.groups.length c6, .slice A7 s.labs.length c7, .bool s.lab], .slice B T.length d, .int .i64 g, .int .i64 now] w fun e w' => e = .returned (.int .i64 (resF s (ofSec T s.id) now g)) ∧ Below w.heap.size w w' := by
  have hl := ht.len
  have HT := Lib.hid ht
  have H := Lib.hid h
  have hse := wi_true.1 hs.2.2.2.2.1
  have hkb := kept_bound hs g now
  obtain ⟨hkb0, hkb1⟩ := hkb
  clear h ht hs
  have hcb := cntS_bound T s.id g
  obtain ⟨hcb0, hcb1⟩ := hcb
  obtain ⟨ct, hct⟩ : ∃ ct, ct = cntS T s.id g := ⟨_, rfl⟩
  obtain ⟨K, hK⟩ : ∃ K, K = kept s g now := ⟨_, rfl⟩
  have HR : Hid (resF s (ofSec T s.id) now g = min (max (K - ct) 0) (allF s (ofSec T s.id))) := by unfold Hid resF; rw [hct, hK, cntS_grp _ _ _ (by omega)]
  rw [← hct] at hcb0 hcb1
  rw [← hK] at hkb0 hkb1
  go_enter Tryz.func51, Tryz.ntmps51
  go_wp2_with fail
  have W1 : Hid (Below w.heap.size w (w.alloc (.cells #[.int .i64 s.id, .int .i64 s.course, .int .i64 s.term, .int .i64 s.campus, .int .i64 s.seats, .slice A5 s.meets.length c5, .slice A6 s.groups.length c6, .slice A7 s.labs.length c7, .bool s.lab] 40))) := by unfold Hid; go_grown
  have ky := Blk.new w 40 #[.int .i64 s.id, .int .i64 s.course, .int .i64 s.term, .int .i64 s.campus, .int .i64 s.seats, .slice A5 s.meets.length c5, .slice A6 s.groups.length c6, .slice A7 s.labs.length c7, .bool s.lab]
  have HT1 := Lib.hid (HT.out.below W1.out)
  have H1 := Lib.hid (H.out.below W1.out)
  refine region_below (by kernel_rfl) (by kernel_rfl) (fun ι hι f hf hg => ?_)
  have HFN := Lib.hid hf
  have HGN := Lib.hid hg
  have k0 : ∀ n, (f n).cell? ⟨w.heap.size, 0, none⟩ = some (.int .i64 s.id) := fun n => (ky.kept (hf n) ky.lt).cell 0 rfl; have k1 : ∀ n, (f n).cell? ⟨w.heap.size, 1, none⟩ = some (.int .i64 s.course) := fun n => (ky.kept (hf n) ky.lt).cell 1 rfl; have k2 : ∀ n, (f n).cell? ⟨w.heap.size, 2, none⟩ = some (.int .i64 s.term) := fun n => (ky.kept (hf n) ky.lt).cell 2 rfl; have k3 : ∀ n, (f n).cell? ⟨w.heap.size, 3, none⟩ = some (.int .i64 s.campus) := fun n => (ky.kept (hf n) ky.lt).cell 3 rfl; have k4 : ∀ n, (f n).cell? ⟨w.heap.size, 4, none⟩ = some (.int .i64 s.seats) := fun n => (ky.kept (hf n) ky.lt).cell 4 rfl; have k5 : ∀ n, (f n).cell? ⟨w.heap.size, 5, none⟩ = some (.slice A5 s.meets.length c5) := fun n => (ky.kept (hf n) ky.lt).cell 5 rfl; have k6 : ∀ n, (f n).cell? ⟨w.heap.size, 6, none⟩ = some (.slice A6 s.groups.length c6) := fun n => (ky.kept (hf n) ky.lt).cell 6 rfl; have k7 : ∀ n, (f n).cell? ⟨w.heap.size, 7, none⟩ = some (.slice A7 s.labs.length c7) := fun n => (ky.kept (hf n) ky.lt).cell 7 rfl; have k8 : ∀ n, (f n).cell? ⟨w.heap.size, 8, none⟩ = some (.bool s.lab) := fun n => (ky.kept (hf n) ky.lt).cell 8 rfl
  have HCT : Hid (∀ n, Calls Tryz.prog 67 #[.slice B T.length d, .int .i64 s.id, .int .i64 g] (f n) fun e w' => e = .returned (.int .i64 ct) ∧ Below (f n).heap.size (f n) w') := fun n => by rw [hct]; exact rcount_c B d T s.id g (f n) (HT1.out.below (hf n))
  have HKP : Hid (∀ n, Calls Tryz.prog 71 #[.agg #[.int .i64 s.id, .int .i64 s.course, .int .i64 s.term, .int .i64 s.campus, .int .i64 s.seats, .slice A5 s.meets.length c5, .slice A6 s.groups.length c6, .slice A7 s.labs.length c7, .bool s.lab], .int .i64 g, .int .i64 now] (f n) fun e w' => e = .returned (.int .i64 K) ∧ Below (f n).heap.size (f n) w') := fun n => by rw [hK]; exact kept23_c s A5 c5 A6 c6 A7 c7 g now (f n) (H1.out.below (hf n))
  have hwr : IntKind.i64.wrap (K - ct) = K - ct := wrapi (by omega) (by omega)
  clear hf hg hct hK
  repeat go_big_quiet_step (first | (refine (HCT.out _).mono ?_; rintro e w8 ⟨rfl, hb8⟩; exact ⟨rfl, HGN.out _ _ hb8⟩) | (refine (HKP.out _).mono ?_; rintro e w8 ⟨rfl, hb8⟩; exact ⟨rfl, HGN.out _ _ hb8⟩))
  refine wpQuiet_nil ?_
  rintro _ ⟨n, rfl⟩
  have hb := Lib.hid (bthen W1.out W1.out.size (HFN.out n))
  have ky3 := ky.kept (HFN.out n) ky.lt
  have HT3 := Lib.hid (HT1.out.below (HFN.out n))
  clear k0 k1 k2 k3 k4 k5 k6 k7 k8 HCT HKP ky HFN HGN
  generalize f n = w3 at *
  obtain ⟨b0, b1, b2, b3, b4, b5, b6, b7, b8, bf⟩ := ky3.c9
  go_wp2_with fail
  refine (rall_c s A5 c5 A6 c6 A7 c7 B d T _ HT3.out hse).mono ?_
  rintro e w4 ⟨rfl, hb4⟩
  have hb5 := Lib.hid (bthen hb.out hb.out.size hb4)
  clear hb4 hb
  go_wp2
  go_ret
  exact ⟨ret_i64 (by rw [HR.out]), hb5.out⟩

set_option maxRecDepth 100000 in
set_option maxHeartbeats 4000000 in
theorem rgeneral_c (s : Sec) (A5 : Option Addr) (c5 : Nat) (A6 : Option Addr) (c6 : Nat) (A7 : Option Addr) (c7 : Nat) (B : Option Addr) (d : Nat) (T : List Seat) (now : Int) (w : World) (h : SecIn w s A5 c5 A6 c6 A7 c7) (ht : RSeats w B T) (hs : Formed s) :
    Calls Tryz.prog 53 #[.agg #[.int .i64 s.id, .int .i64 s.course, .int .i64 s.term, .int .i64 s.campus, .int .i64 s.seats, .slice A5 s.meets.length c5, .slice A6 s.groups.length c6, .slice A7 s.labs.length c7, .bool s.lab], .slice B T.length d, .int .i64 now] w fun e w' => e = .returned (.int .i64 (genF s (ofSec T s.id) now)) ∧ Below w.heap.size w w' := by
  have hl := ht.len
  have HT := Lib.hid ht
  have H := Lib.hid h
  have HS := Lib.hid hs
  have hse := wi_true.1 hs.2.2.2.2.1
  obtain ⟨hse0, hse1⟩ := hse
  have hll : (ofSec T s.id).length ≤ T.length := List.length_filter_le _ _
  clear h ht hs
  obtain ⟨L, hL⟩ : ∃ L, L = ofSec T s.id := ⟨_, rfl⟩
  rw [← hL] at hll
  rw [← hL]
  have hcb := cn_bound L (-1)
  obtain ⟨hcb0, hcb1⟩ := hcb
  obtain ⟨ct, hct⟩ : ∃ ct, ct = cn L (-1) := ⟨_, rfl⟩
  rw [← hct] at hcb0 hcb1
  have HL := Lib.hid hL
  have HC1 := Lib.hid hct
  clear hct hL
  go_enter Tryz.func53, Tryz.ntmps53
  go_wp2_with fail
  have W1 : Hid (Below w.heap.size w (w.alloc (.cells #[.int .i64 s.id, .int .i64 s.course, .int .i64 s.term, .int .i64 s.campus, .int .i64 s.seats, .slice A5 s.meets.length c5, .slice A6 s.groups.length c6, .slice A7 s.labs.length c7, .bool s.lab] 40))) := by unfold Hid; go_grown
  have ky := Blk.new w 40 #[.int .i64 s.id, .int .i64 s.course, .int .i64 s.term, .int .i64 s.campus, .int .i64 s.seats, .slice A5 s.meets.length c5, .slice A6 s.groups.length c6, .slice A7 s.labs.length c7, .bool s.lab]
  have HT1 := Lib.hid (HT.out.below W1.out)
  refine region_below (by kernel_rfl) (by kernel_rfl) (fun ι hι f hf hg => ?_)
  have HFN := Lib.hid hf
  have HGN := Lib.hid hg
  have k0 : ∀ n, (f n).cell? ⟨w.heap.size, 0, none⟩ = some (.int .i64 s.id) := fun n => (ky.kept (hf n) ky.lt).cell 0 rfl
  have k4 : ∀ n, (f n).cell? ⟨w.heap.size, 4, none⟩ = some (.int .i64 s.seats) := fun n => (ky.kept (hf n) ky.lt).cell 4 rfl
  have HCT : Hid (∀ n, Calls Tryz.prog 67 #[.slice B T.length d, .int .i64 s.id, .int .i64 (-1)] (f n) fun e w' => e = .returned (.int .i64 ct) ∧ Below (f n).heap.size (f n) w') := fun n => by rw [HC1.out, HL.out, ← cntS_grp _ _ _ (by omega)]; exact rcount_c B d T s.id (-1) (f n) (HT1.out.below (hf n))
  have hwr : IntKind.i64.wrap (s.seats - ct) = s.seats - ct := wrapi (by omega) (by omega)
  clear hf hg
  repeat go_big_quiet_step ((refine (HCT.out _).mono ?_; rintro e w8 ⟨rfl, hb8⟩; exact ⟨rfl, HGN.out _ _ hb8⟩))
  refine wpQuiet_nil ?_
  rintro _ ⟨n, rfl⟩
  have hb := Lib.hid (bthen W1.out W1.out.size (HFN.out n))
  have ky3 := ky.kept (HFN.out n) ky.lt
  clear k0 k4 HCT ky HFN HGN hwr HT1 W1
  generalize f n = w3 at *
  go_wp2
  go_loopg [7, 8] 8 (fun n ge i wr => ∃ k : Nat, n + k = 8 ∧ i = .int .i64 k ∧ ge = .int .i64 (s.seats - ct - gsum s L now k) ∧ Blk wr w.heap.size 40 #[.int .i64 s.id, .int .i64 s.course, .int .i64 s.term, .int .i64 s.campus, .int .i64 s.seats, .slice A5 s.meets.length c5, .slice A6 s.groups.length c6, .slice A7 s.labs.length c7, .bool s.lab] ∧ Hid (Below w.heap.size w wr))
  case atStart => exact ⟨0, by omega, rfl, by simp [gsum], ky3, hb⟩
  case round =>
    clear hb ky3
    obtain ⟨k, hk, rfl, rfl, K1, hB⟩ := hrel
    obtain ⟨b0, b1, b2, b3, b4, b5, b6, b7, b8, bf⟩ := K1.c9
    by_cases hk8 : k < 8
    · obtain ⟨hc0, hc1⟩ := cn_bound L k
      obtain ⟨hq0, hq1⟩ := kept_bound HS.out k now
      obtain ⟨ha0, ha1⟩ := gsum_bound HS.out (L := L) (by omega) now k
      have E2 : Hid (gsum s L now (k + 1) = gsum s L now k + max (kept s k now) (cn L k)) := rfl
      obtain ⟨C, hC⟩ : ∃ C, C = cn L k := ⟨_, rfl⟩
      obtain ⟨K, hK⟩ : ∃ K, K = kept s k now := ⟨_, rfl⟩
      obtain ⟨G, hG⟩ : ∃ G, G = gsum s L now k := ⟨_, rfl⟩
      rw [← hK] at hq0 hq1 E2
      rw [← hC] at hc0 hc1 E2
      rw [← hG] at ha0 ha1 E2
      rw [← hG]
      have ky := K1
      clear K1
      go_wp2_with fail
      refine region_below (by kernel_rfl) (by kernel_rfl) (fun ι hι f hf hg => ?_)
      have HFN := Lib.hid hf
      have HGN := Lib.hid hg
      have HT1 := Lib.hid (HT.out.below hB.out)
      have H1 := Lib.hid (H.out.below hB.out)
      clear b0 b1 b2 b3 b4 b5 b6 b7 b8
      have k0 : ∀ n, (f n).cell? ⟨w.heap.size, 0, none⟩ = some (.int .i64 s.id) := fun n => (ky.kept (hf n) ky.lt).cell 0 rfl; have k1 : ∀ n, (f n).cell? ⟨w.heap.size, 1, none⟩ = some (.int .i64 s.course) := fun n => (ky.kept (hf n) ky.lt).cell 1 rfl; have k2 : ∀ n, (f n).cell? ⟨w.heap.size, 2, none⟩ = some (.int .i64 s.term) := fun n => (ky.kept (hf n) ky.lt).cell 2 rfl; have k3 : ∀ n, (f n).cell? ⟨w.heap.size, 3, none⟩ = some (.int .i64 s.campus) := fun n => (ky.kept (hf n) ky.lt).cell 3 rfl; have k4 : ∀ n, (f n).cell? ⟨w.heap.size, 4, none⟩ = some (.int .i64 s.seats) := fun n => (ky.kept (hf n) ky.lt).cell 4 rfl; have k5 : ∀ n, (f n).cell? ⟨w.heap.size, 5, none⟩ = some (.slice A5 s.meets.length c5) := fun n => (ky.kept (hf n) ky.lt).cell 5 rfl; have k6 : ∀ n, (f n).cell? ⟨w.heap.size, 6, none⟩ = some (.slice A6 s.groups.length c6) := fun n => (ky.kept (hf n) ky.lt).cell 6 rfl; have k7 : ∀ n, (f n).cell? ⟨w.heap.size, 7, none⟩ = some (.slice A7 s.labs.length c7) := fun n => (ky.kept (hf n) ky.lt).cell 7 rfl; have k8 : ∀ n, (f n).cell? ⟨w.heap.size, 8, none⟩ = some (.bool s.lab) := fun n => (ky.kept (hf n) ky.lt).cell 8 rfl
      have HCT : Hid (∀ n, Calls Tryz.prog 67 #[.slice B T.length d, .int .i64 s.id, .int .i64 k] (f n) fun e w' => e = .returned (.int .i64 C) ∧ Below (f n).heap.size (f n) w') := fun n => by rw [hC, HL.out, ← cntS_grp _ _ _ (by omega)]; exact rcount_c B d T s.id k (f n) (HT1.out.below (hf n))
      have HKP : Hid (∀ n, Calls Tryz.prog 71 #[.agg #[.int .i64 s.id, .int .i64 s.course, .int .i64 s.term, .int .i64 s.campus, .int .i64 s.seats, .slice A5 s.meets.length c5, .slice A6 s.groups.length c6, .slice A7 s.labs.length c7, .bool s.lab], .int .i64 k, .int .i64 now] (f n) fun e w' => e = .returned (.int .i64 K) ∧ Below (f n).heap.size (f n) w') := fun n => by rw [hK]; exact kept23_c s A5 c5 A6 c6 A7 c7 k now (f n) (H1.out.below (hf n))
      have hwr : IntKind.i64.wrap (s.seats - ct - G - max K C) = s.seats - ct - (G + max K C) := (wrapi (by omega) (by omega)).trans (by omega)
      clear hf hg hC hK hG
      repeat go_big_quiet_step (first | (refine (HCT.out _).mono ?_; rintro e w8 ⟨rfl, hb8⟩; exact ⟨rfl, HGN.out _ _ hb8⟩) | (refine (HKP.out _).mono ?_; rintro e w8 ⟨rfl, hb8⟩; exact ⟨rfl, HGN.out _ _ hb8⟩))
      refine wpQuiet_nil ?_
      rintro _ ⟨n, rfl⟩
      have hb := Lib.hid (bthen hB.out hB.out.size (HFN.out n))
      have ky3 := ky.kept (HFN.out n) ky.lt
      clear k0 k1 k2 k3 k4 k5 k6 k7 k8 HCT HKP ky HFN HGN
      generalize f n = w4 at *
      go_wp2
      go_roundg (gk - 1)
      case measure => omega
      case rel => exact ⟨k + 1, by omega, by go_num, (by rw [E2.out]), ky3, hb⟩
    · obtain rfl : k = 8 := by omega
      have hr : genF s L now = max (s.seats - ct - gsum s L now 8) 0 := by rw [HC1.out]; rfl
      have HR := Lib.hid hr
      clear hr
      go_wp2
      go_ret
      exact ⟨ret_i64 (by rw [HR.out]), hB.out⟩
end Go.Proofs.YteonpdnncodkaaaGreatDoor
