/- SeatsReserved returns true: the walk. -/
import Derived.Test.YteonpdnncodkaaaDoorBack
set_option linter.unusedVariables false
set_option linter.unusedSimpArgs false
namespace Go.Proofs.YteonpdnncodkaaaDoor
open Go.RowKit

set_option maxRecDepth 100000 in
set_option maxHeartbeats 8000000 in
theorem reserved_c (A : Option Addr) (c : Nat) (l : List Sec) (B : Option Addr) (d : Nat) (T : List Seat) (stu sec s0 s1 s2 now G : Int) (lv : Bool) (w : World) (hG : Glob w) (h : RSecs w A l) (ht : RSeats w B T) (hG8 : 0 ≤ G ∧ G < 256) :
    Calls Tryd.prog 15 #[.slice A l.length c, .slice B T.length d, .int .i64 stu, .int .i64 sec, .agg #[.int .i64 s0, .int .i64 s1, .int .i64 s2, .int .i64 now, .int .u8 G, .bool lv]] w fun e w' => e = .returned (.bool true) ∧ Below w.heap.size w w' := by
  have hTl := ht.len
  have H := Lib.hid h
  have HT := Lib.hid ht
  clear h ht
  go_enter Tryd.func15, Tryd.ntmps15
  go_wp2_with fail
  have W0 : Below w.heap.size w (w.alloc (.cells #[.int .i64 s0, .int .i64 s1, .int .i64 s2, .int .i64 now, .int .u8 G, .bool lv] 55)) := by go_grown
  refine (sane_c _ (hG.below W0)).mono ?_
  rintro e w1 ⟨rfl, hb1⟩
  have ks1 := (Blk.new w 55 #[.int .i64 s0, .int .i64 s1, .int .i64 s2, .int .i64 now, .int .u8 G, .bool lv]).kept hb1 (by simp)
  have HB1 := Lib.hid (bthen W0 W0.size hb1)
  clear hb1 W0
  go_wp2_with fail
  have W1 : Hid (Below w.heap.size w (w1.alloc (.cells #[.int .i64 sec, .int .i64 (-1)] 53))) := HB1.out.alloc HB1.out.size _
  have kb1 := Blk.new w1 53 #[.int .i64 sec, .int .i64 (-1)]
  refine (few25_c A c l B d T _ (H.out.below W1.out) hTl).mono ?_
  rintro e w2 ⟨rfl, rfl⟩
  cases hfew : few25 l T
  · go_wp2
    go_ret
    exact ⟨rfl, W1.out⟩
  have hfw := few25_true hfew
  obtain ⟨hfw1, hfw2⟩ := hfw
  clear hfew
  have ks2 := ks1.alloc (.cells #[.int .i64 sec, .int .i64 (-1)] 53)
  obtain ⟨q0, q1, q2, q3, q4, q5, _⟩ := ks1.c6
  have hks := ks1.lt
  go_wp2_with fail
  refine (take_c A c l B d T stu sec (-1) none 0 [] now _ (hG.below W1.out) (H.out.below W1.out) (HT.out.below W1.out) (Rd.nil _ _ _ _) (by omega)).mono ?_
  rintro e w3 ⟨⟨Xa, Xc, rfl, xr, xl⟩, hb3⟩
  have ks3 := ks2.kept hb3 ks2.lt
  have HB3 := Lib.hid (bthen W1.out W1.out.size hb3)
  clear hb3 q0 q1 q2 q3 q4 q5 ks1 ks2 hks kb1
  by_cases hE : takeE l T stu sec (-1) [] now = 0
  case neg =>
    have d0 : (takeE l T stu sec (-1) [] now != 0) = true := by simp [hE]
    rw [takeX_err hE]
    clear hE
    go_wp2
    go_ret
    exact ⟨rfl, HB3.out⟩
  have hto := take_ok hE
  obtain ⟨X, hX⟩ : ∃ X, X = takeX l T stu sec (-1) [] now := ⟨_, rfl⟩
  have hxlen : X.length ≤ 42 := by have := takeX_length l T stu sec (-1) [] now; rw [← hX] at this; omega
  rw [← hX] at hto xr xl
  rw [← hX, hE]
  have XR3 := Lib.hid xr
  have hcX := Lib.hid hto.checkX
  obtain ⟨y, hRv⟩ := law_reserved hto
  have HRV := Lib.hid hRv
  clear hX hE hto xr hRv
  go_wp2_with fail
  refine (findSome_c A c l sec y _ (H.out.below HB3.out) HRV.out.find).mono ?_
  rintro e w4 ⟨A5, c5, A6, c6, A7, c7, rfl, hsi, hb4⟩
  have HSI4 := Lib.hid hsi
  have ks4 := (ks3.kept hb4 ks3.lt).alloc (.cells #[.int .i64 y.id, .int .i64 y.course, .int .i64 y.term, .int .i64 y.campus, .int .i64 y.seats, .slice A5 y.meets.length c5, .slice A6 y.groups.length c6, .slice A7 y.labs.length c7, .bool y.lab] 27)
  have HB4 := Lib.hid (bthen HB3.out HB3.out.size hb4)
  have XR4 := Lib.hid (XR3.out.below hb4)
  have W4 : Hid (Below w.heap.size w (w4.alloc (.cells #[.int .i64 y.id, .int .i64 y.course, .int .i64 y.term, .int .i64 y.campus, .int .i64 y.seats, .slice A5 y.meets.length c5, .slice A6 y.groups.length c6, .slice A7 y.labs.length c7, .bool y.lab] 27))) := HB4.out.alloc HB4.out.size _
  have hg4 : Hid (Below w4.heap.size w4 (w4.alloc (.cells #[.int .i64 y.id, .int .i64 y.course, .int .i64 y.term, .int .i64 y.campus, .int .i64 y.seats, .slice A5 y.meets.length c5, .slice A6 y.groups.length c6, .slice A7 y.labs.length c7, .bool y.lab] 27))) := by unfold Hid; go_grown
  have ky4 := Blk.new w4 27 #[.int .i64 y.id, .int .i64 y.course, .int .i64 y.term, .int .i64 y.campus, .int .i64 y.seats, .slice A5 y.meets.length c5, .slice A6 y.groups.length c6, .slice A7 y.labs.length c7, .bool y.lab]
  clear hb4 hsi ks3 HB3 XR3
  have hpl : cntS X sec (-1) = cntS T sec (-1) + 1 := by rw [cntS_grp _ _ _ (by omega), cntS_grp _ _ _ (by omega)]; exact HRV.out.plus
  have hcb1 := cntS_bound T sec (-1)
  obtain ⟨hcb2, hcb3⟩ := hcb1
  have HPL := Lib.hid hpl
  clear hpl
  go_wp2_with fail
  refine (count25_c Xa Xc X sec (-1) _ (XR4.out.below hg4.out)).mono ?_
  rintro e w5 ⟨rfl, hb5⟩
  rw [HPL.out]
  have HB5 := Lib.hid (bthen W4.out W4.out.size hb5)
  have ks5 := ks4.kept hb5 ks4.lt
  have ky5 := ky4.kept hb5 ky4.lt
  have XR5 := Lib.hid ((XR4.out.below hg4.out).below hb5)
  have HSI5 := Lib.hid ((HSI4.out.below hg4.out).below hb5)
  clear hb5 ks4 ky4 XR4 HSI4 hg4 W4 HB4
  go_wp2_with fail
  refine (count25_c B d T sec (-1) _ (HT.out.below HB5.out)).mono ?_
  rintro e w6 ⟨rfl, hb6⟩
  have HB6 := Lib.hid (bthen HB5.out HB5.out.size hb6)
  have ks6 := ks5.kept hb6 ks5.lt
  have ky6 := ky5.kept hb6 ky5.lt
  have XR6 := Lib.hid (XR5.out.below hb6)
  have HSI6 := Lib.hid (HSI5.out.below hb6)
  clear hb6 ks5 ky5 XR5 HSI5 HB5
  generalize cntS T sec (-1) = n1 at *
  have hse := wi_true.1 (atSec hcX.out HRV.out.find).formed.2.2.2.2.1
  obtain ⟨hse0, hse1⟩ := hse
  have hcb4 := cntS_bound X sec (-2)
  obtain ⟨hcb5, hcb6⟩ := hcb4
  obtain ⟨ct, hct⟩ : ∃ ct, ct = cntS X sec (-2) := ⟨_, rfl⟩
  rw [← hct] at hcb5 hcb6
  have HCT2 := Lib.hid hct
  go_wp2_with fail
  refine region_below (by kernel_rfl) (by kernel_rfl) (fun ι hι f hf hg => ?_)
  have HFN := Lib.hid hf
  have HGN := Lib.hid hg
  have k4 : ∀ n, (f n).cell? ⟨w4.heap.size, 4, none⟩ = some (.int .i64 y.seats) := fun n => (ky6.kept (hf n) ky6.lt).cell 4 rfl
  have HCT : Hid (∀ n, Calls Tryd.prog 34 #[.slice Xa X.length Xc, .int .i64 sec, .int .i64 (-2)] (f n) fun e w' => e = .returned (.int .i64 ct) ∧ Below (f n).heap.size (f n) w') := fun n => by rw [hct]; exact count25_c Xa Xc X sec (-2) (f n) (XR6.out.below (hf n))
  clear hf hg hct
  repeat go_big_quiet_step ((refine (HCT.out _).mono ?_; rintro e w8 ⟨rfl, hb8⟩; exact ⟨rfl, HGN.out _ _ hb8⟩))
  refine wpQuiet_nil ?_
  rintro _ ⟨n, rfl⟩
  have hb7 := HFN.out n
  have HB7 := Lib.hid (bthen HB6.out HB6.out.size hb7)
  have ks7 := ks6.kept hb7 ks6.lt
  have ky7 := ky6.kept hb7 ky6.lt
  have XR := Lib.hid (XR6.out.below hb7)
  have HSI7 := Lib.hid (HSI6.out.below hb7)
  have hG7 := hG.below HB7.out
  have H7 := Lib.hid (H.out.below HB7.out)
  have HT7 := Lib.hid (HT.out.below HB7.out)
  have HE1 := Lib.hid (HRV.out.okE (-1) (by omega) (by omega))
  have HSA : Hid (∀ k : Nat, cntS X sec k = cntS T sec k) := fun k => by rw [cntS_grp _ _ _ (by omega), cntS_grp _ _ _ (by omega)]; exact HRV.out.same k (by omega)
  have hgb := freeN_nonneg (atSec hcX.out HRV.out.find) (-1) now
  rw [← freeV_ok hcX.out HRV.out.find (by omega)] at hgb
  have hgal : allF y (ofSec X sec) = y.seats - ct := by unfold allF; rw [HCT2.out, cntS_all]
  rw [hgal] at hgb
  obtain ⟨Gn, hGn⟩ : ∃ Gn, Gn = freeV l X sec (-1) now := ⟨_, rfl⟩
  rw [← hGn] at hgb
  obtain ⟨R, hR⟩ : ∃ R, R = y.seats - ct := ⟨_, rfl⟩
  have hR0 : R ≤ 4096 := by omega
  rw [← hR] at hgb
  rw [← hR]
  have HR := Lib.hid hR
  obtain ⟨hgb1, _, hgb2⟩ := hgb
  have hgb3 : Gn ≤ 4096 := by omega
  have HGN2 := Lib.hid hGn
  clear k4 HCT hb7 ks6 ky6 XR6 HSI6 HB6 HFN HGN hgal hGn hR
  generalize f n = w7 at *
  go_wp2
  go_loopg [67] 8 (fun n i wr => ∃ k : Nat, n + k = 8 ∧ i = .int .i64 k ∧ Hid (Below w7.heap.size w7 wr))
  case atStart => exact ⟨0, by omega, rfl, Below.refl _ _⟩
  case round =>
    obtain ⟨k, hk, rfl, hB⟩ := hrel
    by_cases hlt : k < 8
    · have hkb := kept_bound (atSec hcX.out HRV.out.find).formed k now
      obtain ⟨hkb0, hkb1⟩ := hkb
      have hcb7 := cntS_bound X sec k
      obtain ⟨hcb8, hcb9⟩ := hcb7
      have hle := HRV.out.left k (by omega) (by omega)
      have hfr := HRV.out.free k (by omega) (by omega)
      have hEk := Lib.hid (HRV.out.okE k (by omega) (by omega))
      rw [← cntS_grp _ _ _ (by omega), ← cntS_all] at hle hfr
      obtain ⟨C, hCk⟩ : ∃ C, C = cntS X sec k := ⟨_, rfl⟩
      obtain ⟨K, hKk⟩ : ∃ K, K = kept y k now := ⟨_, rfl⟩
      have hct := HCT2.out
      have hGn := HGN2.out
      rw [← hCk, ← hKk, ← hct, ← HR.out] at hle
      rw [← hCk, ← hKk, ← hct, ← HR.out, ← hGn] at hfr
      rw [← hCk] at hcb8 hcb9
      rw [← hKk] at hkb0 hkb1
      have HCk := Lib.hid hCk
      have HKk := Lib.hid hKk
      have HFR := Lib.hid hfr
      clear hCk hKk hct hGn hfr
      obtain ⟨L, hL⟩ : ∃ L, L = max (K - C) 0 := ⟨_, rfl⟩
      have HL := Lib.hid hL
      have hL0 : 0 ≤ L := by omega
      have hL1 : L ≤ R := by omega
      have hwr : IntKind.i64.wrap (Gn + min L R) = Gn + min L R := wrapi (by omega) (by omega)
      have HFR2 : Hid (freeV l X sec (k : Nat) now = min (Gn + min L R) R) := by unfold Hid; rw [HFR.out, HL.out]
      clear hL
      (
 have EN := HFR2
 go_wp2_with fail
 refine (count25_c Xa Xc X sec k _ (XR.out.below hB.out)).mono ?_
 rintro e w8 ⟨rfl, hb8⟩
 rw [← HCk.out]
 have HB8 := Lib.hid (bthen hB.out hB.out.size hb8)
 clear hb8
 go_wp2_with fail
 refine (count25_c B d T sec k _ (HT7.out.below HB8.out)).mono ?_
 rintro e w9 ⟨rfl, hb9⟩
 rw [← HSA.out k, ← HCk.out]
 have HB9 := Lib.hid (bthen HB8.out HB8.out.size hb9)
 clear hb9
 have ky9 := ky7.kept HB9.out ky7.lt
 obtain ⟨y0, y1, y2, y3, y4, y5, y6, y7, y8, _⟩ := ky9.c9
 obtain ⟨q0, q1, q2, q3, q4, q5, _⟩ := (ks7.kept HB9.out ks7.lt).c6
 go_wp2_with fail
 refine (kept_c y A5 c5 A6 c6 A7 c7 k now _ (HSI7.out.below HB9.out)).mono ?_
 rintro e w10 ⟨rfl, hb10⟩
 rw [← HKk.out]
 have HB10 := Lib.hid (bthen HB9.out HB9.out.size hb10)
 clear hb10 y0 y1 y2 y3 y4 y5 y6 y7 y8 q0 q1 q2 q3 q4 q5 ky9
 go_wp2_with fail
 refine (count25_c Xa Xc X sec k _ (XR.out.below HB10.out)).mono ?_
 rintro e w11 ⟨rfl, hb11⟩
 rw [← HCk.out]
 have HB11 := Lib.hid (bthen HB10.out HB10.out.size hb11)
 clear hb11
 obtain ⟨q0, q1, q2, q3, q4, q5, _⟩ := (ks7.kept HB11.out ks7.lt).c6
 go_wp2_with fail
 (rw [← HL.out]; clear hle hkb0 hkb1 hcb8 hcb9)
 refine (seatFree_c A c l Xa Xc X sec (-1) now _ (hG7.below HB11.out) (H7.out.below HB11.out) (XR.out.below HB11.out)).mono ?_
 rintro e w12 ⟨rfl, hb12⟩
 rw [HE1.out, ← HGN2.out]
 have HB12 := Lib.hid (bthen HB11.out HB11.out.size hb12)
 clear hb12 q0 q1 q2 q3 q4 q5
 obtain ⟨q0, q1, q2, q3, q4, q5, _⟩ := (ks7.kept HB12.out ks7.lt).c6
 go_wp2_with fail
 refine (seatFree_c A c l Xa Xc X sec k now _ (hG7.below HB12.out) (H7.out.below HB12.out) (XR.out.below HB12.out)).mono ?_
 rintro e w13 ⟨rfl, hb13⟩
 rw [hEk.out, EN.out]
 have HB13 := Lib.hid (bthen HB12.out HB12.out.size hb13)
 clear hb13 q0 q1 q2 q3 q4 q5
 go_wp2
 go_roundg (gk - 1)
 case measure => omega
 case rel => exact ⟨k + 1, by omega, by go_num, HB13⟩)
    · obtain rfl : k = 8 := by omega
      go_wp2
      go_ret
      exact ⟨rfl, bthen HB7.out HB7.out.size hB.out⟩
end Go.Proofs.YteonpdnncodkaaaDoor
