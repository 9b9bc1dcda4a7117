/- sane: it returns true. -/
import Derived.Test.YteonpdnncodkaaaGreatDoorLawB
set_option linter.unusedVariables false
set_option linter.unusedSimpArgs false
namespace Go.Proofs.YteonpdnncodkaaaGreatDoor
open Go.RowKit

def s5 : Sec := ⟨5, 0, 0, 0, 3, [], [⟨2, 2, 100⟩], [], false⟩
def x5 : List Seat := [⟨7, 5, 2⟩]
def y5 : List Seat := [⟨3, 5, -1⟩, ⟨7, 5, 2⟩]
theorem sv1 : freeV [s5] [] 5 (-1) 99 = 1 := by decide +kernel
theorem sv2 : freeV [s5] [] 5 2 99 = 3 := by decide +kernel
theorem sv3 : freeV [s5] [] 5 (-1) 100 = 3 := by decide +kernel
theorem se1 : freeE [s5] [] 5 (-1) = 0 := by decide +kernel
theorem se2 : freeE [s5] [] 5 2 = 0 := by decide +kernel
theorem se4 : freeE [] [] 0 (-1) = 250 := by decide +kernel
theorem se5 : freeE [] [] 0 8 = 1 := by decide +kernel
theorem st1 : takeX [s5] [] 7 5 (-1) [2] 99 = x5 := by decide +kernel
theorem st2 : takeE [s5] [] 7 5 (-1) [2] 99 = 0 := by decide +kernel
theorem st3 : takeX [s5] x5 3 5 (-1) [] 99 = y5 := by decide +kernel
theorem st4 : takeE [s5] x5 3 5 (-1) [] 99 = 0 := by decide +kernel
theorem st5 : takeX [s5] y5 4 5 (-1) [] 99 = [] := by decide +kernel
theorem st6 : takeE [s5] y5 4 5 (-1) [] 99 = 251 := by decide +kernel
theorem sl1 : leaveX y5 7 5 (-1) = [⟨3, 5, -1⟩] := by decide +kernel
theorem sl2 : leaveE y5 7 5 (-1) = 0 := by decide +kernel
theorem sl3 : leaveX [] 3 5 (-1) = [] := by decide +kernel
theorem sl4 : leaveE [] 3 5 (-1) = 250 := by decide +kernel
theorem st7 : takeX [s5] x5 7 5 (-1) [] 99 = [] := by decide +kernel
theorem st8 : takeE [s5] x5 7 5 (-1) [] 99 = 250 := by decide +kernel
theorem sc1 : seatCheck [] [] = 0 := by decide +kernel
theorem sc2 : seatCheck [s5] x5 = 0 := by decide +kernel
theorem sc3 : seatCheck [] x5 = 250 := by decide +kernel
theorem sh1 : hasSeat y5 3 5 = true := by decide +kernel
theorem sh2 : hasSeat [] 3 5 = false := by decide +kernel
end Go.Proofs.YteonpdnncodkaaaGreatDoor

/- sane returns true: the walk. -/
set_option linter.unusedVariables false
set_option linter.unusedSimpArgs false
namespace Go.Proofs.YteonpdnncodkaaaGreatDoor
open Go.RowKit

structure SB (w W : World) : Prop where
  bel : Below w.heap.size w W
  b : Blk W (w.heap.size + 2) 25 #[.int .i64 5, .int .i64 (-1)]
  s : RSecs W (some ⟨w.heap.size + 1, 0, none⟩) [s5]
theorem SB.below {w W W' : World} (h : SB w W) (hb : Below W.heap.size W W') : SB w W' := ⟨bthen h.bel h.bel.size hb, h.b.kept hb h.b.lt, h.s.below hb⟩
theorem RGps.of1 {w : World} {b : Nat} {t : TypeId} {g : Gp} (h : Blk w b t #[.int .i64 g.g, .int .i64 g.s, .int .i64 g.u]) : RGps w (some ⟨b, 0, none⟩) [g] := by
  refine ⟨by simp, fun k hk => ?_⟩
  obtain rfl : k = 0 := by simpa using hk
  refine ⟨_, _, rfl, rfl, rfl, fun j hj => ?_⟩
  have hj' : j = 0 ∨ j = 1 ∨ j = 2 := by simp [gpC] at hj; omega
  rcases hj' with rfl | rfl | rfl <;> exact h.cell _ rfl
theorem RSecs.of1 {w : World} {b : Nat} {t : TypeId} {s : Sec} {A5 : Option Addr} {c5 : Nat} {A6 : Option Addr} {c6 : Nat} {A7 : Option Addr} {c7 : Nat} (h : Blk w b t #[.int .i64 s.id, .int .i64 s.course, .int .i64 s.term, .int .i64 s.campus, .int .i64 s.seats, .slice A5 s.meets.length c5, .slice A6 s.groups.length c6, .slice A7 s.labs.length c7, .bool s.lab]) (hi : SecIn w s A5 c5 A6 c6 A7 c7) : RSecs w (some ⟨b, 0, none⟩) [s] := by
  refine ⟨by simp, fun k hk => ?_⟩
  obtain rfl : k = 0 := by simpa using hk
  refine ⟨_, _, rfl, rfl, ⟨A5, c5, A6, c6, A7, c7, rfl, hi⟩, fun j hj => ?_⟩
  have hj' : j = 0 ∨ j = 1 ∨ j = 2 ∨ j = 3 ∨ j = 4 ∨ j = 5 ∨ j = 6 ∨ j = 7 ∨ j = 8 := by simp [secC] at hj; omega
  rcases hj' with rfl | rfl | rfl | rfl | rfl | rfl | rfl | rfl | rfl <;> exact h.cell _ rfl
theorem RSeats.take {w : World} {A : Option Addr} {l : List Seat} (h : RSeats w A l) (n : Nat) : RSeats w A (l.take n) :=
  ⟨Nat.le_trans (Nat.mul_le_mul_right _ (by simp [Nat.min_le_right])) h.1, fun k hk => by
    have hk' : k < l.length := by rw [List.length_take] at hk; omega
    obtain ⟨ad, cs, e, hl, hr, hc⟩ := h.2 k hk'
    exact ⟨ad, cs, e, hl, by rw [List.getElem_take]; exact hr, hc⟩⟩

set_option maxRecDepth 100000 in
set_option maxHeartbeats 8000000 in
theorem sane_c (w : World) (hG : Glob w) : Calls Tryz.prog 4 #[] w fun e w' => e = .returned (.bool true) ∧ Below w.heap.size w w' := by
  go_enter Tryz.func4, Tryz.ntmps4
  go_wp2_with fail
  have sb0 : SB w (((w.alloc (.cells #[.int .i64 2, .int .i64 2, .int .i64 100] 36)).alloc (.cells #[.int .i64 5, .int .i64 0, .int .i64 0, .int .i64 0, .int .i64 3, .slice none 0 0, .slice (some ⟨w.heap.size, 0, none⟩) 1 1, .slice none 0 0, .bool false] 40)).alloc (.cells #[.int .i64 5, .int .i64 (-1)] 25)) := by
    have kg : Blk (((w.alloc (.cells #[.int .i64 2, .int .i64 2, .int .i64 100] 36)).alloc (.cells #[.int .i64 5, .int .i64 0, .int .i64 0, .int .i64 0, .int .i64 3, .slice none 0 0, .slice (some ⟨w.heap.size, 0, none⟩) 1 1, .slice none 0 0, .bool false] 40)).alloc (.cells #[.int .i64 5, .int .i64 (-1)] 25)) w.heap.size 36 #[.int .i64 2, .int .i64 2, .int .i64 100] := ((Blk.mk' _ _ (by simp) _ _).alloc _).alloc _
    refine ⟨by go_grown, Blk.mk' _ _ (by simp) _ _, RSecs.of1 (s := s5) (A5 := none) (c5 := 0) (A6 := some ⟨w.heap.size, 0, none⟩) (c6 := 1) (A7 := none) (c7 := 0) ((Blk.mk' _ _ (by simp) _ _).alloc _) ⟨Rd.nil _ _ _ _, RGps.of1 (g := ⟨2, 2, 100⟩) kg, Rd.nil _ _ _ _, by decide, by decide, by decide⟩⟩
  refine (seatFree_c (some ⟨w.heap.size + 1, 0, none⟩) 1 [s5] none 0 [] 5 (-1) 99 _ (hG.below sb0.bel) sb0.s (Rd.nil _ _ _ _)).mono ?_
  rintro e w1 ⟨rfl, hb⟩
  rw [sv1, se1]
  have sb1 := sb0.below hb
  clear hb sb0
  go_wp2_with fail
  refine (seatFree_c (some ⟨w.heap.size + 1, 0, none⟩) 1 [s5] none 0 [] 5 2 99 _ (hG.below sb1.bel) sb1.s (Rd.nil _ _ _ _)).mono ?_
  rintro e w2 ⟨rfl, hb⟩
  rw [sv2, se2]
  have sb2 := sb1.below hb
  clear hb sb1
  go_wp2_with fail
  refine (seatFree_c (some ⟨w.heap.size + 1, 0, none⟩) 1 [s5] none 0 [] 5 (-1) 100 _ (hG.below sb2.bel) sb2.s (Rd.nil _ _ _ _)).mono ?_
  rintro e w3 ⟨rfl, hb⟩
  rw [sv3, se1]
  have sb3 := sb2.below hb
  clear hb sb2
  obtain ⟨b0, b1, _⟩ := sb3.b.c2
  go_wp2_with fail
  have sb3' := sb3.below (W' := w3.alloc (.cells #[.int .i64 2] 3)) (by go_grown)
  refine (take_c (some ⟨w.heap.size + 1, 0, none⟩) 1 [s5] none 0 [] 7 5 (-1) (some ⟨w3.heap.size, 0, none⟩) 1 [2] 99 _ (hG.below sb3'.bel) sb3'.s (Rd.nil _ _ _ _) (RInts.of1 (Blk.new w3 3 #[.int .i64 2])) (by decide)).mono ?_
  rintro e w4 ⟨⟨X, xc, rfl, xr, xl⟩, hb⟩
  rw [st1] at xr xl ⊢
  rw [st2]
  have sb4 := sb3'.below hb
  have XR4 := Lib.hid xr
  clear hb sb3 sb3' b0 b1 xr
  obtain ⟨b0, b1, _⟩ := sb4.b.c2
  go_wp2_with fail
  refine (take_c (some ⟨w.heap.size + 1, 0, none⟩) 1 [s5] X xc x5 3 5 (-1) none 0 [] 99 _ (hG.below sb4.bel) sb4.s XR4.out (Rd.nil _ _ _ _) (by decide)).mono ?_
  rintro e w5 ⟨⟨Y, yc, rfl, yr, yl⟩, hb⟩
  rw [st3] at yr yl ⊢
  rw [st4]
  have sb5 := sb4.below hb
  have XR5 := Lib.hid (XR4.out.below hb)
  have YR5 := Lib.hid yr
  clear hb sb4 b0 b1 yr XR4
  obtain ⟨b0, b1, _⟩ := sb5.b.c2
  go_wp2_with fail
  refine (take_c (some ⟨w.heap.size + 1, 0, none⟩) 1 [s5] Y yc y5 4 5 (-1) none 0 [] 99 _ (hG.below sb5.bel) sb5.s YR5.out (Rd.nil _ _ _ _) (by decide)).mono ?_
  rintro e w6 ⟨⟨D, dc, rfl, dr, dl⟩, hb⟩
  rw [st5, st6]
  have sb6 := sb5.below hb
  have XR6 := Lib.hid (XR5.out.below hb)
  have YR6 := Lib.hid (YR5.out.below hb)
  clear hb sb5 b0 b1 dr dl XR5 YR5
  obtain ⟨b0, b1, _⟩ := sb6.b.c2
  go_wp2_with fail
  refine (leave_c Y yc y5 7 5 (-1) _ YR6.out (by decide)).mono ?_
  rintro e w7 ⟨⟨Z, zc, rfl, zr, zl⟩, hb⟩
  rw [sl1] at zr
  rw [sl1, sl2]
  have sb7 := sb6.below hb
  have XR7 := Lib.hid (XR6.out.below hb)
  have YR7 := Lib.hid (YR6.out.below hb)
  have ZR7 := Lib.hid zr
  clear hb sb6 b0 b1 zr zl XR6 YR6
  go_wp2_with fail
  refine (seatFree_c none 0 [] none 0 [] 0 (-1) 0 _ (hG.below sb7.bel) (Rd.nil _ _ _ _) (Rd.nil _ _ _ _)).mono ?_
  rintro e w8 ⟨rfl, hb⟩
  rw [se4]
  have sb8 := sb7.below hb
  have XR8 := Lib.hid (XR7.out.below hb)
  have YR8 := Lib.hid (YR7.out.below hb)
  have ZR8 := Lib.hid (ZR7.out.below hb)
  clear hb sb7 XR7 YR7 ZR7
  go_wp2_with fail
  refine (seatFree_c none 0 [] none 0 [] 0 8 0 _ (hG.below sb8.bel) (Rd.nil _ _ _ _) (Rd.nil _ _ _ _)).mono ?_
  rintro e w9 ⟨rfl, hb⟩
  rw [se5]
  have sb9 := sb8.below hb
  have XR9 := Lib.hid (XR8.out.below hb)
  have YR9 := Lib.hid (YR8.out.below hb)
  have ZR9 := Lib.hid (ZR8.out.below hb)
  clear hb sb8 XR8 YR8 ZR8
  obtain ⟨b0, b1, _⟩ := sb9.b.c2
  go_wp2_with fail
  refine (leave_c none 0 [] 3 5 (-1) _ (Rd.nil _ _ _ _) (by decide)).mono ?_
  rintro e w10 ⟨⟨O, oc, rfl, odr, odl⟩, hb⟩
  rw [sl3, sl4]
  have sb10 := sb9.below hb
  have XR10 := Lib.hid (XR9.out.below hb)
  have YR10 := Lib.hid (YR9.out.below hb)
  have ZR10 := Lib.hid (ZR9.out.below hb)
  clear hb sb9 XR9 YR9 ZR9 b0 b1 odr odl
  obtain ⟨b0, b1, _⟩ := sb10.b.c2
  go_wp2_with fail
  refine (take_c (some ⟨w.heap.size + 1, 0, none⟩) 1 [s5] X xc x5 7 5 (-1) none 0 [] 99 _ (hG.below sb10.bel) sb10.s XR10.out (Rd.nil _ _ _ _) (by decide)).mono ?_
  rintro e w11 ⟨⟨P, pc, rfl, pr, pl⟩, hb⟩
  rw [st7, st8]
  have sb11 := sb10.below hb
  have XR11 := Lib.hid (XR10.out.below hb)
  have YR11 := Lib.hid (YR10.out.below hb)
  have ZR11 := Lib.hid (ZR10.out.below hb)
  clear hb sb10 XR10 YR10 ZR10 b0 b1 pr pl
  go_wp2_with fail
  have sb12 := sb11.below (W' := w11.alloc (.cells #[.int .i64 7, .int .i64 5, .int .i64 2] 44)) (by go_grown)
  refine (same25_c X xc x5 (some ⟨w11.heap.size, 0, none⟩) 1 x5 _ (XR11.out.below (w' := w11.alloc (.cells #[.int .i64 7, .int .i64 5, .int .i64 2] 44)) (by go_grown)) (RSeats.of_row (d := x5) (rest := []) (Blk.new w11 44 #[.int .i64 7, .int .i64 5, .int .i64 2]) (by decide))).mono ?_
  rintro e w12 ⟨rfl, hb⟩
  rw [show sameS x5 x5 = true by decide]
  have sb13 := sb12.below hb
  have YR12 := Lib.hid ((YR11.out.below (w' := w11.alloc (.cells #[.int .i64 7, .int .i64 5, .int .i64 2] 44)) (by go_grown)).below hb)
  have ZR12 := Lib.hid ((ZR11.out.below (w' := w11.alloc (.cells #[.int .i64 7, .int .i64 5, .int .i64 2] 44)) (by go_grown)).below hb)
  have XR12 := Lib.hid ((XR11.out.below (w' := w11.alloc (.cells #[.int .i64 7, .int .i64 5, .int .i64 2] 44)) (by go_grown)).below hb)
  clear hb sb11 sb12 XR11 YR11 ZR11
  go_wp2_with fail
  have sb14 := sb13.below (W' := w12.alloc (.cells #[.int .i64 3, .int .i64 5, .int .i64 (-1), .int .i64 7, .int .i64 5, .int .i64 2] 44)) (by go_grown)
  refine (same25_c Y yc y5 (some ⟨w12.heap.size, 0, none⟩) 2 y5 _ (YR12.out.below (w' := w12.alloc (.cells #[.int .i64 3, .int .i64 5, .int .i64 (-1), .int .i64 7, .int .i64 5, .int .i64 2] 44)) (by go_grown)) (RSeats.of_row (d := y5) (rest := []) (Blk.new w12 44 #[.int .i64 3, .int .i64 5, .int .i64 (-1), .int .i64 7, .int .i64 5, .int .i64 2]) (by decide))).mono ?_
  rintro e w13 ⟨rfl, hb⟩
  rw [show sameS y5 y5 = true by decide]
  have sb15 := sb14.below hb
  have YR13 := Lib.hid ((YR12.out.below (w' := w12.alloc (.cells #[.int .i64 3, .int .i64 5, .int .i64 (-1), .int .i64 7, .int .i64 5, .int .i64 2] 44)) (by go_grown)).below hb)
  have ZR13 := Lib.hid ((ZR12.out.below (w' := w12.alloc (.cells #[.int .i64 3, .int .i64 5, .int .i64 (-1), .int .i64 7, .int .i64 5, .int .i64 2] 44)) (by go_grown)).below hb)
  have XR13 := Lib.hid ((XR12.out.below (w' := w12.alloc (.cells #[.int .i64 3, .int .i64 5, .int .i64 (-1), .int .i64 7, .int .i64 5, .int .i64 2] 44)) (by go_grown)).below hb)
  clear hb sb13 sb14 XR12 YR12 ZR12
  have hy2 : y5.length = 2 := rfl
  rw [hy2] at yl
  obtain ⟨yd, hyd, _⟩ := YR13.out.at (Below.refl _ _) 0 (by decide)
  subst hyd
  have hyc : ¬ yc < 1 := by omega
  have hyc2 : (1 : Int) ≤ yc := by omega
  have hyc3 : 1 ≤ yc := by omega
  clear hy2
  go_wp2_with fail
  refine (same25_c Z zc [⟨3, 5, -1⟩] (some yd) yc [⟨3, 5, -1⟩] _ ZR13.out (YR13.out.take 1)).mono ?_
  rintro e w14 ⟨rfl, hb⟩
  rw [show sameS [⟨3, 5, -1⟩] [⟨3, 5, -1⟩] = true by decide]
  have sb16 := sb15.below hb
  have YR14 := Lib.hid (YR13.out.below hb)
  have XR14 := Lib.hid (XR13.out.below hb)
  clear hb sb15 XR13 YR13 ZR13
  go_wp2_with fail
  refine (has_c (some yd) yc y5 3 5 _ YR14.out).mono ?_
  rintro e w15 ⟨rfl, hb⟩
  rw [sh1]
  have sb17 := sb16.below hb
  have XR15 := Lib.hid (XR14.out.below hb)
  clear hb sb16 XR14 YR14
  go_wp2_with fail
  refine (has_c none 0 [] 3 5 _ (Rd.nil _ _ _ _)).mono ?_
  rintro e w16 ⟨rfl, hb⟩
  rw [sh2]
  have sb18 := sb17.below hb
  have XR16 := Lib.hid (XR15.out.below hb)
  clear hb sb17 XR15
  go_wp2_with fail
  refine (seatCheck_c none 0 [] none 0 [] _ (hG.below sb18.bel) (Rd.nil _ _ _ _) (Rd.nil _ _ _ _)).mono ?_
  rintro e w17 ⟨rfl, hb⟩
  rw [sc1]
  have sb19 := sb18.below hb
  have XR17 := Lib.hid (XR16.out.below hb)
  clear hb sb18 XR16
  go_wp2_with fail
  refine (seatCheck_c (some ⟨w.heap.size + 1, 0, none⟩) 1 [s5] X xc x5 _ (hG.below sb19.bel) sb19.s XR17.out).mono ?_
  rintro e w18 ⟨rfl, hb⟩
  rw [sc2]
  have sb20 := sb19.below hb
  have XR18 := Lib.hid (XR17.out.below hb)
  clear hb sb19 XR17
  go_wp2_with fail
  refine (seatCheck_c none 0 [] X xc x5 _ (hG.below sb20.bel) (Rd.nil _ _ _ _) XR18.out).mono ?_
  rintro e w19 ⟨rfl, hb⟩
  rw [sc3]
  have sb21 := sb20.below hb
  clear hb sb20 XR18
  go_wp2
  go_ret
  exact ⟨rfl, sb21.bel⟩
end Go.Proofs.YteonpdnncodkaaaGreatDoor
