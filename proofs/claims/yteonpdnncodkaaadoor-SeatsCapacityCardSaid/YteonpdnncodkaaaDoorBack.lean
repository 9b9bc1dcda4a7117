/- SeatsBack returns true: the walk. -/
import Derived.Test.YteonpdnncodkaaaDoorSane2
import Derived.Deep.RegionHeld3
set_option linter.unusedVariables false
set_option linter.unusedSimpArgs false
namespace Go.Proofs.YteonpdnncodkaaaDoor
open Go.RowKit

/-- The boxes of a bundle and of a step, ahead of all else. -/
structure BS (w W : World) (sec lab s0 s1 s2 now G : Int) (lv : Bool) : Prop where
  bel : Below w.heap.size w W
  b : Blk W w.heap.size 53 #[.int .i64 sec, .int .i64 lab]
  s : Blk W (w.heap.size + 1) 55 #[.int .i64 s0, .int .i64 s1, .int .i64 s2, .int .i64 now, .int .u8 G, .bool lv]
theorem BS.below {w W W' : World} {sec lab s0 s1 s2 now G : Int} {lv : Bool} (h : BS w W sec lab s0 s1 s2 now G lv) (hb : Below W.heap.size W W') : BS w W' sec lab s0 s1 s2 now G lv := ⟨bthen h.bel h.bel.size hb, h.b.kept hb h.b.lt, h.s.kept hb h.s.lt⟩

set_option maxRecDepth 100000 in
set_option maxHeartbeats 8000000 in
theorem back_c (A : Option Addr) (c : Nat) (l : List Sec) (B : Option Addr) (d : Nat) (T : List Seat) (stu sec lab s0 s1 s2 now G : Int) (lv : Bool) (w : World) (hG : Glob w) (h : RSecs w A l) (ht : RSeats w B T) (hG8 : 0 ≤ G ∧ G < 256) :
    Calls Tryd.prog 14 #[.slice A l.length c, .slice B T.length d, .int .i64 stu, .agg #[.int .i64 sec, .int .i64 lab], .agg #[.int .i64 s0, .int .i64 s1, .int .i64 s2, .int .i64 now, .int .u8 G, .bool lv]] w fun e w' => e = .returned (.bool true) ∧ Below w.heap.size w w' := by
  have hTl := ht.len
  have H := Lib.hid h
  have HT := Lib.hid ht
  clear h ht
  go_enter Tryd.func14, Tryd.ntmps14
  go_wp2_with fail
  have bs0 : BS w ((w.alloc (.cells #[.int .i64 sec, .int .i64 lab] 53)).alloc (.cells #[.int .i64 s0, .int .i64 s1, .int .i64 s2, .int .i64 now, .int .u8 G, .bool lv] 55)) sec lab s0 s1 s2 now G lv := ⟨by go_grown, (Blk.mk' _ _ (by simp) _ _).alloc _, Blk.mk' _ _ (by simp) _ _⟩
  refine (sane_c _ (hG.below bs0.bel)).mono ?_
  rintro e w1 ⟨rfl, hb1⟩
  have bs1 := bs0.below hb1
  clear hb1 bs0
  go_wp2_with fail
  refine (few25_c A c l B d T _ (H.out.below bs1.bel) hTl).mono ?_
  rintro e w2 ⟨rfl, rfl⟩
  cases hfew : few25 l T
  · go_wp2
    go_ret
    exact ⟨rfl, bs1.bel⟩
  have hfw := few25_true hfew
  obtain ⟨hfw1, hfw2⟩ := hfw
  clear hfew
  obtain ⟨b0, b1, _⟩ := bs1.b.c2
  obtain ⟨q0, q1, q2, q3, q4, q5, _⟩ := bs1.s.c6
  go_wp2_with fail
  go_region_held3 (fun w' => w'.cell? ⟨w.heap.size, 0, none⟩ = some (.int .i64 sec) ∧ w'.cell? ⟨w.heap.size, 1, none⟩ = some (.int .i64 lab) ∧ w'.cell? ⟨w.heap.size + 1, 0, none⟩ = some (.int .i64 s0) ∧ w'.cell? ⟨w.heap.size + 1, 1, none⟩ = some (.int .i64 s1) ∧ w'.cell? ⟨w.heap.size + 1, 2, none⟩ = some (.int .i64 s2) ∧ w'.cell? ⟨w.heap.size + 1, 3, none⟩ = some (.int .i64 now) ∧ w'.cell? ⟨w.heap.size + 1, 4, none⟩ = some (.int .u8 G) ∧ w'.cell? ⟨w.heap.size + 1, 5, none⟩ = some (.bool lv))
    (first | go_keep | (exact ⟨cell_kept hb2 (cell_kept hb1 b0), cell_kept hb2 (cell_kept hb1 b1), cell_kept hb2 (cell_kept hb1 q0), cell_kept hb2 (cell_kept hb1 q1), cell_kept hb2 (cell_kept hb1 q2), cell_kept hb2 (cell_kept hb1 q3), cell_kept hb2 (cell_kept hb1 q4), cell_kept hb2 (cell_kept hb1 q5)⟩) | (exact ⟨cell_kept hb1 b0, cell_kept hb1 b1, cell_kept hb1 q0, cell_kept hb1 q1, cell_kept hb1 q2, cell_kept hb1 q3, cell_kept hb1 q4, cell_kept hb1 q5⟩))
    (first
      | (go_at_call 36; refine (groups_c s0 s1 s2 now G lv _ hG8).mono ?_; rintro e wg ⟨⟨Ag, cg, rfl, hrg⟩, hb1⟩)
      | (go_at_call 35; refine (take_c A c l B d T stu sec lab Ag cg (bitsG G) now _ (hG.below (bthen bs1.bel bs1.bel.size ((Below.refl w1.heap.size w1).drew.trans hb1))) (H.out.below (bthen bs1.bel bs1.bel.size ((Below.refl w1.heap.size w1).drew.trans hb1))) ((HT.out.below bs1.bel).below ((Below.refl w1.heap.size w1).drew.trans hb1)) hrg (by omega)).mono ?_; rintro e w4 ⟨⟨X, Xc, rfl, Xr, Xl⟩, hb2⟩))
  have bsw4 := (bs1.below ((Below.refl w1.heap.size w1).drew.trans hb1)).below hb2
  have hWw4 : Hid (Below w1.heap.size w1 w4) := bthen ((Below.refl w1.heap.size w1).drew.trans hb1) (Below.size ((Below.refl w1.heap.size w1).drew.trans hb1)) hb2
  have XR := Lib.hid Xr
  clear hb1 hb2 hrg Xr b0 b1 q0 q1 q2 q3 q4 q5
  have HT4 := Lib.hid ((HT.out.below bs1.bel).below hWw4.out)
  by_cases hE : takeE l T stu sec lab (bitsG G) now = 0
  case neg =>
    have d0 : (takeE l T stu sec lab (bitsG G) now != 0) = true := by simp [hE]
    rw [takeX_err hE]
    clear hE
    go_wp2
    go_ret
    exact ⟨rfl, bsw4.bel⟩
  have HE := Lib.hid hE
  have hto := take_ok hE
  obtain ⟨XS, hXS⟩ : ∃ XS, XS = takeX l T stu sec lab (bitsG G) now := ⟨_, rfl⟩
  have HXS := Lib.hid hXS
  rw [← hXS] at hto XR Xl
  rw [← hXS, hE]
  have HTO := Lib.hid hto
  have hxlen : XS.length ≤ 42 := by have := takeX_length l T stu sec lab (bitsG G) now; rw [← hXS] at this; omega
  clear hXS hto hE
  obtain ⟨b0, b1, _⟩ := bsw4.b.c2
  go_wp2_with fail
  refine (leave_c X Xc XS stu sec lab _ XR.out (by omega)).mono ?_
  rintro e w5 ⟨⟨Y, yc, rfl, yr, yl⟩, hb5⟩
  have l1 := HTO.out.leave
  rw [l1.2.1] at yr yl
  rw [l1.1, l1.2.1]
  have YR := Lib.hid yr
  have bs5 := bsw4.below hb5
  have XR5 := Lib.hid (XR.out.below hb5)
  have HT5 := Lib.hid (HT4.out.below hb5)
  clear hb5 l1 yr yl b0 b1
  obtain ⟨b0, b1, _⟩ := bs5.b.c2
  obtain ⟨q0, q1, q2, q3, q4, q5, _⟩ := bs5.s.c6
  go_wp2_with fail
  go_region_held3 (fun w' => w'.cell? ⟨w.heap.size, 0, none⟩ = some (.int .i64 sec) ∧ w'.cell? ⟨w.heap.size, 1, none⟩ = some (.int .i64 lab) ∧ w'.cell? ⟨w.heap.size + 1, 0, none⟩ = some (.int .i64 s0) ∧ w'.cell? ⟨w.heap.size + 1, 1, none⟩ = some (.int .i64 s1) ∧ w'.cell? ⟨w.heap.size + 1, 2, none⟩ = some (.int .i64 s2) ∧ w'.cell? ⟨w.heap.size + 1, 3, none⟩ = some (.int .i64 now) ∧ w'.cell? ⟨w.heap.size + 1, 4, none⟩ = some (.int .u8 G) ∧ w'.cell? ⟨w.heap.size + 1, 5, none⟩ = some (.bool lv))
    (first | go_keep | (exact ⟨cell_kept hb2 (cell_kept hb1 b0), cell_kept hb2 (cell_kept hb1 b1), cell_kept hb2 (cell_kept hb1 q0), cell_kept hb2 (cell_kept hb1 q1), cell_kept hb2 (cell_kept hb1 q2), cell_kept hb2 (cell_kept hb1 q3), cell_kept hb2 (cell_kept hb1 q4), cell_kept hb2 (cell_kept hb1 q5)⟩) | (exact ⟨cell_kept hb1 b0, cell_kept hb1 b1, cell_kept hb1 q0, cell_kept hb1 q1, cell_kept hb1 q2, cell_kept hb1 q3, cell_kept hb1 q4, cell_kept hb1 q5⟩))
    (first
      | (go_at_call 36; refine (groups_c s0 s1 s2 now G lv _ hG8).mono ?_; rintro e wg ⟨⟨Ag, cg, rfl, hrg⟩, hb1⟩)
      | (go_at_call 35; refine (take_c A c l Y yc T stu sec lab Ag cg (bitsG G) now _ (hG.below (bthen bs5.bel bs5.bel.size ((Below.refl w5.heap.size w5).drew.trans hb1))) (H.out.below (bthen bs5.bel bs5.bel.size ((Below.refl w5.heap.size w5).drew.trans hb1))) (YR.out.below ((Below.refl w5.heap.size w5).drew.trans hb1)) hrg (by omega)).mono ?_; rintro e w6 ⟨⟨Z, Zc, rfl, Zr, Zl⟩, hb2⟩))
  have bsw6 := (bs5.below ((Below.refl w5.heap.size w5).drew.trans hb1)).below hb2
  have hWw6 : Hid (Below w5.heap.size w5 w6) := bthen ((Below.refl w5.heap.size w5).drew.trans hb1) (Below.size ((Below.refl w5.heap.size w5).drew.trans hb1)) hb2
  have ZR := Lib.hid Zr
  clear hb1 hb2 hrg Zr b0 b1 q0 q1 q2 q3 q4 q5
  rw [← HXS.out] at ZR
  rw [← HXS.out, HE.out]
  have YR6 := Lib.hid (YR.out.below hWw6.out)
  have XR6 := Lib.hid (XR5.out.below hWw6.out)
  have HT6 := Lib.hid (HT5.out.below hWw6.out)
  obtain ⟨b0, b1, _⟩ := bsw6.b.c2
  clear Zl
  go_wp2_with fail
  refine (leave_c Y yc T stu sec lab _ YR6.out (by omega)).mono ?_
  rintro e w7 ⟨⟨D, dc, rfl, dr, dl⟩, hb7⟩
  rw [HTO.out.leave.2.2]
  have bs7 := bsw6.below hb7
  have YR7 := Lib.hid (YR6.out.below hb7)
  have XR7 := Lib.hid (XR6.out.below hb7)
  have ZR7 := Lib.hid (ZR.out.below hb7)
  have HT7 := Lib.hid (HT6.out.below hb7)
  clear hb7 dr dl b0 b1
  obtain ⟨b0, b1, _⟩ := bs7.b.c2
  obtain ⟨q0, q1, q2, q3, q4, q5, _⟩ := bs7.s.c6
  go_wp2_with fail
  go_region_held3 (fun w' => w'.cell? ⟨w.heap.size, 0, none⟩ = some (.int .i64 sec) ∧ w'.cell? ⟨w.heap.size, 1, none⟩ = some (.int .i64 lab) ∧ w'.cell? ⟨w.heap.size + 1, 0, none⟩ = some (.int .i64 s0) ∧ w'.cell? ⟨w.heap.size + 1, 1, none⟩ = some (.int .i64 s1) ∧ w'.cell? ⟨w.heap.size + 1, 2, none⟩ = some (.int .i64 s2) ∧ w'.cell? ⟨w.heap.size + 1, 3, none⟩ = some (.int .i64 now) ∧ w'.cell? ⟨w.heap.size + 1, 4, none⟩ = some (.int .u8 G) ∧ w'.cell? ⟨w.heap.size + 1, 5, none⟩ = some (.bool lv))
    (first | go_keep | (exact ⟨cell_kept hb2 (cell_kept hb1 b0), cell_kept hb2 (cell_kept hb1 b1), cell_kept hb2 (cell_kept hb1 q0), cell_kept hb2 (cell_kept hb1 q1), cell_kept hb2 (cell_kept hb1 q2), cell_kept hb2 (cell_kept hb1 q3), cell_kept hb2 (cell_kept hb1 q4), cell_kept hb2 (cell_kept hb1 q5)⟩) | (exact ⟨cell_kept hb1 b0, cell_kept hb1 b1, cell_kept hb1 q0, cell_kept hb1 q1, cell_kept hb1 q2, cell_kept hb1 q3, cell_kept hb1 q4, cell_kept hb1 q5⟩))
    (first
      | (go_at_call 36; refine (groups_c s0 s1 s2 now G lv _ hG8).mono ?_; rintro e wg ⟨⟨Ag, cg, rfl, hrg⟩, hb1⟩)
      | (go_at_call 35; refine (take_c A c l X Xc XS stu sec lab Ag cg (bitsG G) now _ (hG.below (bthen bs7.bel bs7.bel.size ((Below.refl w7.heap.size w7).drew.trans hb1))) (H.out.below (bthen bs7.bel bs7.bel.size ((Below.refl w7.heap.size w7).drew.trans hb1))) (XR7.out.below ((Below.refl w7.heap.size w7).drew.trans hb1)) hrg (by omega)).mono ?_; rintro e w8 ⟨⟨F, Fc, rfl, Fr, Fl⟩, hb2⟩))
  have bsw8 := (bs7.below ((Below.refl w7.heap.size w7).drew.trans hb1)).below hb2
  have hWw8 : Hid (Below w7.heap.size w7 w8) := bthen ((Below.refl w7.heap.size w7).drew.trans hb1) (Below.size ((Below.refl w7.heap.size w7).drew.trans hb1)) hb2
  have FR := Lib.hid Fr
  clear hb1 hb2 hrg Fr b0 b1 q0 q1 q2 q3 q4 q5
  rw [HTO.out.takeAgain]
  have YR8 := Lib.hid (YR7.out.below hWw8.out)
  have XR8 := Lib.hid (XR7.out.below hWw8.out)
  have ZR8 := Lib.hid (ZR7.out.below hWw8.out)
  have HT8 := Lib.hid (HT7.out.below hWw8.out)
  go_wp2_with fail
  refine (same25_c Y yc T B d T _ YR8.out HT8.out).mono ?_
  rintro e w9 ⟨rfl, hb9⟩
  rw [show sameS T T = true from decide_eq_true rfl]
  have bs9 := bsw8.below hb9
  have ZR9 := Lib.hid (ZR8.out.below hb9)
  have XR9 := Lib.hid (XR8.out.below hb9)
  clear hb9
  go_wp2_with fail
  refine (same25_c Z Zc XS X Xc XS _ ZR9.out XR9.out).mono ?_
  rintro e w10 ⟨rfl, hb10⟩
  rw [show sameS XS XS = true from decide_eq_true rfl]
  have bs10 := bs9.below hb10
  clear hb10
  go_wp2
  go_ret
  exact ⟨rfl, bs10.bel⟩
end Go.Proofs.YteonpdnncodkaaaDoor
