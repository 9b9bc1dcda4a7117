/- SeatsCapacity returns true: the walk. -/
import Derived.Test.YteonpdnncodkaaaDoorBack
import Derived.Deep.DeepCutAuto
set_option linter.unusedVariables false
set_option linter.unusedSimpArgs false
namespace Go.Proofs.YteonpdnncodkaaaDoor
open Go.RowKit

/-- A step. -/
structure Stp where
  (stu sec lab now G : Int)
  lv : Bool
  deriving Inhabited
def stpC (s : Stp) : List Value := [.int .i64 s.stu, .int .i64 s.sec, .int .i64 s.lab, .int .i64 s.now, .int .u8 s.G, .bool s.lv]
def StpR (_ : World) (s : Stp) (cs : List Value) : Prop := cs = stpC s ∧ 0 ≤ s.G ∧ s.G < 256
def RSteps (w : World) (A : Option Addr) (l : List Stp) : Prop := Rd 6 StpR w A l
theorem RSteps.len {w : World} {A : Option Addr} {l : List Stp} (h : RSteps w A l) : l.length ≤ 140737488355328 := Rd.len h (by omega)
theorem RSteps.below {w w' : World} {A : Option Addr} {l : List Stp} (h : RSteps w A l) (hb : Below w.heap.size w w') : RSteps w' A l := Rd.below (fun _ _ _ _ _ h => h) h hb
theorem RSteps.at {w W : World} {A : Option Addr} {l : List Stp} (h : RSteps w A l) (hb : Below w.heap.size w W) (k : Nat) (hk : k < l.length) : ∃ ad, A = some ad ∧ (0 ≤ l[k].G ∧ l[k].G < 256) ∧ W.cell? (ad.add (k * 6)) = some (.int .i64 l[k].stu) ∧ W.cell? ⟨(ad.add (k * 6)).block, (ad.add (k * 6)).off + 1, none⟩ = some (.int .i64 l[k].sec) ∧
    W.cell? ⟨(ad.add (k * 6)).block, (ad.add (k * 6)).off + 2, none⟩ = some (.int .i64 l[k].lab) ∧ W.cell? ⟨(ad.add (k * 6)).block, (ad.add (k * 6)).off + 3, none⟩ = some (.int .i64 l[k].now) ∧ W.cell? ⟨(ad.add (k * 6)).block, (ad.add (k * 6)).off + 4, none⟩ = some (.int .u8 l[k].G) ∧ W.cell? ⟨(ad.add (k * 6)).block, (ad.add (k * 6)).off + 5, none⟩ = some (.bool l[k].lv) := by
  obtain ⟨ad, cs, e, _, ⟨rfl, hg⟩, hc0⟩ := h.2 k hk
  have hc := fun j hj => cell_kept hb (hc0 j hj)
  exact ⟨ad, e, hg, hc 0 (by simp [stpC]), hc 1 (by simp [stpC]), hc 2 (by simp [stpC]), hc 3 (by simp [stpC]), hc 4 (by simp [stpC]), hc 5 (by simp [stpC])⟩

/-- The boxes of a round. -/
structure CB (wr W : World) (s : Stp) : Prop where
  bel : Below wr.heap.size wr W
  st : Blk W wr.heap.size 55 #[.int .i64 s.stu, .int .i64 s.sec, .int .i64 s.lab, .int .i64 s.now, .int .u8 s.G, .bool s.lv]
  b : Blk W (wr.heap.size + 1) 53 #[.int .i64 s.sec, .int .i64 s.lab]
theorem CB.below {wr W W' : World} {s : Stp} (h : CB wr W s) (hb : Below W.heap.size W W') : CB wr W' s := ⟨bthen h.bel h.bel.size hb, h.st.kept hb h.st.lt, h.b.kept hb h.b.lt⟩
/-- What a step has come to. -/
def Came (l : List Sec) (T X : List Seat) (s : Stp) (E : Int) (want : Bool) : Prop := (E ≠ 0 ∧ X = []) ∨ (E = 0 ∧ Stepped l T X s.stu s.sec s.lab want)

theorem came_take {l : List Sec} {T : List Seat} {stu sec lab now G : Int} {lv : Bool} {groups : List Int} : Came l T (takeX l T stu sec lab groups now) ⟨stu, sec, lab, now, G, lv⟩ (takeE l T stu sec lab groups now) true := by
  by_cases h : takeE l T stu sec lab groups now = 0
  · exact .inr ⟨h, (take_ok h).stepped⟩
  · exact .inl ⟨h, takeX_err h⟩
theorem came_leave {l : List Sec} {T : List Seat} (hc : seatCheck l T = 0) {stu sec lab now G : Int} {lv : Bool} : Came l T (leaveX T stu sec lab) ⟨stu, sec, lab, now, G, lv⟩ (leaveE T stu sec lab) false := by
  by_cases h : leaveE T stu sec lab = 0
  · exact .inr ⟨h, left_ok hc h⟩
  · exact .inl ⟨h, if_pos h⟩
theorem Came.len {l : List Sec} {T X : List Seat} {s : Stp} {E : Int} {want : Bool} (h : Came l T X s E want) : X.length ≤ T.length + 2 := by
  rcases h with ⟨_, rfl⟩ | ⟨_, h⟩
  · simp
  · have := h.len
    split at this <;> split at this <;> omega
/-- By how much the list grows. -/
def growN (want : Bool) (sec lab : Int) : Int := if want = true then (if 0 ≤ lab ∧ lab ≠ sec then 2 else 1) else -(if 0 ≤ lab ∧ lab ≠ sec then 2 else 1)
theorem growN_bound (want : Bool) (sec lab : Int) : -2 ≤ growN want sec lab ∧ growN want sec lab ≤ 2 := by
  unfold growN
  split <;> split <;> omega
theorem Stepped.grow {l : List Sec} {T X : List Seat} {stu sec lab : Int} {want : Bool} (h : Stepped l T X stu sec lab want) : (X.length : Int) = T.length + growN want sec lab := by
  rw [h.len]
  unfold growN
  cases want <;> simp <;> split <;> omega

theorem capacity' {l : List Sec} {X : List Seat} (hc : seatCheck l X = 0) {s : Sec} (hs : s ∈ l) : cntS X s.id (-2) ≤ s.seats ∧ ∀ x ∈ s.groups, cntS X s.id x.g ≤ x.s := by
  obtain ⟨h1, h2⟩ := capacity hc hs
  refine ⟨by rw [cntS_all]; exact h1, fun x hx => ?_⟩
  have hF := formed_of (seatCheck_zero hc).1 hs
  have hb := hF.2.2.2.2.2.1.1.1 x hx
  simp only at hb
  rw [cntS_grp _ _ _ (by omega)]
  exact h2 x hx

set_option maxRecDepth 100000 in
set_option maxHeartbeats 8000000 in
theorem cap_c (A : Option Addr) (c : Nat) (l : List Sec) (B : Option Addr) (d : Nat) (ss : List Stp) (w : World) (hG : Glob w) (h : RSecs w A l) (ht : RSteps w B ss) :
    Calls Tryd.prog 12 #[.slice A l.length c, .slice B ss.length d] w fun e w' => e = .returned (.bool true) ∧ Below w.heap.size w w' := by
  have hsl := ht.len
  have H := Lib.hid h
  have HT := Lib.hid ht
  clear h ht
  go_enter Tryd.func12, Tryd.ntmps12
  go_wp2_with fail
  refine (sane_c _ hG).mono ?_
  rintro e w1 ⟨rfl, hb1⟩
  have HB1 := Lib.hid hb1
  clear hb1
  go_wp2_with fail
  refine (few25_c A c l none 0 [] _ (H.out.below HB1.out) (by simp)).mono ?_
  rintro e w2 ⟨rfl, rfl⟩
  cases hfew : few25 l []
  · go_wp2
    go_ret
    exact ⟨rfl, HB1.out⟩
  have hl8 := (few25_true hfew).1
  clear hfew
  by_cases hs20 : ss.length ≤ 20
  case neg =>
    have hs21 : 20 < ss.length := by omega
    clear hs20
    go_wp2
    go_ret
    exact ⟨rfl, HB1.out⟩
  go_wp2_with fail
  refine (seatCheck_c A c l none 0 [] _ (hG.below HB1.out) (H.out.below HB1.out) (Rd.nil _ _ _ _)).mono ?_
  rintro e w2 ⟨rfl, hb2⟩
  have HB2 := Lib.hid (bthen HB1.out HB1.out.size hb2)
  clear hb2 HB1
  by_cases hc : seatCheck l [] = 0
  case neg =>
    have d0 : (seatCheck l [] != 0) = true := by simp [hc]
    clear hc
    go_wp2
    go_ret
    exact ⟨rfl, HB2.out⟩
  have HC := Lib.hid hc
  rw [hc]
  clear hc
  go_wp2
  go_loopg [5, 37] ss.length (fun n v i wr => ∃ (k : Nat) (V : Option Addr) (dv : Nat) (T : List Seat), n + k = ss.length ∧ i = .int .i64 k ∧ v = .slice V T.length dv ∧ T.length ≤ 2 * k ∧ Hid (seatCheck l T = 0) ∧ Hid (RSeats wr V T) ∧ Hid (Below w2.heap.size w2 wr))
  case atStart => exact ⟨0, none, 0, [], by omega, rfl, rfl, by simp, HC, Lib.hid (Rd.nil _ _ _ _), Below.refl _ _⟩
  case round =>
    obtain ⟨k, V, dv, T, hk, rfl, rfl, hT2, hcT, hrT, hB⟩ := hrel
    have HBW : Hid (Below w.heap.size w wr) := bthen HB2.out HB2.out.size hB.out
    by_cases hlt : k < ss.length
    case neg =>
      obtain rfl : k = ss.length := by omega
      go_wp2
      go_ret
      exact ⟨rfl, HBW.out⟩
    obtain ⟨ad, eA, ⟨hG0, hG1⟩, f0, f1, f2, f3, f4, f5⟩ := HT.out.at HBW.out k hlt
    subst eA
    obtain ⟨s, hs⟩ : ∃ s, s = ss[k] := ⟨_, rfl⟩
    rw [← hs] at hG0 hG1 f0 f1 f2 f3 f4 f5
    clear hs
    obtain ⟨stu, sec, lab, now, G, lv⟩ := s
    simp only at hG0 hG1 f0 f1 f2 f3 f4 f5
    go_wp2_with fail
    have cb1 : CB wr ((wr.alloc (.cells #[.int .i64 stu, .int .i64 sec, .int .i64 lab, .int .i64 now, .int .u8 G, .bool lv] 55)).alloc (.cells #[.int .i64 sec, .int .i64 lab] 53)) ⟨stu, sec, lab, now, G, lv⟩ := ⟨by go_grown, (Blk.mk' _ _ (by simp) _ _).alloc _, Blk.mk' _ _ (by simp) _ _⟩
    refine (has_c V dv T stu sec _ (hrT.out.below cb1.bel)).mono ?_
    rintro e w3 ⟨rfl, hb3⟩
    have cb3 := cb1.below hb3
    clear hb3 cb1 f0 f1 f2 f3 f4 f5
    obtain ⟨q0, q1, q2, q3, q4, q5, _⟩ := cb3.st.c6
    obtain ⟨b0, b1, _⟩ := cb3.b.c2
    go_wp2_with fail
    go_region_held3 (fun w' => w'.cell? ⟨wr.heap.size + 1, 0, none⟩ = some (.int .i64 sec) ∧ w'.cell? ⟨wr.heap.size + 1, 1, none⟩ = some (.int .i64 lab) ∧ w'.cell? ⟨wr.heap.size, 0, none⟩ = some (.int .i64 stu) ∧ w'.cell? ⟨wr.heap.size, 1, none⟩ = some (.int .i64 sec) ∧ w'.cell? ⟨wr.heap.size, 2, none⟩ = some (.int .i64 lab) ∧ w'.cell? ⟨wr.heap.size, 3, none⟩ = some (.int .i64 now) ∧ w'.cell? ⟨wr.heap.size, 4, none⟩ = some (.int .u8 G) ∧ w'.cell? ⟨wr.heap.size, 5, none⟩ = some (.bool lv))
      (first | go_keep | (exact ⟨cell_kept hb2 (cell_kept hb1 b0), cell_kept hb2 (cell_kept hb1 b1), cell_kept hb2 (cell_kept hb1 q0), cell_kept hb2 (cell_kept hb1 q1), cell_kept hb2 (cell_kept hb1 q2), cell_kept hb2 (cell_kept hb1 q3), cell_kept hb2 (cell_kept hb1 q4), cell_kept hb2 (cell_kept hb1 q5)⟩) | (exact ⟨cell_kept hb1 b0, cell_kept hb1 b1, cell_kept hb1 q0, cell_kept hb1 q1, cell_kept hb1 q2, cell_kept hb1 q3, cell_kept hb1 q4, cell_kept hb1 q5⟩))
      (first
        | (go_at_call 36; refine (groups_c stu sec lab now G lv _ ⟨hG0, hG1⟩).mono ?_; rintro e wg ⟨⟨Ag, cg, rfl, hrg⟩, hb1⟩)
        | (go_at_call 35; refine (take_c A c l V dv T stu sec lab Ag cg (bitsG G) now _ (hG.below (bthen HBW.out HBW.out.size (bthen cb3.bel cb3.bel.size ((Below.refl w3.heap.size w3).drew.trans hb1)))) (H.out.below (bthen HBW.out HBW.out.size (bthen cb3.bel cb3.bel.size ((Below.refl w3.heap.size w3).drew.trans hb1)))) (hrT.out.below (bthen cb3.bel cb3.bel.size ((Below.refl w3.heap.size w3).drew.trans hb1))) hrg (by omega)).mono ?_; rintro e w4 ⟨⟨X, Xc, rfl, Xr, Xl⟩, hb2⟩))
    have cb4 := (cb3.below ((Below.refl w3.heap.size w3).drew.trans hb1)).below hb2
    have XR := Lib.hid Xr
    clear hb1 hb2 hrg Xr b0 b1 q0 q1 q2 q3 q4 q5
    obtain ⟨q0, q1, q2, q3, q4, q5, _⟩ := cb4.st.c6
    obtain ⟨b0, b1, _⟩ := cb4.b.c2
    go_upto_if 66 with (fail)
    have hcT' : Hid (seatCheck l T = 0) := hcT
    go_cut [10, 11, 12] (fun s10 s11 s12 wx => ∃ (Xa : Option Addr) (Xc : Nat) (X : List Seat) (E : Int) (want : Bool), s10 = .slice Xa X.length Xc ∧ s11 = .int .i64 E ∧ s12 = .bool want ∧ Hid (Came l T X ⟨stu, sec, lab, now, G, lv⟩ E want) ∧ Hid (RSeats wx Xa X) ∧ CB wr wx ⟨stu, sec, lab, now, G, lv⟩)
    case first => as_aux_lemma =>
      cases lv
      · go_wp2_with fail
        go_meet
        exact ⟨X, Xc, _, _, true, rfl, rfl, rfl, came_take, XR, cb4⟩
      · go_wp2_with fail
        refine (leave_c V dv T stu sec lab _ (hrT.out.below cb4.bel) (by omega)).mono ?_
        rintro e w5 ⟨⟨Y, yc, rfl, yr, yl⟩, hb5⟩
        have cb5 := cb4.below hb5
        go_wp2_with fail
        go_meet
        exact ⟨Y, yc, _, _, false, rfl, rfl, rfl, came_leave hcT.out, yr, cb5⟩
    case rest => as_aux_lemma =>
      clear cb4 XR q0 q1 q2 q3 q4 q5 b0 b1 cb3
      obtain ⟨Xa, xc, XS, E, want, rfl, rfl, rfl, hCame, hXR, cb5⟩ := hcut
      have hXl := hCame.out.len
      obtain ⟨q0, q1, q2, q3, q4, q5, _⟩ := cb5.st.c6
      obtain ⟨b0, b1, _⟩ := cb5.b.c2
      by_cases hE : E = 0
      case neg =>
        have hX0 : XS = [] := by
          rcases hCame.out with ⟨_, h⟩ | ⟨h, _⟩
          · exact h
          · exact absurd h hE
        have d0 : (E != 0) = true := by simp [hE]
        subst hX0
        have hB5 : Hid (Below w2.heap.size w2 wc) := bthen hB.out hB.out.size cb5.bel
        have hrT5 : Hid (RSeats wc V T) := hrT.out.below cb5.bel
        clear hE hCame hXR
        go_wp2
        go_roundg (gk - 1)
        case measure => omega
        case rel => exact ⟨k + 1, V, dv, T, by omega, by go_num, rfl, by omega, hcT, hrT5, hB5⟩
      subst hE
      have hS : Stepped l T XS stu sec lab want := by
        rcases hCame.out with ⟨h, _⟩ | ⟨_, h⟩
        · exact absurd rfl h
        · exact h
      have HS := Lib.hid hS
      clear hS hCame
      obtain ⟨q, hq⟩ : ∃ q, q = decide (0 ≤ lab ∧ lab ≠ sec) := ⟨_, rfl⟩
      have HQ := Lib.hid hq
      clear hq
      go_upto_region 20 with (fail)
      go_cut [89] (fun s89 wx => s89 = .bool q ∧ wc = wx)
      case first => as_aux_lemma =>
        by_cases h1 : 0 ≤ lab
        · by_cases h2 : lab = sec
          · have d1 : (lab != sec) = false := by simp [h2]
            have e1 : q = false := by rw [HQ.out]; exact decide_eq_false (fun h => h.2 h2)
            subst e1
            clear h2
            go_wp2_with fail
            go_meet
            exact ⟨rfl, rfl⟩
          · have d1 : (lab != sec) = true := by rw [bne_iff_ne]; exact h2
            have e1 : q = true := by rw [HQ.out]; exact decide_eq_true ⟨h1, h2⟩
            subst e1
            clear h2
            go_wp2_with fail
            go_meet
            exact ⟨rfl, rfl⟩
        · have e1 : q = false := by rw [HQ.out]; exact decide_eq_false (fun h => h1 h.1)
          have d1 : lab < 0 := by omega
          subst e1
          go_wp2_with fail
          go_meet
          exact ⟨rfl, rfl⟩
      case rest => as_aux_lemma =>
        obtain ⟨rfl, rfl⟩ := hcut
        go_upto_if 89 with (fail)
        go_cut [13] (fun s13 wx => s13 = .int .i64 (if q = true then 2 else 1) ∧ wc = wx)
        case first => as_aux_lemma =>
          cases q
          all_goals
            go_wp2_with fail
            go_meet
            exact ⟨rfl, rfl⟩
        case rest => as_aux_lemma =>
          obtain ⟨rfl, rfl⟩ := hcut
          go_upto_if 91 with (fail)
          obtain ⟨N, hN⟩ : ∃ N, N = growN want sec lab := ⟨_, rfl⟩
          have HN := Lib.hid hN
          have hNb := growN_bound want sec lab
          rw [← hN] at hNb
          obtain ⟨hNb1, hNb2⟩ := hNb
          have hgr := HS.out.grow
          rw [← hN] at hgr
          have HGR := Lib.hid hgr
          clear hN hgr
          go_cut [13] (fun s13 wx => s13 = .int .i64 N ∧ wc = wx)
          case first => as_aux_lemma =>
            cases want
            · have e1 : N = -(if q = true then 2 else 1) := by rw [HN.out, HQ.out]; unfold growN; simp
              cases q
              · have e2 : N = -1 := by simpa using e1
                subst e2
                clear e1
                go_wp2_with fail
                go_meet
                exact ⟨rfl, rfl⟩
              · have e2 : N = -2 := by simpa using e1
                subst e2
                clear e1
                go_wp2_with fail
                go_meet
                exact ⟨rfl, rfl⟩
            · have e1 : N = if q = true then 2 else 1 := by rw [HN.out, HQ.out]; unfold growN; simp
              cases q
              · have e2 : N = 1 := by simpa using e1
                subst e2
                clear e1
                go_wp2_with fail
                go_meet
                exact ⟨rfl, rfl⟩
              · have e2 : N = 2 := by simpa using e1
                subst e2
                clear e1
                go_wp2_with fail
                go_meet
                exact ⟨rfl, rfl⟩
          case rest => as_aux_lemma =>
            obtain ⟨rfl, rfl⟩ := hcut
            go_upto_region 24 with (fail)
            have hhad := HS.out.had
            have HHAD := Lib.hid hhad
            clear hhad
            rw [HHAD.out]
            go_cut [136] (fun s136 wx => s136 = .bool false ∧ CB wr wx ⟨stu, sec, lab, now, G, lv⟩ ∧ Hid (Below wc.heap.size wc wx))
            case first => as_aux_lemma =>
              have hwr : IntKind.i64.wrap ((T.length : Int) + N) = (T.length : Int) + N := wrapi (by omega) (by omega)
              have d1 : ((XS.length : Int) != (T.length : Int) + N) = false := by rw [HGR.out]; simp
              have d2 : ((!want) == want) = false := by cases want <;> rfl
              have d3 : (want != want) = false := by simp
              obtain ⟨q0, q1, q2, q3, q4, q5, _⟩ := cb5.st.c6
              obtain ⟨b0, b1, _⟩ := cb5.b.c2
              have hXl2 : XS.length ≤ 140737488355328 := by omega
              go_wp2_with fail
              refine (has_c Xa xc XS stu sec _ hXR.out).mono ?_
              rintro e w7 ⟨rfl, hb7⟩
              rw [HS.out.has1]
              have cb7 := cb5.below hb7
              have hXR7 := Lib.hid (hXR.out.below hb7)
              have hB7 := Lib.hid hb7
              clear hb7 q0 q1 q2 q3 q4 q5 b0 b1 d1 hwr
              obtain ⟨q0, q1, q2, q3, q4, q5, _⟩ := cb7.st.c6
              obtain ⟨b0, b1, _⟩ := cb7.b.c2
              by_cases h1 : 0 ≤ lab
              · go_wp2_with fail
                refine (has_c Xa xc XS stu lab _ hXR7.out).mono ?_
                rintro e w8 ⟨rfl, hb8⟩
                rw [HS.out.has2 h1]
                have cb8 := cb7.below hb8
                have hXR8 := Lib.hid (hXR7.out.below hb8)
                have hB8 := Lib.hid (bthen hB7.out hB7.out.size hb8)
                clear hb8 q0 q1 q2 q3 q4 q5 b0 b1
                go_wp2_with fail
                refine (seatCheck_c A c l Xa xc XS _ (hG.below (bthen HBW.out HBW.out.size cb8.bel)) (H.out.below (bthen HBW.out HBW.out.size cb8.bel)) hXR8.out).mono ?_
                rintro e w9 ⟨rfl, hb9⟩
                rw [HS.out.check]
                have cb9 := cb8.below hb9
                have hB9 := Lib.hid (bthen hB8.out hB8.out.size hb9)
                clear hb9
                go_wp2_with fail
                go_meet
                exact ⟨rfl, cb9, hB9⟩
              · have h1' : lab < 0 := by omega
                go_wp2_with fail
                refine (seatCheck_c A c l Xa xc XS _ (hG.below (bthen HBW.out HBW.out.size cb7.bel)) (H.out.below (bthen HBW.out HBW.out.size cb7.bel)) hXR7.out).mono ?_
                rintro e w9 ⟨rfl, hb9⟩
                rw [HS.out.check]
                have cb9 := cb7.below hb9
                have hB9 := Lib.hid (bthen hB7.out hB7.out.size hb9)
                clear hb9
                go_wp2_with fail
                go_meet
                exact ⟨rfl, cb9, hB9⟩
            case rest => as_aux_lemma =>
              obtain ⟨rfl, cb6, hB6⟩ := hcut
              obtain ⟨n1, rfl⟩ : ∃ n1, n1 = gk := ⟨_, rfl⟩
              obtain ⟨wo, rfl⟩ : ∃ wo, wo = wr := ⟨_, rfl⟩
              have hXR6 := Lib.hid (hXR.out.below hB6.out)
              have hcX := Lib.hid HS.out.check
              clear cb5 hXR hB6 q0 q1 q2 q3 q4 q5 b0 b1 HGR HN HQ HHAD
              go_wp2
              go_loopg [139] XS.length (fun n i wx => ∃ j : Nat, n + j = XS.length ∧ i = .int .i64 j ∧ CB wo wx ⟨stu, sec, lab, now, G, lv⟩ ∧ Hid (RSeats wx Xa XS))
              case atStart => exact ⟨0, by omega, rfl, cb6, hXR6⟩
              case round =>
                clear cb6 hXR6
                obtain ⟨j, hj, rfl, cb6, hXR6⟩ := hrel
                obtain ⟨wx, rfl⟩ : ∃ wx, wx = wr := ⟨_, rfl⟩
                by_cases hjt : j < XS.length
                · as_aux_lemma =>
                  obtain ⟨ax, eX, x0, x1, x2⟩ := hXR6.out.at (Below.refl _ _) j hjt
                  subst eX
                  obtain ⟨y, hy⟩ : ∃ y, y = XS[j] := ⟨_, rfl⟩
                  have HY : Hid (¬ (y.stu = stu ∧ (y.sec = sec ∨ y.sec = lab)) → hasSeat T y.stu y.sec = true) := by rw [hy]; exact HS.out.rest _ (List.getElem_mem hjt)
                  rw [← hy] at x0 x1 x2
                  clear hy
                  obtain ⟨ys, yc, yg⟩ := y
                  simp only at x0 x1 x2
                  have W1 : Below wx.heap.size wx (wx.alloc (.cells #[.int .i64 ys, .int .i64 yc, .int .i64 yg] 60)) := by go_grown
                  have cb7 := cb6.below W1
                  have hXR7 := Lib.hid (hXR6.out.below W1)
                  clear W1
                  obtain ⟨q0, q1, q2, q3, q4, q5, _⟩ := cb6.st.c6
                  obtain ⟨b0, b1, _⟩ := cb6.b.c2
                  have hl1 := cb6.st.lt
                  have hl2 := cb6.b.lt
                  by_cases hown : ys = stu ∧ (yc = sec ∨ yc = lab)
                  · obtain ⟨rfl, h2⟩ := hown
                    clear HY
                    by_cases h3 : yc = sec
                    · subst h3
                      clear h2
                      go_wp2
                      go_roundg (gk - 1)
                      case measure => omega
                      case rel => exact ⟨j + 1, by omega, by go_num, cb7, hXR7⟩
                    · obtain rfl : yc = lab := by omega
                      have d1 : (yc == sec) = false := by simp [h3]
                      clear h2 h3
                      go_wp2
                      go_roundg (gk - 1)
                      case measure => omega
                      case rel => exact ⟨j + 1, by omega, by go_num, cb7, hXR7⟩
                  · have hhas := Lib.hid (HY.out hown)
                    simp only at hhas
                    by_cases h1 : ys = stu
                    · have h2 : yc ≠ sec := fun h => hown ⟨h1, .inl h⟩
                      have h3 : yc ≠ lab := fun h => hown ⟨h1, .inr h⟩
                      have d1 : (yc == sec) = false := by simp [h2]
                      have d2 : (yc == lab) = false := by simp [h3]
                      subst h1
                      clear h2 h3 hown HY
                      go_wp2_with fail
                      refine (has_c V dv T ys yc _ (hrT.out.below cb7.bel)).mono ?_
                      rintro e w8 ⟨rfl, hb8⟩
                      rw [hhas.out]
                      have cb8 := cb7.below hb8
                      have hXR8 := Lib.hid (hXR7.out.below hb8)
                      clear hb8 cb7 hXR7 cb6 hXR6 q0 q1 q2 q3 q4 q5 b0 b1 x0 x1 x2
                      go_wp2
                      go_roundg (gk - 1)
                      case measure => omega
                      case rel => exact ⟨j + 1, by omega, by go_num, cb8, hXR8⟩
                    · have d1 : (ys == stu) = false := by simp [h1]
                      clear h1 hown HY
                      go_wp2_with fail
                      refine (has_c V dv T ys yc _ (hrT.out.below cb7.bel)).mono ?_
                      rintro e w8 ⟨rfl, hb8⟩
                      rw [hhas.out]
                      have cb8 := cb7.below hb8
                      have hXR8 := Lib.hid (hXR7.out.below hb8)
                      clear hb8 cb7 hXR7 cb6 hXR6 q0 q1 q2 q3 q4 q5 b0 b1 x0 x1 x2
                      go_wp2
                      go_roundg (gk - 1)
                      case measure => omega
                      case rel => exact ⟨j + 1, by omega, by go_num, cb8, hXR8⟩
                · as_aux_lemma =>
                  obtain rfl : j = XS.length := by omega
                  clear hjt hj HS
                  go_wp2
                  go_loopg [173] l.length (fun n i wz => ∃ m : Nat, n + m = l.length ∧ i = .int .i64 m ∧ CB wo wz ⟨stu, sec, lab, now, G, lv⟩ ∧ Hid (RSeats wz Xa XS))
                  case atStart => exact ⟨0, by omega, rfl, cb6, hXR6⟩
                  case round =>
                    clear cb6 hXR6
                    obtain ⟨m, hm, rfl, cb6, hXR6⟩ := hrel
                    obtain ⟨n3, rfl⟩ : ∃ n3, n3 = gk := ⟨_, rfl⟩
                    obtain ⟨wy, rfl⟩ : ∃ wy, wy = wr := ⟨_, rfl⟩
                    by_cases hmt : m < l.length
                    · as_aux_lemma =>
                      obtain ⟨al, A5, c5, A6, c6, A7, c7, eA, hsi, f0, f1, f2, f3, f4, f5, f6, f7, f8⟩ := H.out.at (bthen HBW.out HBW.out.size cb6.bel) m hmt
                      subst eA
                      have HSI := Lib.hid (hsi.below (bthen HBW.out HBW.out.size cb6.bel))
                      clear hsi
                      have hcap := capacity' hcX.out (List.getElem_mem hmt)
                      obtain ⟨s, hs⟩ : ∃ s, s = l[m] := ⟨_, rfl⟩
                      rw [← hs] at f0 f1 f2 f3 f4 f5 f6 f7 f8 HSI hcap
                      clear hs
                      obtain ⟨hcap1, hcap2⟩ := hcap
                      have HCAP := Lib.hid hcap2
                      have hcb := cntS_bound XS s.id (-2)
                      obtain ⟨hcb0, hcb1⟩ := hcb
                      obtain ⟨ct, hct⟩ : ∃ ct, ct = cntS XS s.id (-2) := ⟨_, rfl⟩
                      rw [← hct] at hcap1 hcb0 hcb1
                      have W1 : Below wy.heap.size wy (wy.alloc (.cells #[.int .i64 s.id, .int .i64 s.course, .int .i64 s.term, .int .i64 s.campus, .int .i64 s.seats, .slice A5 s.meets.length c5, .slice A6 s.groups.length c6, .slice A7 s.labs.length c7, .bool s.lab] 27)) := by go_grown
                      have cb7 := cb6.below W1
                      have hXR7 := Lib.hid (hXR6.out.below W1)
                      have HSI7 := Lib.hid (HSI.out.below W1)
                      have ky7 := Blk.new wy 27 #[.int .i64 s.id, .int .i64 s.course, .int .i64 s.term, .int .i64 s.campus, .int .i64 s.seats, .slice A5 s.meets.length c5, .slice A6 s.groups.length c6, .slice A7 s.labs.length c7, .bool s.lab]
                      clear W1 cb6 hXR6 HSI hcap2
                      go_wp2_with fail
                      refine region_below (by kernel_rfl) (by kernel_rfl) (fun ι hι f hf hg => ?_)
                      have HFN := Lib.hid hf
                      have HGN := Lib.hid hg
                      have k0 : ∀ n, (f n).cell? ⟨wy.heap.size, 0, none⟩ = some (.int .i64 s.id) := fun n => (ky7.kept (hf n) ky7.lt).cell 0 rfl
                      have k4 : ∀ n, (f n).cell? ⟨wy.heap.size, 4, none⟩ = some (.int .i64 s.seats) := fun n => (ky7.kept (hf n) ky7.lt).cell 4 rfl
                      have HCT : Hid (∀ n, Calls Tryd.prog 34 #[.slice Xa XS.length xc, .int .i64 s.id, .int .i64 (-2)] (f n) fun e w' => e = .returned (.int .i64 ct) ∧ Below (f n).heap.size (f n) w') := fun n => by rw [hct]; exact count25_c Xa xc XS s.id (-2) (f n) (hXR7.out.below (hf n))
                      clear hf hg hct f0 f1 f2 f3 f4 f5 f6 f7 f8
                      repeat go_big_quiet_step ((refine (HCT.out _).mono ?_; rintro e w8 ⟨rfl, hb8⟩; exact ⟨rfl, HGN.out _ _ hb8⟩))
                      refine wpQuiet_nil ?_
                      rintro _ ⟨n, rfl⟩
                      have cb8 := cb7.below (HFN.out n)
                      have hXR8 := Lib.hid (hXR7.out.below (HFN.out n))
                      have HSI8 := Lib.hid (HSI7.out.below (HFN.out n))
                      have ky8 := ky7.kept (HFN.out n) ky7.lt
                      clear k0 k4 HCT ky7 cb7 hXR7 HSI7 HFN HGN
                      generalize f n = w8 at *
                      obtain ⟨b0, b1, b2, b3, b4, b5, b6, b7, b8, bf⟩ := ky8.c9
                      go_wp2
                      go_loopg [187] s.groups.length (fun n i wz => ∃ q : Nat, n + q = s.groups.length ∧ i = .int .i64 q ∧ CB wo wz ⟨stu, sec, lab, now, G, lv⟩ ∧ Hid (RSeats wz Xa XS) ∧ Blk wz wy.heap.size 27 #[.int .i64 s.id, .int .i64 s.course, .int .i64 s.term, .int .i64 s.campus, .int .i64 s.seats, .slice A5 s.meets.length c5, .slice A6 s.groups.length c6, .slice A7 s.labs.length c7, .bool s.lab] ∧ Hid (SecIn wz s A5 c5 A6 c6 A7 c7))
                      case atStart => exact ⟨0, by omega, rfl, cb8, hXR8, ky8, HSI8⟩
                      case round =>
                        clear cb8 hXR8 ky8 HSI8 b0 b1 b2 b3 b4 b5 b6 b7 b8 bf
                        obtain ⟨q, hq, rfl, cb8, hXR8, ky8, HSI8⟩ := hrel
                        obtain ⟨wz, rfl⟩ : ∃ wz, wz = wr := ⟨_, rfl⟩
                        by_cases hqt : q < s.groups.length
                        · as_aux_lemma =>
                          obtain ⟨ag, eG, g0, g1, g2⟩ := HSI8.out.g.at (Below.refl _ _) q hqt
                          subst eG
                          have hgl := HSI8.out.g.len
                          have hcg := HCAP.out _ (List.getElem_mem hqt)
                          obtain ⟨x, hx⟩ : ∃ x, x = s.groups[q] := ⟨_, rfl⟩
                          rw [← hx] at g0 g1 g2 hcg
                          clear hx
                          obtain ⟨xg, xs, xu⟩ := x
                          simp only at g0 g1 g2 hcg
                          have hcb := cntS_bound XS s.id xg
                          obtain ⟨hcb2, hcb3⟩ := hcb
                          obtain ⟨cg, hcgE⟩ : ∃ cg, cg = cntS XS s.id xg := ⟨_, rfl⟩
                          rw [← hcgE] at hcg hcb2 hcb3
                          have W1 : Below wz.heap.size wz (wz.alloc (.cells #[.int .i64 xg, .int .i64 xs, .int .i64 xu] 42)) := by go_grown
                          have cb9 := cb8.below W1
                          have hXR9 := Lib.hid (hXR8.out.below W1)
                          have HSI9 := Lib.hid (HSI8.out.below W1)
                          have ky9 := ky8.kept W1 ky8.lt
                          have kg9 := Blk.new wz 42 #[.int .i64 xg, .int .i64 xs, .int .i64 xu]
                          clear W1 cb8 hXR8 HSI8 ky8
                          go_wp2_with fail
                          refine region_below (by kernel_rfl) (by kernel_rfl) (fun ι hι f hf hg => ?_)
                          have HFN := Lib.hid hf
                          have HGN := Lib.hid hg
                          have k0 : ∀ n, (f n).cell? ⟨wy.heap.size, 0, none⟩ = some (.int .i64 s.id) := fun n => (ky9.kept (hf n) ky9.lt).cell 0 rfl
                          have k4 : ∀ n, (f n).cell? ⟨wz.heap.size, 0, none⟩ = some (.int .i64 xg) := fun n => (kg9.kept (hf n) kg9.lt).cell 0 rfl
                          have k5 : ∀ n, (f n).cell? ⟨wz.heap.size, 1, none⟩ = some (.int .i64 xs) := fun n => (kg9.kept (hf n) kg9.lt).cell 1 rfl
                          have HCT : Hid (∀ n, Calls Tryd.prog 34 #[.slice Xa XS.length xc, .int .i64 s.id, .int .i64 xg] (f n) fun e w' => e = .returned (.int .i64 cg) ∧ Below (f n).heap.size (f n) w') := fun n => by rw [hcgE]; exact count25_c Xa xc XS s.id xg (f n) (hXR9.out.below (hf n))
                          clear hf hg hcgE g0 g1 g2
                          repeat go_big_quiet_step ((refine (HCT.out _).mono ?_; rintro e w9 ⟨rfl, hb9⟩; exact ⟨rfl, HGN.out _ _ hb9⟩))
                          refine wpQuiet_nil ?_
                          rintro _ ⟨n, rfl⟩
                          have cb10 := cb9.below (HFN.out n)
                          have hXR10 := Lib.hid (hXR9.out.below (HFN.out n))
                          have HSI10 := Lib.hid (HSI9.out.below (HFN.out n))
                          have ky10 := ky9.kept (HFN.out n) ky9.lt
                          clear k0 k4 k5 HCT ky9 cb9 hXR9 HSI9 HFN HGN
                          generalize f n = w9 at *
                          go_wp2
                          go_roundg (gk - 1)
                          case measure => omega
                          case rel => exact ⟨q + 1, by omega, by go_num, cb10, hXR10, ky10, HSI10⟩
                        · as_aux_lemma =>
                          obtain rfl : q = s.groups.length := by omega
                          clear hqt hq
                          go_wp2
                          go_roundg (n3 - 1)
                          case measure => omega
                          case rel => exact ⟨m + 1, by omega, by go_num, cb8, hXR8⟩
                    · as_aux_lemma =>
                      obtain rfl : m = l.length := by omega
                      clear hmt hm
                      go_wp2
                      go_roundg (n1 - 1)
                      case measure => omega
                      case rel => exact ⟨k + 1, Xa, xc, XS, by omega, by go_num, rfl, by omega, hcX, hXR6, bthen hB.out hB.out.size cb6.bel⟩
end Go.Proofs.YteonpdnncodkaaaDoor
