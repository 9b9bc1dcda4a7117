/- SeatsOthers returns true: the walk. -/
import Derived.Test.YteonpdnncodkaaaDoorBack
set_option linter.unusedVariables false
set_option linter.unusedSimpArgs false
namespace Go.Proofs.YteonpdnncodkaaaDoor
open Go.RowKit

/-- A seat of the student in one of the bundle's sections, as the law asks. -/
def own2 (stu sec lab : Int) (y : Seat) : Bool := y.stu == stu && (y.sec == sec || y.sec == lab)
theorem own2_false {stu sec lab : Int} {y : Seat} (h : own2 stu sec lab y = false) : (y.stu == stu) = false ∨ ((y.stu == stu) = true ∧ (y.sec == sec) = false ∧ (y.sec == lab) = false) := by
  unfold own2 at h
  cases h1 : y.stu == stu
  · exact .inl rfl
  · rw [h1, Bool.true_and, Bool.or_eq_false_iff] at h
    exact .inr ⟨rfl, h⟩
theorem own2_true {stu sec lab : Int} {y : Seat} (h : own2 stu sec lab y = true) : ((y.stu == stu) = true ∧ (y.sec == sec) = true) ∨ ((y.stu == stu) = true ∧ (y.sec == sec) = false ∧ (y.sec == lab) = true) := by
  unfold own2 at h
  rw [Bool.and_eq_true, Bool.or_eq_true] at h
  cases h2 : y.sec == sec
  · rw [h2] at h; exact .inr ⟨h.1, rfl, by simpa using h.2⟩
  · exact .inl ⟨h.1, rfl⟩
theorem sec_nonneg {l : List Sec} {X : List Seat} (hc : seatCheck l X = 0) : ∀ y ∈ X, 0 ≤ y.sec := by
  obtain ⟨h0, hv⟩ := seatCheck_zero hc
  intro y hy
  have := (hv.1 y hy).2
  cases e : find l y.sec with
  | none => rw [e] at this; cases this
  | some s =>
    obtain ⟨hm, hi⟩ := find_mem e
    have := wi_true.1 (formed_of h0 hm).1
    omega
theorem own2_eq {l : List Sec} {X : List Seat} (hc : seatCheck l X = 0) {stu sec lab : Int} : ∀ y ∈ X, own2 stu sec lab y = ownS stu sec lab y := by
  intro y hy
  have h0 := sec_nonneg hc y hy
  rw [Bool.eq_iff_iff, ownS_iff]
  unfold own2
  simp only [Bool.and_eq_true, Bool.or_eq_true, beq_iff_eq]
  omega
theorem Took.rest2 {l : List Sec} {T X : List Seat} {stu sec lab : Int} {groups : List Int} {now : Int} (h : Took l T stu sec lab groups now X) : X.filter (fun y => !own2 stu sec lab y) = T ∧ ((X.countP (own2 stu sec lab) : Nat) : Int) = X.length - T.length := by
  have e : X.filter (fun y => !own2 stu sec lab y) = T := by
    rw [← h.rest]
    exact List.filter_congr (fun y hy => by rw [own2_eq h.checkX y hy])
  refine ⟨e, ?_⟩
  have k2 := List.length_eq_countP_add_countP (own2 stu sec lab) (l := X)
  have k3 : X.countP (fun a => decide ¬own2 stu sec lab a = true) = (X.filter fun s => !own2 stu sec lab s).length := by
    rw [List.countP_eq_length_filter]
    congr 2
    funext a
    cases own2 stu sec lab a <;> rfl
  rw [k3, e] at k2
  omega

set_option maxRecDepth 100000 in
set_option maxHeartbeats 8000000 in
theorem others_c (A : Option Addr) (c : Nat) (l : List Sec) (B : Option Addr) (d : Nat) (T : List Seat) (stu sec lab s0 s1 s2 now G : Int) (lv : Bool) (w : World) (hG : Glob w) (h : RSecs w A l) (ht : RSeats w B T) (hG8 : 0 ≤ G ∧ G < 256) :
    Calls Tryd.prog 7 #[.slice A l.length c, .slice B T.length d, .int .i64 stu, .agg #[.int .i64 sec, .int .i64 lab], .agg #[.int .i64 s0, .int .i64 s1, .int .i64 s2, .int .i64 now, .int .u8 G, .bool lv]] w fun e w' => e = .returned (.bool true) ∧ Below w.heap.size w w' := by
  obtain ⟨i0, hi, hz0, hz1, hz2⟩ := seatInfo
  have hTl := ht.len
  have H := Lib.hid h
  have HT := Lib.hid ht
  clear h ht
  go_enter Tryd.func7, Tryd.ntmps7
  go_wp2_with fail
  have bs0 : BS w ((w.alloc (.cells #[.int .i64 sec, .int .i64 lab] 53)).alloc (.cells #[.int .i64 s0, .int .i64 s1, .int .i64 s2, .int .i64 now, .int .u8 G, .bool lv] 55)) sec lab s0 s1 s2 now G lv := ⟨by go_grown, (Blk.mk' _ _ (by simp) _ _).alloc _, Blk.mk' _ _ (by simp) _ _⟩
  refine (sane_c _ (hG.below bs0.bel)).mono ?_
  rintro e w1 ⟨rfl, hb1⟩
  have bs1 := bs0.below hb1
  clear hb1 bs0
  go_wp2_with fail
  refine (few25_c A c l B d T _ (H.out.below bs1.bel) hTl).mono ?_
  rintro e w2 ⟨rfl, rfl⟩
  cases hfew : few25 l T
  · go_wp2
    go_ret
    exact ⟨rfl, bs1.bel⟩
  have hfw := few25_true hfew
  obtain ⟨hfw1, hfw2⟩ := hfw
  clear hfew
  obtain ⟨b0, b1, _⟩ := bs1.b.c2
  obtain ⟨q0, q1, q2, q3, q4, q5, _⟩ := bs1.s.c6
  go_wp2_with fail
  go_region_held3 (fun w' => w'.cell? ⟨w.heap.size, 0, none⟩ = some (.int .i64 sec) ∧ w'.cell? ⟨w.heap.size, 1, none⟩ = some (.int .i64 lab) ∧ w'.cell? ⟨w.heap.size + 1, 0, none⟩ = some (.int .i64 s0) ∧ w'.cell? ⟨w.heap.size + 1, 1, none⟩ = some (.int .i64 s1) ∧ w'.cell? ⟨w.heap.size + 1, 2, none⟩ = some (.int .i64 s2) ∧ w'.cell? ⟨w.heap.size + 1, 3, none⟩ = some (.int .i64 now) ∧ w'.cell? ⟨w.heap.size + 1, 4, none⟩ = some (.int .u8 G) ∧ w'.cell? ⟨w.heap.size + 1, 5, none⟩ = some (.bool lv))
    (first | go_keep | (exact ⟨cell_kept hb2 (cell_kept hb1 b0), cell_kept hb2 (cell_kept hb1 b1), cell_kept hb2 (cell_kept hb1 q0), cell_kept hb2 (cell_kept hb1 q1), cell_kept hb2 (cell_kept hb1 q2), cell_kept hb2 (cell_kept hb1 q3), cell_kept hb2 (cell_kept hb1 q4), cell_kept hb2 (cell_kept hb1 q5)⟩) | (exact ⟨cell_kept hb1 b0, cell_kept hb1 b1, cell_kept hb1 q0, cell_kept hb1 q1, cell_kept hb1 q2, cell_kept hb1 q3, cell_kept hb1 q4, cell_kept hb1 q5⟩))
    (first
      | (go_at_call 36; refine (groups_c s0 s1 s2 now G lv _ hG8).mono ?_; rintro e wg ⟨⟨Ag, cg, rfl, hrg⟩, hb1⟩)
      | (go_at_call 35; refine (take_c A c l B d T stu sec lab Ag cg (bitsG G) now _ (hG.below (bthen bs1.bel bs1.bel.size ((Below.refl w1.heap.size w1).drew.trans hb1))) (H.out.below (bthen bs1.bel bs1.bel.size ((Below.refl w1.heap.size w1).drew.trans hb1))) ((HT.out.below bs1.bel).below ((Below.refl w1.heap.size w1).drew.trans hb1)) hrg (by omega)).mono ?_; rintro e w4 ⟨⟨X, Xc, rfl, Xr, Xl⟩, hb2⟩))
  have bsw4 := (bs1.below ((Below.refl w1.heap.size w1).drew.trans hb1)).below hb2
  have hWw4 : Hid (Below w1.heap.size w1 w4) := bthen ((Below.refl w1.heap.size w1).drew.trans hb1) (Below.size ((Below.refl w1.heap.size w1).drew.trans hb1)) hb2
  have XR := Lib.hid Xr
  clear hb1 hb2 hrg Xr b0 b1 q0 q1 q2 q3 q4 q5
  have HT4 := Lib.hid ((HT.out.below bs1.bel).below hWw4.out)
  by_cases hE : takeE l T stu sec lab (bitsG G) now = 0
  case neg =>
    have d0 : (takeE l T stu sec lab (bitsG G) now != 0) = true := by simp [hE]
    rw [takeX_err hE]
    clear hE
    go_wp2
    go_ret
    exact ⟨rfl, bsw4.bel⟩
  have hto := take_ok hE
  have hxlen : (takeX l T stu sec lab (bitsG G) now).length ≤ 42 := by have := takeX_length l T stu sec lab (bitsG G) now; omega
  obtain ⟨XA, hXA⟩ : ∃ XA, XA = X := ⟨_, rfl⟩
  subst hXA
  rw [hE]
  clear hE
  generalize takeX l T stu sec lab (bitsG G) now = X at *
  have HTO := Lib.hid hto
  clear hto
  go_wp2
  go_loopg [13, 14, 39] X.length (fun n u v i wr => ∃ k : Nat, n + k = X.length ∧ i = .int .i64 k ∧ v = .int .i64 ((X.take k).countP (own2 stu sec lab) : Nat) ∧ Hid (OwnS w4.heap.size wr u ((X.take k).filter fun x => !own2 stu sec lab x)) ∧ Hid (Below w4.heap.size w4 wr))
  case atStart => exact ⟨0, by omega, rfl, rfl, ⟨rfl, .inl ⟨rfl, rfl⟩⟩, Below.refl _ _⟩
  case round =>
    obtain ⟨k, hk, rfl, rfl, ho, hB⟩ := hrel
    by_cases hlt : k < X.length
    · obtain ⟨ad, eA, f0, f1, f2⟩ := XR.out.at hB.out k hlt
      subst eA
      obtain ⟨y, hy⟩ : ∃ y, y = X[k] := ⟨_, rfl⟩
      rw [← hy] at f0 f1 f2
      have HY := Lib.hid hy
      clear hy
      have kW := Blk.new wr 60 #[.int .i64 y.stu, .int .i64 y.sec, .int .i64 y.grp]
      have hBW : Hid (Below w4.heap.size w4 (wr.alloc (.cells #[.int .i64 y.stu, .int .i64 y.sec, .int .i64 y.grp] 60))) := hB.out.alloc hB.out.size _
      have hoW : Hid (OwnS w4.heap.size (wr.alloc (.cells #[.int .i64 y.stu, .int .i64 y.sec, .int .i64 y.grp] 60)) u13 ((X.take k).filter fun x => !own2 stu sec lab x)) := ho.out.below (by go_grown)
      have hsrt := (seatCheck_zero HTO.out.checkX).2.2.1
      by_cases hk0 : k = 0
      · subst hk0
        rw [show ad.add (0 * 3) = ad by simp [Addr.add]] at f0 f1 f2
        go_wp2_with fail
        obtain ⟨W, hW⟩ : ∃ W, W = wr.alloc (.cells #[.int .i64 y.stu, .int .i64 y.sec, .int .i64 y.grp] 60) := ⟨_, rfl⟩
        rw [← hW] at kW hBW hoW
        obtain ⟨z0, z1, z2, _⟩ := kW.c3
        rw [← hW]
        clear hW hsrt
        go_quiet (fail)
        (
 obtain ⟨W2, hW2⟩ : ∃ W2, W2 = W.drewN nq := ⟨_, rfl⟩
 have k2 : Blk W2 wr.heap.size 60 #[.int .i64 y.stu, .int .i64 y.sec, .int .i64 y.grp] := by rw [hW2]; exact kW.drewN _
 have hB2 : Hid (Below w4.heap.size w4 W2) := by unfold Hid; rw [hW2]; exact bdrewN hBW.out _
 have ho2 : Hid (OwnS w4.heap.size W2 u13 ((X.take (0)).filter fun x => !own2 stu sec lab x)) := by unfold Hid; rw [hW2]; exact hoW.out.below (bdrewN (Below.refl _ W) _)
 rw [← hW2]
 clear hW2 f0 f1 f2
 obtain ⟨y0, y1, y2, _⟩ := k2.c3
 obtain ⟨b0, b1, _⟩ := (bsw4.below hB2.out).b.c2
 have hbs := k2.lt
 have hb4s := hB2.out.size
 cases hown : own2 stu sec lab y
 · have fin : Hid ((X.take (0 + 1)).countP (own2 stu sec lab) = (X.take (0)).countP (own2 stu sec lab)) := by unfold Hid; rw [List.take_succ_eq_append_getElem hlt, List.countP_append, ← HY.out]; simp [hown]
   have fin2 : Hid ((X.take (0 + 1)).filter (fun x => !own2 stu sec lab x) = (X.take (0)).filter (fun x => !own2 stu sec lab x) ++ [y]) := by unfold Hid; rw [List.take_succ_eq_append_getElem hlt, List.filter_append, ← HY.out]; simp [hown]
   have hlf : ((X.take (0)).filter fun x => !own2 stu sec lab x).length ≤ 42 := by
     have h1 := List.length_filter_le (fun x => !own2 stu sec lab x) (X.take (0))
     have h2 : (X.take (0)).length ≤ X.length := by rw [List.length_take]; omega
     omega
   have hno := own2_false hown
   clear hown
   have hO3 : Hid (World.ownsRow W2 w4.heap.size 60 3 u13 ((X.take (0)).filter fun x => !own2 stu sec lab x).length (cellsS ((X.take (0)).filter fun x => !own2 stu sec lab x))) := ho2.out
   rcases hno with h1 | ⟨h1, h2, h3⟩
   all_goals
     go_wp2_with (at_builtin; refine wpList_append_own _ rfl _ _ 45 rfl w4.heap.size 60 i0 (.agg #[.int .i64 0, .int .i64 0, .int .i64 0]) 3 24 Tryd.underlying45 hi hz0 hz1 hz2 rfl (by decide) _ _ _ rfl (hO3.out.alloc _) ⟨W2.heap.size, 0, none⟩ 1 1 (stC y) rfl rfl ((Blk.new W2 60 #[.int .i64 y.stu, .int .i64 y.sec, .int .i64 y.grp]).cells3) (stC_one y) (by unfold maxLen; omega) (by omega) (by simp; omega) ?_)
     all_goals
       intro v' w9 hown hgrow hnil
       have ho4 : Hid (OwnS w4.heap.size w9 v' ((X.take (0 + 1)).filter fun x => !own2 stu sec lab x)) := by
         unfold Hid OwnS
         rw [fin2.out, cellsS_append, List.length_append]
         exact hown
       have hB4 : Hid (Below w4.heap.size w4 w9) := (hB2.out.alloc hB2.out.size (.cells #[.int .i64 y.stu, .int .i64 y.sec, .int .i64 y.grp] 60)).grown hgrow (by simp; omega) (fun j e => (World.ownsRow.lt ho2.out _ e).1)
       clear hown hgrow hnil y0 y1 y2 b0 b1
       go_wp2
       go_roundg (gk - 1)
       case measure => omega
       case rel => exact ⟨0 + 1, by omega, by go_num, by rw [fin.out] <;> simp, ho4, hB4⟩
 · have fin : Hid (((X.take (0 + 1)).countP (own2 stu sec lab) : Int) = ((X.take (0)).countP (own2 stu sec lab) : Nat) + 1) := by unfold Hid; rw [List.take_succ_eq_append_getElem hlt, List.countP_append, ← HY.out]; simp [hown]
   have fin2 : Hid ((X.take (0 + 1)).filter (fun x => !own2 stu sec lab x) = (X.take (0)).filter (fun x => !own2 stu sec lab x)) := by unfold Hid; rw [List.take_succ_eq_append_getElem hlt, List.filter_append, ← HY.out]; simp [hown]
   have hyes := own2_true hown
   have hcl : (X.take (0)).countP (own2 stu sec lab) ≤ 42 := by
     have h1 := List.countP_le_length (p := own2 stu sec lab) (l := X.take (0))
     have h2 : (X.take (0)).length ≤ X.length := by rw [List.length_take]; omega
     omega
   have ho4 : Hid (OwnS w4.heap.size W2 u13 ((X.take (0 + 1)).filter fun x => !own2 stu sec lab x)) := by unfold Hid; rw [fin2.out]; exact ho2.out
   clear hown
   rcases hyes with ⟨h1, h2⟩ | ⟨h1, h2, h3⟩
   all_goals
     go_wp2
     go_roundg (gk - 1)
     case measure => omega
     case rel => exact ⟨0 + 1, by omega, by go_num, by rw [fin.out] <;> simp, ho4, hB2⟩)
      · obtain ⟨j, rfl⟩ : ∃ j, k = j + 1 := ⟨k - 1, by omega⟩
        have hlt3 := List.pairwise_iff_getElem.1 hsrt j (j + 1) (by omega) hlt (by omega)
        rw [← HY.out] at hlt3
        obtain ⟨ad', eA, g0, g1, g2⟩ := XR.out.at hBW.out j (by omega)
        cases eA
        obtain ⟨z, hz⟩ : ∃ z, z = X[j] := ⟨_, rfl⟩
        rw [← hz] at g0 g1 g2 hlt3
        have d2 : (((j + 1 : Nat) : Int) == 0) = false := by rw [beq_eq_false_iff_ne]; omega
        have d3 : decide (0 < j + 1) = true := by simp
        clear hz hsrt hk0
        go_wp2_with fail
        obtain ⟨W, hW⟩ : ∃ W, W = wr.alloc (.cells #[.int .i64 y.stu, .int .i64 y.sec, .int .i64 y.grp] 60) := ⟨_, rfl⟩
        rw [← hW] at kW hBW hoW g0 g1 g2
        obtain ⟨z0, z1, z2, _⟩ := kW.c3
        rw [← hW]
        clear hW
        have hlt4 : z.sec < y.sec ∨ (z.sec = y.sec ∧ z.stu < y.stu) := hlt3
        clear hlt3
        have hjw : (j : Int) + 1 - 1 = j := by omega
        rcases hlt4 with h1 | ⟨h1, h2⟩
        · have e1 : decide (y.sec < z.sec) = false := decide_eq_false (by omega)
          have e2 : (z.sec == y.sec) = false := by rw [beq_eq_false_iff_ne]; omega
          clear h1
          go_quiet (fail)
          (
 obtain ⟨W2, hW2⟩ : ∃ W2, W2 = W.drewN nq := ⟨_, rfl⟩
 have k2 : Blk W2 wr.heap.size 60 #[.int .i64 y.stu, .int .i64 y.sec, .int .i64 y.grp] := by rw [hW2]; exact kW.drewN _
 have hB2 : Hid (Below w4.heap.size w4 W2) := by unfold Hid; rw [hW2]; exact bdrewN hBW.out _
 have ho2 : Hid (OwnS w4.heap.size W2 u13 ((X.take (j + 1)).filter fun x => !own2 stu sec lab x)) := by unfold Hid; rw [hW2]; exact hoW.out.below (bdrewN (Below.refl _ W) _)
 rw [← hW2]
 clear hW2 f0 f1 f2
 obtain ⟨y0, y1, y2, _⟩ := k2.c3
 obtain ⟨b0, b1, _⟩ := (bsw4.below hB2.out).b.c2
 have hbs := k2.lt
 have hb4s := hB2.out.size
 cases hown : own2 stu sec lab y
 · have fin : Hid ((X.take (j + 1 + 1)).countP (own2 stu sec lab) = (X.take (j + 1)).countP (own2 stu sec lab)) := by unfold Hid; rw [List.take_succ_eq_append_getElem hlt, List.countP_append, ← HY.out]; simp [hown]
   have fin2 : Hid ((X.take (j + 1 + 1)).filter (fun x => !own2 stu sec lab x) = (X.take (j + 1)).filter (fun x => !own2 stu sec lab x) ++ [y]) := by unfold Hid; rw [List.take_succ_eq_append_getElem hlt, List.filter_append, ← HY.out]; simp [hown]
   have hlf : ((X.take (j + 1)).filter fun x => !own2 stu sec lab x).length ≤ 42 := by
     have h1 := List.length_filter_le (fun x => !own2 stu sec lab x) (X.take (j + 1))
     have h2 : (X.take (j + 1)).length ≤ X.length := by rw [List.length_take]; omega
     omega
   have hno := own2_false hown
   clear hown
   have hO3 : Hid (World.ownsRow W2 w4.heap.size 60 3 u13 ((X.take (j + 1)).filter fun x => !own2 stu sec lab x).length (cellsS ((X.take (j + 1)).filter fun x => !own2 stu sec lab x))) := ho2.out
   rcases hno with h1 | ⟨h1, h2, h3⟩
   all_goals
     go_wp2_with (at_builtin; refine wpList_append_own _ rfl _ _ 45 rfl w4.heap.size 60 i0 (.agg #[.int .i64 0, .int .i64 0, .int .i64 0]) 3 24 Tryd.underlying45 hi hz0 hz1 hz2 rfl (by decide) _ _ _ rfl (hO3.out.alloc _) ⟨W2.heap.size, 0, none⟩ 1 1 (stC y) rfl rfl ((Blk.new W2 60 #[.int .i64 y.stu, .int .i64 y.sec, .int .i64 y.grp]).cells3) (stC_one y) (by unfold maxLen; omega) (by omega) (by simp; omega) ?_)
     all_goals
       intro v' w9 hown hgrow hnil
       have ho4 : Hid (OwnS w4.heap.size w9 v' ((X.take (j + 1 + 1)).filter fun x => !own2 stu sec lab x)) := by
         unfold Hid OwnS
         rw [fin2.out, cellsS_append, List.length_append]
         exact hown
       have hB4 : Hid (Below w4.heap.size w4 w9) := (hB2.out.alloc hB2.out.size (.cells #[.int .i64 y.stu, .int .i64 y.sec, .int .i64 y.grp] 60)).grown hgrow (by simp; omega) (fun j e => (World.ownsRow.lt ho2.out _ e).1)
       clear hown hgrow hnil y0 y1 y2 b0 b1
       go_wp2
       go_roundg (gk - 1)
       case measure => omega
       case rel => exact ⟨j + 1 + 1, by omega, by go_num, by rw [fin.out] <;> simp, ho4, hB4⟩
 · have fin : Hid (((X.take (j + 1 + 1)).countP (own2 stu sec lab) : Int) = ((X.take (j + 1)).countP (own2 stu sec lab) : Nat) + 1) := by unfold Hid; rw [List.take_succ_eq_append_getElem hlt, List.countP_append, ← HY.out]; simp [hown]
   have fin2 : Hid ((X.take (j + 1 + 1)).filter (fun x => !own2 stu sec lab x) = (X.take (j + 1)).filter (fun x => !own2 stu sec lab x)) := by unfold Hid; rw [List.take_succ_eq_append_getElem hlt, List.filter_append, ← HY.out]; simp [hown]
   have hyes := own2_true hown
   have hcl : (X.take (j + 1)).countP (own2 stu sec lab) ≤ 42 := by
     have h1 := List.countP_le_length (p := own2 stu sec lab) (l := X.take (j + 1))
     have h2 : (X.take (j + 1)).length ≤ X.length := by rw [List.length_take]; omega
     omega
   have ho4 : Hid (OwnS w4.heap.size W2 u13 ((X.take (j + 1 + 1)).filter fun x => !own2 stu sec lab x)) := by unfold Hid; rw [fin2.out]; exact ho2.out
   clear hown
   rcases hyes with ⟨h1, h2⟩ | ⟨h1, h2, h3⟩
   all_goals
     go_wp2
     go_roundg (gk - 1)
     case measure => omega
     case rel => exact ⟨j + 1 + 1, by omega, by go_num, by rw [fin.out] <;> simp, ho4, hB2⟩)
        · have e1 : decide (y.sec < z.sec) = false := decide_eq_false (by omega)
          have e2 : (z.sec == y.sec) = true := by rw [beq_iff_eq]; exact h1
          have e3 : decide (y.stu ≤ z.stu) = false := decide_eq_false (by omega)
          have e4 : ¬ y.stu ≤ z.stu := by omega
          clear h1 h2
          go_quiet (fail)
          (
 obtain ⟨W2, hW2⟩ : ∃ W2, W2 = W.drewN nq := ⟨_, rfl⟩
 have k2 : Blk W2 wr.heap.size 60 #[.int .i64 y.stu, .int .i64 y.sec, .int .i64 y.grp] := by rw [hW2]; exact kW.drewN _
 have hB2 : Hid (Below w4.heap.size w4 W2) := by unfold Hid; rw [hW2]; exact bdrewN hBW.out _
 have ho2 : Hid (OwnS w4.heap.size W2 u13 ((X.take (j + 1)).filter fun x => !own2 stu sec lab x)) := by unfold Hid; rw [hW2]; exact hoW.out.below (bdrewN (Below.refl _ W) _)
 rw [← hW2]
 clear hW2 f0 f1 f2
 obtain ⟨y0, y1, y2, _⟩ := k2.c3
 obtain ⟨b0, b1, _⟩ := (bsw4.below hB2.out).b.c2
 have hbs := k2.lt
 have hb4s := hB2.out.size
 cases hown : own2 stu sec lab y
 · have fin : Hid ((X.take (j + 1 + 1)).countP (own2 stu sec lab) = (X.take (j + 1)).countP (own2 stu sec lab)) := by unfold Hid; rw [List.take_succ_eq_append_getElem hlt, List.countP_append, ← HY.out]; simp [hown]
   have fin2 : Hid ((X.take (j + 1 + 1)).filter (fun x => !own2 stu sec lab x) = (X.take (j + 1)).filter (fun x => !own2 stu sec lab x) ++ [y]) := by unfold Hid; rw [List.take_succ_eq_append_getElem hlt, List.filter_append, ← HY.out]; simp [hown]
   have hlf : ((X.take (j + 1)).filter fun x => !own2 stu sec lab x).length ≤ 42 := by
     have h1 := List.length_filter_le (fun x => !own2 stu sec lab x) (X.take (j + 1))
     have h2 : (X.take (j + 1)).length ≤ X.length := by rw [List.length_take]; omega
     omega
   have hno := own2_false hown
   clear hown
   have hO3 : Hid (World.ownsRow W2 w4.heap.size 60 3 u13 ((X.take (j + 1)).filter fun x => !own2 stu sec lab x).length (cellsS ((X.take (j + 1)).filter fun x => !own2 stu sec lab x))) := ho2.out
   rcases hno with h1 | ⟨h1, h2, h3⟩
   all_goals
     go_wp2_with (at_builtin; refine wpList_append_own _ rfl _ _ 45 rfl w4.heap.size 60 i0 (.agg #[.int .i64 0, .int .i64 0, .int .i64 0]) 3 24 Tryd.underlying45 hi hz0 hz1 hz2 rfl (by decide) _ _ _ rfl (hO3.out.alloc _) ⟨W2.heap.size, 0, none⟩ 1 1 (stC y) rfl rfl ((Blk.new W2 60 #[.int .i64 y.stu, .int .i64 y.sec, .int .i64 y.grp]).cells3) (stC_one y) (by unfold maxLen; omega) (by omega) (by simp; omega) ?_)
     all_goals
       intro v' w9 hown hgrow hnil
       have ho4 : Hid (OwnS w4.heap.size w9 v' ((X.take (j + 1 + 1)).filter fun x => !own2 stu sec lab x)) := by
         unfold Hid OwnS
         rw [fin2.out, cellsS_append, List.length_append]
         exact hown
       have hB4 : Hid (Below w4.heap.size w4 w9) := (hB2.out.alloc hB2.out.size (.cells #[.int .i64 y.stu, .int .i64 y.sec, .int .i64 y.grp] 60)).grown hgrow (by simp; omega) (fun j e => (World.ownsRow.lt ho2.out _ e).1)
       clear hown hgrow hnil y0 y1 y2 b0 b1
       go_wp2
       go_roundg (gk - 1)
       case measure => omega
       case rel => exact ⟨j + 1 + 1, by omega, by go_num, by rw [fin.out] <;> simp, ho4, hB4⟩
 · have fin : Hid (((X.take (j + 1 + 1)).countP (own2 stu sec lab) : Int) = ((X.take (j + 1)).countP (own2 stu sec lab) : Nat) + 1) := by unfold Hid; rw [List.take_succ_eq_append_getElem hlt, List.countP_append, ← HY.out]; simp [hown]
   have fin2 : Hid ((X.take (j + 1 + 1)).filter (fun x => !own2 stu sec lab x) = (X.take (j + 1)).filter (fun x => !own2 stu sec lab x)) := by unfold Hid; rw [List.take_succ_eq_append_getElem hlt, List.filter_append, ← HY.out]; simp [hown]
   have hyes := own2_true hown
   have hcl : (X.take (j + 1)).countP (own2 stu sec lab) ≤ 42 := by
     have h1 := List.countP_le_length (p := own2 stu sec lab) (l := X.take (j + 1))
     have h2 : (X.take (j + 1)).length ≤ X.length := by rw [List.length_take]; omega
     omega
   have ho4 : Hid (OwnS w4.heap.size W2 u13 ((X.take (j + 1 + 1)).filter fun x => !own2 stu sec lab x)) := by unfold Hid; rw [fin2.out]; exact ho2.out
   clear hown
   rcases hyes with ⟨h1, h2⟩ | ⟨h1, h2, h3⟩
   all_goals
     go_wp2
     go_roundg (gk - 1)
     case measure => omega
     case rel => exact ⟨j + 1 + 1, by omega, by go_num, by rw [fin.out] <;> simp, ho4, hB2⟩)
    · obtain rfl : k = X.length := by omega
      rw [List.take_length] at ho ⊢
      have hfin := HTO.out.rest2
      obtain ⟨hf1, hf2⟩ := hfin
      rw [hf1] at ho
      rw [hf2]
      obtain ⟨Ra, Rc, hRr⟩ := ho.out.shape
      subst hRr
      have HR := Lib.hid (ho.out.reads (by omega)).2
      clear hf1 hf2 ho
      go_wp2_with fail
      refine (same25_c Ra Rc T B d T _ HR.out (HT4.out.below hB.out)).mono ?_
      rintro e w9 ⟨rfl, hb9⟩
      rw [show sameS T T = true from decide_eq_true rfl]
      have HB9 := Lib.hid (bthen hB.out hB.out.size hb9)
      clear hb9
      go_wp2
      go_ret
      exact ⟨rfl, bthen bsw4.bel bsw4.bel.size HB9.out⟩
end Go.Proofs.YteonpdnncodkaaaDoor
