/- The closure take of seats.Take: its contract. -/
import Derived.Test.YteonpdnncodkaaaGreatDoorIns4
import Derived.Test.YteonpdnncodkaaaGreatDoorPlain
set_option linter.unusedVariables false
set_option linter.unusedSimpArgs false
namespace Go.Proofs.YteonpdnncodkaaaGreatDoor
open Go.RowKit

theorem findSome_c (A : Option Addr) (c : Nat) (l : List Sec) (id : Int) (s : Sec) (w : World) (h : RSecs w A l) (hf : find l id = some s) :
    Calls Tryz.prog 17 #[.slice A l.length c, .int .i64 id] w fun e w' => ∃ A5 c5 A6 c6 A7 c7, e = .returned (.tuple #[.agg #[.int .i64 s.id, .int .i64 s.course, .int .i64 s.term, .int .i64 s.campus, .int .i64 s.seats, .slice A5 s.meets.length c5, .slice A6 s.groups.length c6, .slice A7 s.labs.length c7, .bool s.lab], .bool true]) ∧ SecIn w' s A5 c5 A6 c6 A7 c7 ∧ Below w.heap.size w w' := by
  refine (find_c A c l id w h).mono ?_
  rw [hf]
  exact fun _ _ h => h

/-- What lies below B, and every block of another type than seats, is as it was; bx alone may have turned. -/
structure Grew (B bx : Nat) (w w' : World) : Prop where
  below : Below B w w'
  blk : ∀ b t cs, b ≠ bx → t ≠ 44 → Blk w b t cs → Blk w' b t cs
theorem Grew.of_below {B bx : Nat} {w w' : World} (h : Below w.heap.size w w') (hB : B ≤ w.heap.size) : Grew B bx w w' := ⟨h.mono hB, fun b t cs _ _ hb => hb.kept h hb.lt⟩
theorem Grew.trans {B bx : Nat} {a b c : World} (h : Grew B bx a b) (k : Grew B bx b c) : Grew B bx a c := ⟨h.below.trans k.below, fun i t cs h1 h2 hb => k.blk i t cs h1 h2 (h.blk i t cs h1 h2 hb)⟩
theorem Grew.setCell {B bx : Nat} {w : World} (hB : B ≤ bx) (j : Nat) (v : Value) : Grew B bx w (w.setCell ⟨bx, j, none⟩ v) := ⟨(Below.refl B w).setCell (p := ⟨bx, j, none⟩) hB v, fun b t cs h1 _ hb => hb.far (p := ⟨bx, j, none⟩) h1 v⟩
/-- What the closure take comes to. -/
def T1Post (B bx : Nat) (w : World) (v : Value) (L : List Seat) (o : Option (List Seat)) (e : Ending) (w' : World) : Prop :=
  Grew B bx w w' ∧ match o with
    | some L' => e = .returned (.bool true) ∧ ∃ v', Blk w' bx 23 #[v'] ∧ OwnS B w' v' L'
    | none => e = .returned (.bool false) ∧ Blk w' bx 23 #[v] ∧ OwnS B w' v L
theorem T1Post.some {B bx : Nat} {w w' : World} {v : Value} {L L' : List Seat} (hg : Grew B bx w w') (v' : Value) (hb : Blk w' bx 23 #[v']) (ho : OwnS B w' v' L') : T1Post B bx w v L (some L') (.returned (.bool true)) w' := ⟨hg, rfl, v', hb, ho⟩
theorem T1Post.none {B bx : Nat} {w w' : World} {v : Value} {L : List Seat} (hg : Grew B bx w w') (hb : Blk w' bx 23 #[v]) (ho : OwnS B w' v L) : T1Post B bx w v L none (.returned (.bool false)) w' := ⟨hg, rfl, hb, ho⟩
/-- The index of the first group with a free seat, and what is taken. -/
theorem pick_idx {s : Sec} {L : List Seat} {groups : List Int} {now : Int} {k : Nat} (hk : k < groups.length) (hp : decide (0 < resF s L now groups[k]) = true) (hq : ∀ q, (hq : q < k) → decide (0 < resF s L now (groups[q]'(by omega))) = false) : pick s L groups now = some groups[k] := by
  unfold pick
  have e : groups.find? (fun g => decide (0 < resF s L now g)) = some groups[k] := List.find?_eq_some_iff_getElem.2 ⟨hp, k, hk, rfl, fun j hj => by simp [hq j hj]⟩
  rw [e]
theorem pick_no {s : Sec} {L : List Seat} {groups : List Int} {now : Int} (h : ∀ g ∈ groups, decide (0 < resF s L now g) = false) : pick s L groups now = if genF s L now = 0 then none else some (-1) := by
  unfold pick
  rw [List.find?_eq_none.2 (fun g hg => by simp [h g hg])]

theorem Grew.of_grown {B bx : Nat} {w w' : World} {v : Value} {L : List Seat} (h : w.grownBy w' v.ownBlock) (ho : OwnS B w v L) (hB : B ≤ w.heap.size) : Grew B bx w w' :=
  ⟨(Below.refl B w).grown h hB (fun k e => (ho.reach k e).1), fun b t cs _ ht hb => hb.grown h (ho.apart hb ht)⟩
theorem ownsRow_setCell_apart {B : Nat} {w : World} {v : Value} {l : List Seat} (h : OwnS B w v l) {b j : Nat} (hb : some b ≠ v.ownBlock) (u : Value) : OwnS B (w.setCell ⟨b, j, none⟩ u) v l :=
  World.ownsRow.kept (row := some b) h ⟨rfl, rfl, rfl, by simp [World.setCell], fun k _ hk => Below.heap_setCell w ⟨b, j, none⟩ u k (fun e => hk (by simp at e; rw [e]))⟩ (by
    cases hv : v.ownBlock with
    | none => exact .inl rfl
    | some g => exact .inr (by rw [hv] at hb; exact fun e => hb e.symm))

set_option maxRecDepth 100000 in
set_option maxHeartbeats 4000000 in
theorem take1_c (w0 : World) (A : Option Addr) (c : Nat) (l : List Sec) (G : Option Addr) (gc : Nat) (groups : List Int) (L : List Seat) (v : Value) (stu now sec : Int) (bl bx bn bs bg : Nat) (s : Sec) (w : World)
    (hB : Below w0.heap.size w0 w) (hR : RSecs w0 A l) (hGr : RInts w0 G groups) (kl : Blk w bl 22 #[.slice A l.length c]) (kx : Blk w bx 23 #[v]) (kn : Blk w bn 3 #[.int .i64 now]) (ks : Blk w bs 3 #[.int .i64 stu]) (kg : Blk w bg 26 #[.slice G groups.length gc])
    (hbx : w0.heap.size ≤ bx) (ho : OwnS w0.heap.size w v L) (hs : L.Pairwise seatLt) (hL : L.length ≤ 900000) (hf : find l sec = some s) (hF : Formed s) (hg8 : ∀ g ∈ groups, 0 ≤ g ∧ g < 8) :
    Calls Tryz.prog 16 #[.int .i64 sec, .pointer (some ⟨bl, 0, none⟩), .pointer (some ⟨bx, 0, none⟩), .pointer (some ⟨bn, 0, none⟩), .pointer (some ⟨bs, 0, none⟩), .pointer (some ⟨bg, 0, none⟩)] w (T1Post w0.heap.size bx w v L (takeOne l L stu sec groups now)) := by
  obtain ⟨V, d, hv⟩ := ho.shape
  subst hv
  have HR := Lib.hid hR
  have HO := Lib.hid ho
  have HS := Lib.hid hs
  have HFF := Lib.hid hf
  have hid := (find_mem hf).2
  have HID := Lib.hid hid
  have HF := Lib.hid hF
  have HG8 := Lib.hid hg8
  have HB := Lib.hid hB
  have HGR := Lib.hid hGr
  have hgl := hGr.len
  have hbx1 := kx.lt
  have hll : (ofSec L s.id).length ≤ L.length := List.length_filter_le _ _
  clear hR ho hs hf hid hF hg8 hB hGr
  obtain ⟨l0, _⟩ := kl.c1
  obtain ⟨x0, xf⟩ := kx.c1
  obtain ⟨n0, _⟩ := kn.c1
  obtain ⟨s0, _⟩ := ks.c1
  obtain ⟨g0, _⟩ := kg.c1
  go_enter Tryz.func16, Tryz.ntmps16
  go_wp2_with fail
  refine (findSome_c A c l sec s _ (HR.out.below HB.out) HFF.out).mono ?_
  rintro e w1 ⟨A5, c5, A6, c6, A7, c7, rfl, hsi, hb1⟩
  have HSI := Lib.hid hsi
  have HB1 := Lib.hid hb1
  have kx1 := kx.kept hb1 kx.lt
  have kn1 := kn.kept hb1 kn.lt
  have ks1 := ks.kept hb1 ks.lt
  have kg1 := kg.kept hb1 kg.lt
  clear hb1 hsi l0 x0 xf n0 s0 g0
  have W1 : Below w.heap.size w (w1.alloc (.cells #[.int .i64 s.id, .int .i64 s.course, .int .i64 s.term, .int .i64 s.campus, .int .i64 s.seats, .slice A5 s.meets.length c5, .slice A6 s.groups.length c6, .slice A7 s.labs.length c7, .bool s.lab] 40)) := HB1.out.alloc HB1.out.size _
  have HO1 := Lib.hid (HO.out.below W1)
  obtain ⟨n0, _⟩ := kn1.c1
  obtain ⟨x0, _⟩ := kx1.c1
  have hx1 := kx1.lt
  have hn1 := kn1.lt
  go_wp2_with fail
  refine (free_c s A5 c5 A6 c6 A7 c7 V d L now _ (HSI.out.below (by go_grown)) (HO1.out.reads (by omega)).2 HF.out).mono ?_
  rintro e w2 ⟨rfl, hb2⟩
  have HB2 := Lib.hid (bthen W1 W1.size hb2)
  have kx2 := (kx1.alloc (.cells #[.int .i64 s.id, .int .i64 s.course, .int .i64 s.term, .int .i64 s.campus, .int .i64 s.seats, .slice A5 s.meets.length c5, .slice A6 s.groups.length c6, .slice A7 s.labs.length c7, .bool s.lab] 40)).kept hb2 (by simp; omega)
  have ks2 := (ks1.alloc (.cells #[.int .i64 s.id, .int .i64 s.course, .int .i64 s.term, .int .i64 s.campus, .int .i64 s.seats, .slice A5 s.meets.length c5, .slice A6 s.groups.length c6, .slice A7 s.labs.length c7, .bool s.lab] 40)).kept hb2 (by have := ks1.lt; simp; omega)
  have kg2 := (kg1.alloc (.cells #[.int .i64 s.id, .int .i64 s.course, .int .i64 s.term, .int .i64 s.campus, .int .i64 s.seats, .slice A5 s.meets.length c5, .slice A6 s.groups.length c6, .slice A7 s.labs.length c7, .bool s.lab] 40)).kept hb2 (by have := kg1.lt; simp; omega)
  have HO2 := Lib.hid (HO1.out.below hb2)
  clear hb2 n0 x0 hx1 hn1 kx1 ks1 kg1 kn1 W1 HO1
  obtain ⟨M, hM⟩ : ∃ M, M = ofSec L s.id := ⟨_, rfl⟩
  have HM := Lib.hid hM
  rw [← hM] at hll
  rw [← hM]
  clear hM
  have hgb := genF_bound HF.out (L := M) (by omega) now
  obtain ⟨hgb1, hgb2⟩ := hgb
  obtain ⟨GG, hGG⟩ : ∃ GG, GG = genF s M now := ⟨_, rfl⟩
  have HGG := Lib.hid hGG
  rw [← hGG] at hgb1 hgb2
  rw [← hGG]
  clear hGG
  unfold resV resA
  have W2 : Below w.heap.size w ((w2.alloc (.cells (resV s M now) 51)).alloc (.cells #[.int .i64 stu, .int .i64 sec, .int .i64 (-1)] 44)) := (HB2.out.alloc HB2.out.size _).alloc (by have := HB2.out.size; simp; omega) _
  have hws := HB2.out.size
  obtain ⟨g0, _⟩ := kg2.c1
  obtain ⟨s0, _⟩ := ks2.c1
  have hg2 := kg2.lt
  have hs2 := ks2.lt
  go_wp2_with fail
  have HP : Hid (∀ (W : World) (g : Int), Below ((w2.alloc (.cells (resV s M now) 51)).alloc (.cells #[.int .i64 stu, .int .i64 sec, .int .i64 (-1)] 44)).heap.size ((w2.alloc (.cells (resV s M now) 51)).alloc (.cells #[.int .i64 stu, .int .i64 sec, .int .i64 (-1)] 44)) W → g ∈ groups →
      Calls Tryz.prog 20 (#[.int .i64 g] ++ #[.pointer (some ⟨w2.heap.size, 0, none⟩)]) W fun e W' => e = .returned (.bool (decide (0 < resF s M now g))) ∧ Below W.heap.size W W') := fun W g hW hg => by
    obtain ⟨gi, rfl⟩ : ∃ gi : Nat, g = gi := ⟨g.toNat, by have := HG8.out g hg; omega⟩
    have k : Blk W w2.heap.size 51 (resV s M now) := ((Blk.new w2 51 (resV s M now)).alloc _).kept hW (by simp; omega)
    exact (take11_c s M now gi (by have := HG8.out gi hg; omega) w2.heap.size W k).mono fun _ _ h => ⟨h.1, by rw [← h.2]; exact Below.refl _ _⟩
  refine (idxInt_c G gc groups 20 #[.pointer (some ⟨w2.heap.size, 0, none⟩)] (fun g => decide (0 < resF s M now g)) _ (HGR.out.below (HB.out.trans (W2.mono HB.out.size))) (enters_of Tryz.func20 (by kernel_rfl) rfl) HP.out).mono ?_
  rintro e w3 ⟨rfl, hb3⟩
  have HB3 := Lib.hid (bthen W2 W2.size hb3)
  have kt := ((Blk.mk' (w2.alloc (.cells (resV s M now) 51)) (w2.heap.size + 1) (by simp) 44 #[.int .i64 stu, .int .i64 sec, .int .i64 (-1)])).kept hb3 (by simp)
  have kx3 := ((kx2.alloc (.cells (resV s M now) 51)).alloc (.cells #[.int .i64 stu, .int .i64 sec, .int .i64 (-1)] 44)).kept hb3 (by have := kx2.lt; simp; omega)
  have kg3 := ((kg2.alloc (.cells (resV s M now) 51)).alloc (.cells #[.int .i64 stu, .int .i64 sec, .int .i64 (-1)] 44)).kept hb3 (by have := kg2.lt; simp; omega)
  have HO3 := Lib.hid ((HO2.out.below (w' := (w2.alloc (.cells (resV s M now) 51)).alloc (.cells #[.int .i64 stu, .int .i64 sec, .int .i64 (-1)] 44)) (by go_grown)).below hb3)
  have hb3s := hb3.size
  simp only [World.size_alloc] at hb3s
  clear hb3 HP g0 s0 hg2 hs2 kx2 kg2 ks2 HO2 W2
  rcases idx_cases (fun g => decide (0 < resF s M now g)) groups with ⟨hi, hn⟩ | ⟨k, hk, hi, hp, hq⟩
  · rw [hi]
    have e1 := Lib.hid (pick_no hn)
    clear hi hn
    by_cases hG0 : GG = 0
    · have fin : takeOne l L stu sec groups now = none := by
        rw [takeOne_eq HFF.out, ← HID.out, ← HM.out, e1.out, if_pos (by rw [← HGG.out]; exact hG0)]; rfl
      have FIN := Lib.hid fin
      subst hG0
      clear fin
      go_wp2
      go_ret
      rw [FIN.out]
      exact T1Post.none (Grew.of_below HB3.out HB.out.size) kx3 HO3.out
    have e1 := Lib.hid (e1.out.trans (if_neg (by rw [← HGG.out]; exact hG0)))
    have dG : (GG == 0) = false := by simp [hG0]
    clear hG0
    have kxw := kx3
    have ktw := kt
    have HBW := HB3
    have HOW := HO3
    obtain ⟨x0, xf⟩ := kx3.c1
    obtain ⟨t0, t1, t2, _⟩ := kt.c3
    go_wp2_with fail
    clear x0 xf t0 t1 t2
    refine (binSeat_c V d L ⟨stu, sec, -1⟩ _ (HOW.out.reads (by omega)).2 HS.out).mono ?_
    rintro e w4 ⟨⟨p, fb, rfl, hp, hp1, hp2⟩, hb4⟩
    have HA := Lib.hid (addS_at hp hp1 hp2)
    have kx4 := kxw.kept hb4 kxw.lt
    have kt4 := ktw.kept hb4 ktw.lt
    have HB4 := Lib.hid (bthen HBW.out HBW.out.size hb4)
    have HO4 := Lib.hid (HOW.out.below hb4)
    clear hb4 hp1 hp2 kxw ktw HOW HBW
    obtain ⟨x0, xf⟩ := kx4.c1
    obtain ⟨t0, t1, t2, _⟩ := kt4.c3
    go_wp2_with fail
    have HO5 := Lib.hid (HO4.out.below (w' := w4.alloc (.cells #[.int .i64 stu, .int .i64 sec, .int .i64 (-1)] 44)) (by go_grown))
    have hs4 := HB4.out.size
    have hs0 := HB.out.size
    refine (ins_c w0.heap.size (.slice V L.length d) L ⟨stu, sec, -1⟩ p w4.heap.size _ (by simp; omega) HO5.out (by omega) hp (fun e => by have := (HO4.out.reach _ e).2; omega) (Blk.new _ _ _)).mono ?_
    rintro e w5 ⟨v', rfl, ho5, hg5⟩
    have kx5 := (kx4.alloc (.cells #[.int .i64 stu, .int .i64 sec, .int .i64 (-1)] 44)).grown hg5 (HO5.out.apart (kx4.alloc _) (by decide))
    have HG5 : Hid (Grew w0.heap.size bx w w5) := (Grew.of_below HB4.out hs0).trans ((Grew.of_below (w' := w4.alloc (.cells #[.int .i64 stu, .int .i64 sec, .int .i64 (-1)] 44)) (by go_grown) (by omega)).trans (Grew.of_grown hg5 HO5.out (by simp; omega)))
    have HO6 := Lib.hid ho5
    obtain ⟨V', d', hv'⟩ := ho5.shape
    subst hv'
    obtain ⟨n', hn'⟩ : ∃ n', n' = (insS L p ⟨stu, sec, -1⟩).length := ⟨_, rfl⟩
    rw [← hn'] at HO6
    rw [← hn']
    clear ho5 hg5 HO5 HO4 HB4 kx4 kt4 x0 xf t0 t1 t2 hn'
    obtain ⟨x0, xf⟩ := kx5.c1
    go_wp2
    go_ret
    have fin : takeOne l L stu sec groups now = some (insS L p ⟨stu, sec, -1⟩) := by
      rw [takeOne_eq HFF.out, ← HID.out, ← HM.out, e1.out]
      simp only [Option.map_some]
      rw [HID.out, HA.out]; rfl
    rw [fin]
    exact T1Post.some (HG5.out.trans (Grew.setCell hbx 0 _)) _ (kx5.set 0 _) (ownsRow_setCell_apart HO6.out (HO6.out.apart kx5 (by decide)) _)
  · rw [hi]
    have e1 := Lib.hid (pick_idx hk hp hq)
    clear hi hp hq
    obtain ⟨g0, _⟩ := kg3.c1
    obtain ⟨ad, rfl, f0⟩ := HGR.out.at (HB.out.trans (HB3.out.mono HB.out.size)) k hk
    obtain ⟨t0, t1, t2, tf⟩ := kt.c3
    have hgk := HG8.out _ (List.getElem_mem hk)
    obtain ⟨gg, hgg⟩ : ∃ gg, gg = groups[k] := ⟨_, rfl⟩
    rw [← hgg] at f0 e1 hgk
    obtain ⟨hgk0, hgk8⟩ := hgk
    clear hgg
    have hsz2 := HB2.out.size
    have hne : bx ≠ w2.heap.size + 1 := by omega
    have kxw := kx3.far (p := ⟨w2.heap.size + 1, 2, none⟩) hne (.int .i64 gg)
    have ktw := kt.set 2 (.int .i64 gg)
    have HBW := Lib.hid (HB3.out.setCell (p := ⟨w2.heap.size + 1, 2, none⟩) (by simp; omega) (.int .i64 gg))
    have HOW := Lib.hid (ownsRow_setCell_apart (j := 2) HO3.out (b := w2.heap.size + 1) (fun e => by have := (HO.out.reach _ e.symm).2; omega) (.int .i64 gg))
    obtain ⟨x0, xf⟩ := kxw.c1
    obtain ⟨y0, y1, y2, _⟩ := ktw.c3
    go_wp2_with fail
    clear x0 xf t0 t1 t2 tf y0 y1 y2
    refine (binSeat_c V d L ⟨stu, sec, gg⟩ _ (HOW.out.reads (by omega)).2 HS.out).mono ?_
    rintro e w4 ⟨⟨p, fb, rfl, hp, hp1, hp2⟩, hb4⟩
    have HA := Lib.hid (addS_at hp hp1 hp2)
    have kx4 := kxw.kept hb4 kxw.lt
    have kt4 := ktw.kept hb4 ktw.lt
    have HB4 := Lib.hid (bthen HBW.out HBW.out.size hb4)
    have HO4 := Lib.hid (HOW.out.below hb4)
    clear hb4 hp1 hp2 kxw ktw HOW HBW
    obtain ⟨x0, xf⟩ := kx4.c1
    obtain ⟨t0, t1, t2, _⟩ := kt4.c3
    go_wp2_with fail
    have HO5 := Lib.hid (HO4.out.below (w' := w4.alloc (.cells #[.int .i64 stu, .int .i64 sec, .int .i64 (gg)] 44)) (by go_grown))
    have hs4 := HB4.out.size
    have hs0 := HB.out.size
    refine (ins_c w0.heap.size (.slice V L.length d) L ⟨stu, sec, gg⟩ p w4.heap.size _ (by simp; omega) HO5.out (by omega) hp (fun e => by have := (HO4.out.reach _ e).2; omega) (Blk.new _ _ _)).mono ?_
    rintro e w5 ⟨v', rfl, ho5, hg5⟩
    have kx5 := (kx4.alloc (.cells #[.int .i64 stu, .int .i64 sec, .int .i64 (gg)] 44)).grown hg5 (HO5.out.apart (kx4.alloc _) (by decide))
    have HG5 : Hid (Grew w0.heap.size bx w w5) := (Grew.of_below HB4.out hs0).trans ((Grew.of_below (w' := w4.alloc (.cells #[.int .i64 stu, .int .i64 sec, .int .i64 (gg)] 44)) (by go_grown) (by omega)).trans (Grew.of_grown hg5 HO5.out (by simp; omega)))
    have HO6 := Lib.hid ho5
    obtain ⟨V', d', hv'⟩ := ho5.shape
    subst hv'
    obtain ⟨n', hn'⟩ : ∃ n', n' = (insS L p ⟨stu, sec, gg⟩).length := ⟨_, rfl⟩
    rw [← hn'] at HO6
    rw [← hn']
    clear ho5 hg5 HO5 HO4 HB4 kx4 kt4 x0 xf t0 t1 t2 hn'
    obtain ⟨x0, xf⟩ := kx5.c1
    go_wp2
    go_ret
    have fin : takeOne l L stu sec groups now = some (insS L p ⟨stu, sec, gg⟩) := by
      rw [takeOne_eq HFF.out, ← HID.out, ← HM.out, e1.out]
      simp only [Option.map_some]
      rw [HID.out, HA.out]; rfl
    rw [fin]
    exact T1Post.some (HG5.out.trans (Grew.setCell hbx 0 _)) _ (kx5.set 0 _) (ownsRow_setCell_apart HO6.out (HO6.out.apart kx5 (by decide)) _)
end Go.Proofs.YteonpdnncodkaaaGreatDoor
