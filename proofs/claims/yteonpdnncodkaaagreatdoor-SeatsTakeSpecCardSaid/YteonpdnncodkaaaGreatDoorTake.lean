/- seats.Take: its contract. -/
import Derived.Test.YteonpdnncodkaaaGreatDoorTake0
import Derived.Test.YteonpdnncodkaaaGreatDoorTake1
import Derived.Test.YteonpdnncodkaaaGreatDoorBun
set_option linter.unusedVariables false
set_option linter.unusedSimpArgs false
namespace Go.Proofs.YteonpdnncodkaaaGreatDoor
open Go.RowKit

/-- The boxes of a run of Take. -/
structure TB (w W : World) (A : Option Addr) (n c : Nat) (stu sec lab : Int) (G : Option Addr) (gn gc : Nat) (now : Int) (v : Value) : Prop where
  bel : Below w.heap.size w W
  l : Blk W w.heap.size 22 #[.slice A n c]
  s : Blk W (w.heap.size + 1) 3 #[.int .i64 stu]
  b : Blk W (w.heap.size + 2) 25 #[.int .i64 sec, .int .i64 lab]
  g : Blk W (w.heap.size + 3) 26 #[.slice G gn gc]
  t : Blk W (w.heap.size + 4) 3 #[.int .i64 now]
  x : Blk W (w.heap.size + 5) 23 #[v]
section
variable {w W W' : World} {A : Option Addr} {n c : Nat} {stu sec lab : Int} {G : Option Addr} {gn gc : Nat} {now : Int} {v : Value}
theorem TB.below (h : TB w W A n c stu sec lab G gn gc now v) (hb : Below W.heap.size W W') : TB w W' A n c stu sec lab G gn gc now v :=
  ⟨bthen h.bel h.bel.size hb, h.l.kept hb h.l.lt, h.s.kept hb h.s.lt, h.b.kept hb h.b.lt, h.g.kept hb h.g.lt, h.t.kept hb h.t.lt, h.x.kept hb h.x.lt⟩
theorem TB.grew {v' : Value} (h : TB w W A n c stu sec lab G gn gc now v) (hg : Grew w.heap.size (w.heap.size + 5) W W') (hx : Blk W' (w.heap.size + 5) 23 #[v']) : TB w W' A n c stu sec lab G gn gc now v' :=
  ⟨h.bel.trans hg.below, hg.blk _ _ _ (by omega) (by decide) h.l, hg.blk _ _ _ (by omega) (by decide) h.s, hg.blk _ _ _ (by omega) (by decide) h.b, hg.blk _ _ _ (by omega) (by decide) h.g, hg.blk _ _ _ (by omega) (by decide) h.t, hx⟩
theorem TB.setx (h : TB w W A n c stu sec lab G gn gc now v) (v' : Value) : TB w (W.setCell ⟨w.heap.size + 5, 0, none⟩ v') A n c stu sec lab G gn gc now v' :=
  h.grew (Grew.setCell (by omega) 0 v') (h.x.set 0 v')
end
/-- What Take comes to. -/
def TakePost (w : World) (X : List Seat) (E : Int) (e : Ending) (w' : World) : Prop :=
  (∃ A' c', e = .returned (.tuple #[.slice A' X.length c', .int .i64 E]) ∧ RSeats w' A' X ∧ X.length ≤ c') ∧ Below w.heap.size w w'
theorem TakePost.err {w w' : World} {X : List Seat} {E E' : Int} (hE : E' = E) (hX : X = []) (hb : Below w.heap.size w w') : TakePost w X E (.returned (.tuple #[.slice none 0 0, .int .i64 E'])) w' := by
  subst hE hX
  exact ⟨⟨none, 0, rfl, Rd.nil _ _ _ _, Nat.le_refl _⟩, hb⟩

theorem OwnS.base {B B' : Nat} {w : World} {v : Value} {l : List Seat} (h : OwnS B w v l) (hB : B' ≤ B) : OwnS B' w v l := by
  obtain ⟨h1, h2⟩ := h
  refine ⟨h1, ?_⟩
  rcases h2 with h2 | ⟨g, cap, cur, e, hg, r⟩
  · exact .inl h2
  · exact .inr ⟨g, cap, cur, e, by omega, r⟩
theorem OwnS.cap {B : Nat} {w : World} {A : Option Addr} {n c : Nat} {l : List Seat} (h : OwnS B w (.slice A n c) l) : n ≤ c := by
  rcases h.cases with ⟨e, _⟩ | ⟨g, cap, rest, e, _, _, hl, _⟩
  · cases e; exact Nat.le_refl _
  · cases e; omega
def intsA (ps : List Int) : Array Value := (ps.map fun x => Value.int .i64 x).toArray
theorem RInts.of_blk {w : World} {b : Nat} {t : TypeId} {ps : List Int} (h : Blk w b t (intsA ps)) (hl : ps.length ≤ 140737488355328) : RInts w (some ⟨b, 0, none⟩) ps :=
  ⟨by omega, fun k hk => ⟨_, _, rfl, rfl, rfl, fun j hj => by
    obtain rfl : j = 0 := by simpa using hj
    unfold cellOf
    rw [if_pos rfl, show k * 1 = k by omega, add0]
    refine h.cell k ?_
    unfold intsA
    simp [hk]⟩⟩
set_option maxHeartbeats 1000000 in
theorem parts2_c (sec lab : Int) (w : World) :
    Calls Tryz.prog 24 #[.agg #[.int .i64 sec, .int .i64 lab]] w fun e w' => (∃ b c, e = .returned (.slice (some ⟨b, 0, none⟩) (partsB sec lab).length c) ∧ Blk w' b 3 (intsA (partsB sec lab))) ∧ Below w.heap.size w w' := by
  by_cases h : lab = -1
  · have E : Hid (partsB sec lab = [sec]) := if_pos h
    subst h
    go_enter Tryz.func24, Tryz.ntmps24
    go_wp2
    go_ret
    refine ⟨⟨_, _, by rw [E.out]; rfl, by rw [E.out]; exact Blk.mk' _ _ (by simp) _ _⟩, by go_grown⟩
  · have E : Hid (partsB sec lab = [sec, lab]) := if_neg h
    have d : (lab == -1) = false := by simp [h]
    go_enter Tryz.func24, Tryz.ntmps24
    go_wp2
    go_ret
    refine ⟨⟨_, _, by rw [E.out]; rfl, by rw [E.out]; exact Blk.mk' _ _ (by simp) _ _⟩, by go_grown⟩

set_option maxRecDepth 100000 in
set_option maxHeartbeats 8000000 in
theorem take_c (A : Option Addr) (c : Nat) (l : List Sec) (B : Option Addr) (d : Nat) (T : List Seat) (stu sec lab : Int) (G : Option Addr) (gc : Nat) (groups : List Int) (now : Int) (w : World) (hGl : Glob w) (h : RSecs w A l) (ht : RSeats w B T) (hg : RInts w G groups) (hT : T.length ≤ 500000) :
    Calls Tryz.prog 6 #[.slice A l.length c, .slice B T.length d, .int .i64 stu, .agg #[.int .i64 sec, .int .i64 lab], .slice G groups.length gc, .int .i64 now] w (TakePost w (takeX l T stu sec lab groups now) (takeE l T stu sec lab groups now)) := by
  have hgl := hg.len
  have H := Lib.hid h
  have HT := Lib.hid ht
  have HGR := Lib.hid hg
  clear h ht hg
  go_enter Tryz.func6, Tryz.ntmps6
  go_wp2_with fail
  have tb0 : TB w ((((((w.alloc (.cells #[.slice A l.length c] 22)).alloc (.cells #[.int .i64 stu] 3)).alloc (.cells #[.int .i64 sec, .int .i64 lab] 25)).alloc (.cells #[.slice G groups.length gc] 26)).alloc (.cells #[.int .i64 now] 3)).alloc (.cells #[.slice none 0 0] 23)) A l.length c stu sec lab G groups.length gc now (.slice none 0 0) := ⟨by go_grown,
    (((((Blk.mk' _ _ (by simp) _ _).alloc _).alloc _).alloc _).alloc _).alloc _, ((((Blk.mk' _ _ (by simp) _ _).alloc _).alloc _).alloc _).alloc _, (((Blk.mk' _ _ (by simp) _ _).alloc _).alloc _).alloc _, ((Blk.mk' _ _ (by simp) _ _).alloc _).alloc _, (Blk.mk' _ _ (by simp) _ _).alloc _, Blk.mk' _ _ (by simp) _ _⟩
  refine (seatCheck_c A c l B d T _ (hGl.below tb0.bel) (H.out.below tb0.bel) (HT.out.below tb0.bel)).mono ?_
  rintro e w1 ⟨rfl, hb1⟩
  have tb1 := tb0.below hb1
  clear hb1 tb0
  obtain ⟨l0, _⟩ := tb1.l.c1
  obtain ⟨b0, b1, _⟩ := tb1.b.c2
  obtain ⟨x0, xf⟩ := tb1.x.c1
  by_cases h1 : seatCheck l T = 0
  case neg =>
    have eE := Lib.hid (takeE_1 (stu := stu) (sec := sec) (lab := lab) (groups := groups) (now := now) h1)
    have eX : Hid (takeX l T stu sec lab groups now = []) := by unfold Hid; exact takeX_err (by rw [eE.out]; exact h1)
    have d0 : (seatCheck l T != 0) = true := by simp [h1]
    have tbe := tb1.setx (.slice none 0 0)
    clear h1
    go_wp2
    refine bodyPost_ret (by simp only [results, Tryz.results6]; go_simp <;> rfl) rfl ?_
    exact TakePost.err eE.out.symm eX.out tbe.bel
  have H1 := Lib.hid h1
  rw [h1]
  clear h1
  go_wp2_with fail
  refine (bunCheck_c A c l sec lab _ (hGl.below tb1.bel) (H.out.below tb1.bel)).mono ?_
  rintro e w2 ⟨rfl, hb2⟩
  have tb2 := tb1.below hb2
  clear hb2 tb1 l0 b0 b1 x0 xf
  obtain ⟨s0, _⟩ := tb2.s.c1
  obtain ⟨g0, _⟩ := tb2.g.c1
  obtain ⟨b0, b1, _⟩ := tb2.b.c2
  obtain ⟨x0, xf⟩ := tb2.x.c1
  by_cases h2 : bunCheck l sec lab = 0
  case neg =>
    have eE := Lib.hid (takeE_2 (stu := stu) (groups := groups) (now := now) H1.out h2)
    have eX : Hid (takeX l T stu sec lab groups now = []) := by unfold Hid; exact takeX_err (by rw [eE.out]; exact h2)
    have d0 : (bunCheck l sec lab != 0) = true := by simp [h2]
    have tbe := tb2.setx (.slice none 0 0)
    clear h2
    go_wp2
    refine bodyPost_ret (by simp only [results, Tryz.results6]; go_simp <;> rfl) rfl ?_
    exact TakePost.err eE.out.symm eX.out tbe.bel
  have H2 := Lib.hid h2
  rw [h2]
  clear h2
  by_cases hst : 0 ≤ stu ∧ stu < 20000
  case neg =>
    have hno : Hid (∀ k, okG stu (groups.take k) = false) := fun k => decide_eq_false (fun h => hst ⟨h.1, h.2.1⟩)
    have eE : Hid (takeE l T stu sec lab groups now = 1) := takeE_3 H1.out H2.out (by have := hno.out groups.length; rwa [List.take_length] at this)
    have eX : Hid (takeX l T stu sec lab groups now = []) := takeX_err (by rw [eE.out]; omega)
    have hst2 : stu < 0 ∨ 0 ≤ stu ∧ 20000 ≤ stu := by omega
    have tbe := tb2.setx (.slice none 0 0)
    clear hst
    rcases hst2 with hst | ⟨hst, hst3⟩
    all_goals
      go_wp2
      go_loopg [16, 44] groups.length (fun n u i wr => ∃ k : Nat, n + k = groups.length ∧ i = .int .i64 k ∧ u = .bool false ∧ w2 = wr)
      case atStart => exact ⟨0, by omega, rfl, by first | rfl | (simp; omega), rfl⟩
      case round =>
        obtain ⟨k, hk, rfl, rfl, rfl⟩ := hrel
        by_cases hlt : k < groups.length
        · obtain ⟨ad, rfl, f0⟩ := HGR.out.at tb2.bel k hlt
          go_wp2
          go_roundg (gk - 1)
          case measure => omega
          case rel => exact ⟨k + 1, by omega, by go_num, rfl, rfl⟩
        · obtain rfl : k = groups.length := by omega
          go_wp2
          refine bodyPost_ret (by simp only [results, Tryz.results6]; go_simp <;> rfl) rfl ?_
          exact TakePost.err eE.out.symm eX.out tbe.bel
  obtain ⟨hst1, hst2⟩ := hst
  go_wp2
  go_loopg [16, 44] groups.length (fun n u i wr => ∃ k : Nat, n + k = groups.length ∧ i = .int .i64 k ∧ u = .bool (okG stu (groups.take k)) ∧ w2 = wr)
  case atStart =>
    have e : okG stu (groups.take 0) = true := by unfold okG; rw [List.take_zero]; exact decide_eq_true ⟨hst1, hst2, groupsOk_nil⟩
    exact ⟨0, by omega, rfl, by rw [e], rfl⟩
  case round =>
    obtain ⟨k, hk, rfl, rfl, rfl⟩ := hrel
    by_cases hlt : k < groups.length
    · have hstep := Lib.hid (okG_step (stu := stu) hlt)
      obtain ⟨ad, eG, f0⟩ := HGR.out.at tb2.bel k hlt
      subst eG
      cases hok : okG stu (groups.take k)
      · have fin : Hid (okG stu (groups.take (k + 1)) = false) := by unfold Hid; rw [hstep.out, hok]; rfl
        clear hok
        go_wp2
        go_roundg (gk - 1)
        case measure => omega
        case rel => exact ⟨k + 1, by omega, by go_num, by rw [fin.out], rfl⟩
      · have hst4 : Hid (okG stu (groups.take (k + 1)) = decide (0 ≤ groups[k] ∧ groups[k] < 8 ∧ ∀ h : 0 < k, groups[k - 1]'(by omega) < groups[k])) := by unfold Hid; rw [hstep.out, hok]; rfl
        clear hok hstep
        by_cases hg0 : 0 ≤ groups[k]
        case neg =>
          have fin : Hid (okG stu (groups.take (k + 1)) = false) := by unfold Hid; rw [hst4.out]; exact decide_eq_false (fun h => hg0 h.1)
          have d1 : groups[k] < 0 := by omega
          clear hg0
          go_wp2
          go_roundg (gk - 1)
          case measure => omega
          case rel => exact ⟨k + 1, by omega, by go_num, by rw [fin.out], rfl⟩
        by_cases hg8 : groups[k] < 8
        case neg =>
          have fin : Hid (okG stu (groups.take (k + 1)) = false) := by unfold Hid; rw [hst4.out]; exact decide_eq_false (fun h => hg8 h.2.1)
          have d1 : 8 ≤ groups[k] := by omega
          clear hg8
          go_wp2
          go_roundg (gk - 1)
          case measure => omega
          case rel => exact ⟨k + 1, by omega, by go_num, by rw [fin.out], rfl⟩
        by_cases hk0 : k = 0
        · have fin : Hid (okG stu (groups.take (k + 1)) = true) := by unfold Hid; rw [hst4.out]; exact decide_eq_true ⟨hg0, hg8, fun h => by omega⟩
          subst hk0
          have f0' : w2.cell? ad = some (.int .i64 groups[0]) := by simpa [Addr.add] using f0
          clear hst4 f0
          go_wp2
          go_roundg (gk - 1)
          case measure => omega
          case rel => exact ⟨0 + 1, by omega, by go_num, by rw [fin.out], rfl⟩
        · obtain ⟨j, rfl⟩ : ∃ j, k = j + 1 := ⟨k - 1, by omega⟩
          obtain ⟨ad', eG, f1⟩ := HGR.out.at tb2.bel j (by omega)
          cases eG
          have hst5 : Hid (okG stu (groups.take (j + 1 + 1)) = decide (0 ≤ groups[j + 1] ∧ groups[j + 1] < 8 ∧ ∀ h : 0 < j + 1, groups[j]'(by omega) < groups[j + 1])) := hst4.out
          have d2 : (((j + 1 : Nat) : Int) == 0) = false := by rw [beq_eq_false_iff_ne]; omega
          have d3 : ((j : Int) + 1 == 0) = false := by rw [beq_eq_false_iff_ne]; omega
          have f0' : w2.cell? ⟨ad.block, ad.off + (j + 1), none⟩ = some (.int .i64 groups[j + 1]) := by simpa [Addr.add] using f0
          clear hst4 hk0 f0
          by_cases hjk : groups[j] < groups[j + 1]
          · have fin : Hid (okG stu (groups.take (j + 1 + 1)) = true) := by unfold Hid; rw [hst5.out]; exact decide_eq_true ⟨hg0, hg8, fun _ => hjk⟩
            clear hst5
            go_wp2
            go_roundg (gk - 1)
            case measure => omega
            case rel => exact ⟨j + 1 + 1, by omega, by go_num, by rw [fin.out], rfl⟩
          · have fin : Hid (okG stu (groups.take (j + 1 + 1)) = false) := by unfold Hid; rw [hst5.out]; exact decide_eq_false (fun h => hjk (h.2.2 (by omega)))
            have d1 : groups[j + 1] ≤ groups[j] := by omega
            clear hst5
            go_wp2
            go_roundg (gk - 1)
            case measure => omega
            case rel => exact ⟨j + 1 + 1, by omega, by go_num, by rw [fin.out] <;> (simp; omega), rfl⟩
    · obtain rfl : k = groups.length := by omega
      rw [List.take_length]
      clear hst1 hst2 hlt
      cases hok : okG stu groups
      · have eE : Hid (takeE l T stu sec lab groups now = 1) := takeE_3 H1.out H2.out hok
        have eX : Hid (takeX l T stu sec lab groups now = []) := takeX_err (by rw [eE.out]; omega)
        have tbe := tb2.setx (.slice none 0 0)
        clear hok
        go_wp2
        refine bodyPost_ret (by simp only [results, Tryz.results6]; go_simp <;> rfl) rfl ?_
        exact TakePost.err eE.out.symm eX.out tbe.bel
      have HOK := Lib.hid hok
      have hgok : groupsOk groups := (of_decide_eq_true hok).2.2
      have HG8 := Lib.hid hgok.1
      clear hok hgok
      clear b0 b1 g0
      go_wp2_with fail
      refine (clone_c B d T _ (HT.out.below tb2.bel) (by omega)).mono ?_
      rintro e w3 ⟨⟨v, rfl, ho⟩, hb3⟩
      have HO3 := Lib.hid (ho.base (B' := w.heap.size) tb2.bel.size)
      obtain ⟨V, dv, hv⟩ := ho.shape
      subst hv
      have tb3 := tb2.below hb3
      have tb4 := tb3.setx (.slice V T.length dv)
      have HO4 := Lib.hid (ownsRow_setCell_apart (j := 0) HO3.out (HO3.out.apart tb3.x (by decide)) (.slice V T.length dv))
      clear hb3 tb2 s0 x0 xf ho HO3
      obtain ⟨b0, b1, _⟩ := tb3.b.c2
      obtain ⟨x0, xf⟩ := tb3.x.c1
      go_wp2_with fail
      refine (parts2_c sec lab _).mono ?_
      rintro e w4 ⟨⟨pb, pc, rfl, kp⟩, hb4⟩
      have tb5 := tb4.below hb4
      have HO5 := Lib.hid (HO4.out.below hb4)
      obtain ⟨ps, hps⟩ : ∃ ps, ps = partsB sec lab := ⟨_, rfl⟩
      have hpl : ps.length ≤ 2 := by
        rw [hps]
        rcases parts_cases sec lab with ⟨_, e⟩ | ⟨_, e⟩ <;> rw [e] <;> simp
      rw [← hps] at kp
      rw [← hps]
      have HPS := Lib.hid hps
      clear hps hb4 tb3 tb4 HO4 b0 b1 x0 xf
      go_wp2
      go_loopg [80] ps.length (fun n i wr => ∃ k : Nat, n + k = ps.length ∧ i = .int .i64 k ∧ Hid (∀ q, (hq : q < k) → (hk : k ≤ ps.length) → hasSeat T stu (ps[q]'(by omega)) = false) ∧ Hid (Below w4.heap.size w4 wr))
      case atStart => exact ⟨0, by omega, rfl, by intro q hq; omega, Below.refl _ _⟩
      case round =>
        obtain ⟨k, hk, rfl, hno, hB⟩ := hrel
        have tb6 := tb5.below hB.out
        by_cases hlt : k < ps.length
        · have kp6 := kp.kept hB.out kp.lt
          obtain ⟨ad, eA, f0⟩ := (RInts.of_blk kp6 (by omega)).at (Below.refl _ _) k hlt
          cases eA
          rw [add0] at f0
          obtain ⟨s0, _⟩ := tb6.s.c1
          obtain ⟨x0, xf⟩ := tb6.x.c1
          have ea : Addr.add ⟨pb, 0, none⟩ k = ⟨pb, k, none⟩ := add0 _ _
          go_wp2_with fail
          refine (has_c B d T stu ps[k] _ (HT.out.below tb6.bel)).mono ?_
          rintro e w5 ⟨rfl, hb5⟩
          have tb7 := tb6.below hb5
          have hB5 := Lib.hid (bthen hB.out hB.out.size hb5)
          clear hb5 s0 x0 xf f0 ea
          cases hh : hasSeat T stu ps[k]
          · have hno2 : Hid (∀ q, (hq : q < k + 1) → (hk : k + 1 ≤ ps.length) → hasSeat T stu (ps[q]'(by omega)) = false) := by
              intro q hq _
              by_cases e : q = k
              · subst e; exact hh
              · exact hno.out q (by omega) (by omega)
            clear hh
            go_wp2
            go_roundg (gk - 1)
            case measure => omega
            case rel => exact ⟨k + 1, by omega, by go_num, hno2, hB5⟩
          · have eE : Hid (takeE l T stu sec lab groups now = 250) := takeE_4 H1.out H2.out HOK.out (by
              rw [← HPS.out]; unfold hasAny; rw [List.any_eq_true]; exact ⟨_, List.getElem_mem hlt, hh⟩)
            have eX : Hid (takeX l T stu sec lab groups now = []) := takeX_err (by rw [eE.out]; omega)
            have tbe := tb7.setx (.slice none 0 0)
            obtain ⟨x0, xf⟩ := tb7.x.c1
            clear hh
            go_wp2
            refine bodyPost_ret (by simp only [results, Tryz.results6]; go_simp <;> rfl) rfl ?_
            exact TakePost.err eE.out.symm eX.out tbe.bel
        · obtain rfl : k = ps.length := by omega
          have HNO : Hid (hasAny T stu (partsB sec lab) = false) := by
            unfold Hid hasAny
            rw [← HPS.out, List.any_eq_false]
            intro p hp
            obtain ⟨q, hq, rfl⟩ := List.mem_iff_getElem.1 hp
            rw [hno.out q hq (Nat.le_refl _)]; simp
          have HO6 := Lib.hid (HO5.out.below hB.out)
          obtain ⟨b0, b1, _⟩ := tb6.b.c2
          clear hlt hno tb5 HO5 kp hB
          go_wp2_with fail
          refine (parts2_c sec lab _).mono ?_
          rintro e w5 ⟨⟨pb', pc', rfl, kp⟩, hb5⟩
          have tb7 := tb6.below hb5
          have HO7 := Lib.hid (HO6.out.below hb5)
          rw [← HPS.out] at kp
          rw [← HPS.out]
          clear hb5 tb6 HO6 b0 b1
          go_wp2
          go_loopg [92] ps.length (fun n i wr => ∃ k : Nat, n + k = ps.length ∧ i = .int .i64 k ∧ ∃ v L, Hid (takeN l T stu groups now ps k = some L) ∧ TB w wr A l.length c stu sec lab G groups.length gc now v ∧ Hid (OwnS w.heap.size wr v L) ∧ Blk wr pb' 3 (intsA ps))
          case atStart => exact ⟨0, by omega, rfl, _, T, rfl, tb7, HO7, kp⟩
          case round =>
            obtain ⟨k, hk, rfl, v, L, hL, tb8, HO8, kp8⟩ := hrel
            by_cases hlt : k < ps.length
            · obtain ⟨ad, eA, f0⟩ := (RInts.of_blk kp8 (by omega)).at (Below.refl _ _) k hlt
              cases eA
              rw [add0] at f0
              have hpk : ps[k]? = some ps[k] := List.getElem?_eq_getElem hlt
              have hTN := takeN_ok (now := now) H1.out H2.out HOK.out HNO.out (by rw [← HPS.out]; exact hpk) (by rw [← HPS.out]; exact hL.out)
              obtain ⟨hs, hLl, s, hf, hF⟩ := hTN
              have hsucc := Lib.hid (takeN_succ hpk hL.out)
              have HPK := Lib.hid hpk
              have ea : Addr.add ⟨pb', 0, none⟩ k = ⟨pb', k, none⟩ := add0 _ _
              have HSO := Lib.hid hs
              have HFF := Lib.hid hf
              have HF := Lib.hid hF
              clear hs hf hF hpk
              go_wp2_with fail
              refine (take1_c w A c l G gc groups L v stu now ps[k] w.heap.size (w.heap.size + 5) (w.heap.size + 4) (w.heap.size + 1) (w.heap.size + 3) s _ tb8.bel H.out HGR.out tb8.l tb8.x tb8.t tb8.s tb8.g (by omega) HO8.out HSO.out (by omega) HFF.out HF.out HG8.out).mono ?_
              rintro e w6 hpost
              clear f0 ea
              cases ht : takeOne l L stu ps[k] groups now with
              | none =>
                rw [ht] at hpost
                obtain ⟨hg, rfl, hx, ho⟩ := hpost
                have tb9 := tb8.grew hg hx
                have eE : Hid (takeE l T stu sec lab groups now = 251) := takeN_none H1.out H2.out HOK.out HNO.out (by rw [← HPS.out]; exact HPK.out) (by rw [← HPS.out]; exact hL.out) ht
                have eX : Hid (takeX l T stu sec lab groups now = []) := takeX_err (by rw [eE.out]; omega)
                have tbe := tb9.setx (.slice none 0 0)
                obtain ⟨x0, xf⟩ := tb9.x.c1
                clear ht hg hx ho
                go_wp2
                refine bodyPost_ret (by simp only [results, Tryz.results6]; go_simp <;> rfl) rfl ?_
                exact TakePost.err eE.out.symm eX.out tbe.bel
              | some L' =>
                rw [ht] at hpost
                obtain ⟨hg, rfl, v', hx, ho⟩ := hpost
                have tb9 := tb8.grew hg hx
                have HO9 := Lib.hid ho
                have hL9 : Hid (takeN l T stu groups now ps (k + 1) = some L') := by unfold Hid; rw [hsucc.out, ht]
                have kp9 := hg.blk _ _ _ (by
                  intro e
                  have h1 := kp8.is
                  rw [e, tb8.x.is] at h1
                  simp at h1) (by decide) kp8
                clear ht hg hx ho
                go_wp2
                go_roundg (gk - 1)
                case measure => omega
                case rel => exact ⟨k + 1, by omega, by go_num, v', L', hL9, tb9, HO9, kp9⟩
            · obtain rfl : k = ps.length := by omega
              have hfin := takeN_some (now := now) H1.out H2.out HOK.out HNO.out (by rw [← HPS.out]; exact hL.out)
              obtain ⟨eE, eX⟩ := hfin
              have EE := Lib.hid eE
              have EX := Lib.hid eX
              obtain ⟨V', dv', hv⟩ := HO8.out.shape
              subst hv
              have tbe := tb8.setx (.slice V' L.length dv')
              have HOe := Lib.hid (ownsRow_setCell_apart (j := 0) HO8.out (HO8.out.apart tb8.x (by decide)) (.slice V' L.length dv'))
              obtain ⟨x0, xf⟩ := tb8.x.c1
              clear eE eX hlt
              go_wp2
              refine bodyPost_ret (by simp only [results, Tryz.results6]; go_simp <;> rfl) rfl ?_
              rw [EE.out, EX.out]
              have hll : L.length ≤ 600000 := by
                have h1 := takeX_length l T stu sec lab groups now
                rw [EX.out] at h1
                omega
              exact ⟨⟨V', dv', rfl, (HOe.out.reads (by omega)).2, HOe.out.cap⟩, tbe.bel⟩
end Go.Proofs.YteonpdnncodkaaaGreatDoor
