/- sections.checkAll: its contract. -/
import Derived.Test.YteonpdnncodkaaaGreatDoorCheck
import Derived.Maps.Own
import Derived.Maps.OwnOps
import Derived.Maps.OwnSet
import Derived.Maps.Views
set_option linter.unusedVariables false
set_option linter.unusedSimpArgs false
namespace Go.Proofs.YteonpdnncodkaaaGreatDoor
open Go.RowKit Go.Maps

theorem grown_below {w w' : World} (h : Below w.heap.size w w') : w.grownBy w' none := ⟨h.os, h.tape, h.output, h.size, fun i hi _ => h.block i hi⟩

def two (c t : Int) : DataW Unit := .agg [.lit (.int .i64 c), .lit (.int .i64 t)]
/-- What is read of a section in the map of labs: its course and its term. -/
def secElem : Value → Option (DataW Unit × List MemPlace)
  | .agg ⟨[.int .i64 _, .int .i64 c, .int .i64 t, .int .i64 _, .int .i64 _, .slice _ _ _, .slice _ _ _, .slice _ _ _, .bool _]⟩ => some (two c t, [])
  | _ => none
theorem secElem_inv {v : Value} {c t : Int} {ps : List MemPlace} (h : secElem v = some (two c t, ps)) : ∃ i p s A5 l5 c5 A6 l6 c6 A7 l7 c7 b, v = .agg #[.int .i64 i, .int .i64 c, .int .i64 t, .int .i64 p, .int .i64 s, .slice A5 l5 c5, .slice A6 l6 c6, .slice A7 l7 c7, .bool b] := by
  unfold secElem at h
  split at h
  · simp only [Option.some.injEq, Prod.mk.injEq, two, DataW.agg.injEq, List.cons.injEq, DataW.lit.injEq, Lit.int.injEq, true_and, and_true] at h
    obtain ⟨⟨rfl, rfl⟩, _⟩ := h
    exact ⟨_, _, _, _, _, _, _, _, _, _, _, _, _, rfl⟩
  · cases h
/-- The map's content: the labs of l. -/
structure LabMap (D : DataW Unit) (l : List Sec) : Prop where
  isMap : IsMap D
  has : ∀ id, Maps.has D (.int .i64 id) = (labLook l id).isSome
  at_ : ∀ id z, D.atKey (.int .i64 id) z = ((labLook l id).map fun p => two p.1 p.2).getD z
theorem LabMap.nil : LabMap (.map []) [] := ⟨isMap_empty, fun _ => rfl, fun _ _ => rfl⟩
theorem LabMap.skip {D : DataW Unit} {l : List Sec} (h : LabMap D l) {s : Sec} (hs : s.lab = false) : LabMap D (l ++ [s]) :=
  ⟨h.isMap, fun id => by rw [h.has, labLook_snoc]; simp [hs], fun id z => by rw [h.at_, labLook_snoc]; simp [hs]⟩
theorem LabMap.put {D : DataW Unit} {l : List Sec} (h : LabMap D l) {s : Sec} (hs : s.lab = true) : LabMap (D.put (.int .i64 s.id) (two s.course s.term)) (l ++ [s]) := by
  refine ⟨h.isMap.put _ _, fun id => ?_, fun id z => ?_⟩
  · rw [labLook_snoc]
    by_cases e : s.id = id
    · subst e
      rw [has_put_same h.isMap (by simp [WideAt.IsKeyLit])]
      simp [hs]
    · rw [has_put_other (by simpa using fun he => e he.symm), h.has]
      simp [hs, e]
  · rw [labLook_snoc]
    by_cases e : s.id = id
    · subst e
      rw [atKey_put_same h.isMap (by simp [WideAt.IsKeyLit])]
      simp [hs]
    · rw [atKey_put_other (by simpa using fun he => e he.symm), h.at_]
      simp [hs, e]

theorem intLaw : Keyed Tryz.prog 3 := int_keyed Tryz.underlying3
theorem zeroSec (w : World) : (zeroValue 40).run Tryz.prog w = .ok (.agg #[.int .i64 0, .int .i64 0, .int .i64 0, .int .i64 0, .int .i64 0, .slice none 0 0, .slice none 0 0, .slice none 0 0, .bool false]) w := by kernel_rfl
theorem key_ok {n : Int} (h0 : 0 ≤ n) (h1 : n ≤ 3999) : keyOf Tryz.prog 3 (.int .i64 n) = some (.int .i64 n) := keyOf_int_mk Tryz.underlying3 (WalkArith.wf_i64 (by omega))

set_option maxRecDepth 100000 in
set_option maxHeartbeats 2000000 in
theorem misfit_c (l : List Sec) (s : Sec) (A5 : Option Addr) (c5 : Nat) (A6 : Option Addr) (c6 : Nat) (A7 : Option Addr) (c7 : Nat) (n : Int) (h0 : 0 ≤ n) (h1 : n ≤ 3999) (B1 B2 bm nm : Nat) (D : DataW Unit) (w : World) (hm : LabMap D l) (ho : w.ownsMap Tryz.prog 3 secElem bm nm D)
    (k1 : Blk w B1 113 #[.map (some bm)]) (k2 : Blk w B2 40 #[.int .i64 s.id, .int .i64 s.course, .int .i64 s.term, .int .i64 s.campus, .int .i64 s.seats, .slice A5 s.meets.length c5, .slice A6 s.groups.length c6, .slice A7 s.labs.length c7, .bool s.lab]) :
    Calls Tryz.prog 75 #[.int .i64 n, .pointer (some ⟨B1, 0, none⟩), .pointer (some ⟨B2, 0, none⟩)] w fun e w' => e = .returned (.bool (misfit l s n)) ∧ Below w.heap.size w w' := by
  obtain ⟨a0, _⟩ := k1.c1
  obtain ⟨b0, b1, b2, b3, b4, b5, b6, b7, b8, bf⟩ := k2.c9
  have hs1 := k1.lt
  have hs2 := k2.lt
  have hkey := key_ok h0 h1
  have hh := hm.has n
  have ha := hm.at_ n (two 0 0)
  cases e : labLook l n with
  | none =>
    have fin : misfit l s n = true := by unfold misfit; rw [e]
    have Fin := Lib.hid fin
    rw [e] at hh ha
    have Hh := Lib.hid hh
    have Ha := Lib.hid ha
    have Hk := Lib.hid hkey
    clear fin hh ha e hkey k1 k2 hm
    go_enter Tryz.func75, Tryz.ntmps75
    go_wp2_with (at_lookup; refine wpList_lookup_own_ok _ rfl _ _ 113 rfl 3 40 intLaw Tryz.underlying113 secElem (zeroSec _) (two 0 0) [] rfl bm nm D rfl ho _ _ rfl Hk.out ?_; intro v ps hv; rw [Ha.out] at hv; rw [Hh.out]; obtain ⟨xi, xp, xs, x5, y5, z5, x6, y6, z6, x7, y7, z7, xb, rfl⟩ := secElem_inv hv; clear hv)
    go_ret
    exact ⟨ret_bool Fin.out.symm, by go_grown⟩
  | some p =>
    obtain ⟨c, t⟩ := p
    have fin : misfit l s n = (c != s.course || t != s.term) := by unfold misfit; rw [e]
    have Fin := Lib.hid fin
    rw [e] at hh ha
    have Hh := Lib.hid hh
    have Ha := Lib.hid ha
    have Hk := Lib.hid hkey
    clear fin hh ha e hkey k1 k2 hm
    go_enter Tryz.func75, Tryz.ntmps75
    go_wp2_with (at_lookup; refine wpList_lookup_own_ok _ rfl _ _ 113 rfl 3 40 intLaw Tryz.underlying113 secElem (zeroSec _) (two 0 0) [] rfl bm nm D rfl ho _ _ rfl Hk.out ?_; intro v ps hv; rw [Ha.out] at hv; rw [Hh.out]; obtain ⟨xi, xp, xs, x5, y5, z5, x6, y6, z6, x7, y7, z7, xb, rfl⟩ := secElem_inv hv; clear hv)
    all_goals
      go_ret
      exact ⟨ret_bool (by rw [Fin.out]; simp [*]), by go_grown⟩

set_option maxHeartbeats 1000000 in
/-- slices.IndexFunc over numbers, at whatever closure that only reads. -/
theorem idxInt_c (A : Option Addr) (c : Nat) (l : List Int) (g : Nat) (lb : Array Value) (p : Int → Bool) (w : World) (h : RInts w A l) (eg : ∀ args w, (callFunc g args).run Tryz.prog w = .ok (.enter g args) w)
    (hp : ∀ (W : World) (x : Int), Below w.heap.size w W → x ∈ l → Calls Tryz.prog g (#[.int .i64 x] ++ lb) W fun e W' => e = .returned (.bool (p x)) ∧ Below W.heap.size W W') :
    Calls Tryz.prog 19 #[.slice A l.length c, .func (.func g) #[] lb] w fun e w' => e = .returned (.int .i64 (idx p l)) ∧ Below w.heap.size w w' := by
  have hl := h.len
  have H := Lib.hid h
  have HP := Lib.hid hp
  clear h hp
  go_enter Tryz.func19, Tryz.ntmps19
  go_wp2
  go_loopg [8] l.length (fun n i wr => ∃ k : Nat, n + k = l.length ∧ i = .int .i64 k ∧ Hid (∀ q, (hq : q < k) → (hk : k ≤ l.length) → p (l[q]'(by omega)) = false) ∧ Hid (Below w.heap.size w wr))
  case atStart => exact ⟨0, by omega, rfl, by intro q hq; omega, by unfold Hid; go_grown⟩
  case round =>
    obtain ⟨k, hk, rfl, ha, hB⟩ := hrel
    by_cases hlt : k < l.length
    · obtain ⟨ad, rfl, f0⟩ := H.out.at hB.out k hlt
      go_wp2_with fail
      refine (HP.out _ l[k] hB.out (List.getElem_mem hlt)).mono ?_
      rintro e w1 ⟨rfl, hb1⟩
      have hB1 := Lib.hid (bthen hB.out hB.out.size hb1)
      clear hb1 hB
      cases hq : p l[k]
      · have fin := Lib.hid (fun q (hq : q < k + 1) (_ : k + 1 ≤ l.length) => idx_none_step (p := p) hlt (fun q hq => ha.out q hq (by omega)) (by assumption) q hq)
        clear hq
        go_wp2
        go_roundg (gk - 1)
        case measure => omega
        case rel => exact ⟨k + 1, by omega, by go_num, fin, hB1⟩
      · have fin := Lib.hid (idx_some (p := p) hlt (fun q hq => ha.out q hq (by omega)) hq)
        clear hq
        go_wp2
        go_ret
        exact ⟨ret_i64 fin.out.symm, hB1.out⟩
    · obtain rfl : k = l.length := by omega
      have fin := Lib.hid (idx_none (p := p) (fun q hq => ha.out q hq (Nat.le_refl _)))
      go_wp2
      go_ret
      exact ⟨ret_i64 fin.out.symm, hB.out⟩

set_option maxHeartbeats 1000000 in
theorem conInt_c (A : Option Addr) (c : Nat) (l : List Int) (g : Nat) (lb : Array Value) (p : Int → Bool) (w : World) (h : RInts w A l) (eg : ∀ args w, (callFunc g args).run Tryz.prog w = .ok (.enter g args) w)
    (hp : ∀ (W : World) (x : Int), Below w.heap.size w W → x ∈ l → Calls Tryz.prog g (#[.int .i64 x] ++ lb) W fun e W' => e = .returned (.bool (p x)) ∧ Below W.heap.size W W') :
    Calls Tryz.prog 76 #[.slice A l.length c, .func (.func g) #[] lb] w fun e w' => e = .returned (.bool (l.any p)) ∧ Below w.heap.size w w' := by
  have H := Lib.hid h
  have HP := Lib.hid hp
  have EG := Lib.hid eg
  clear h hp eg
  go_enter Tryz.func76, Tryz.ntmps76
  go_wp2_with (go_at_call 19; refine (idxInt_c A c l g lb p _ H.out EG.out HP.out).mono ?_; rintro e w1 ⟨rfl, hb1⟩)
  go_ret
  exact ⟨ret_bool (by rw [← idx_any]), by assumption⟩

set_option maxRecDepth 100000 in
set_option maxHeartbeats 4000000 in
theorem checkAll_c (A : Option Addr) (c : Nat) (l : List Sec) (w : World) (h : RSecs w A l) :
    Calls Tryz.prog 58 #[.slice A l.length c] w fun e w' => e = .returned (errV (checkAllS l)) ∧ Below w.heap.size w w' := by
  have hl := h.len
  have H := Lib.hid h
  have hmm := @run_makeMap Tryz.prog
  clear h
  go_enter Tryz.func58, Tryz.ntmps58
  go_wp2
  go_loopg [14] l.length (fun n i wr => ∃ k : Nat, n + k = l.length ∧ i = .int .i64 k ∧ Hid (∀ s ∈ l.take k, secCheck s = 0) ∧ Hid (Below w.heap.size w wr) ∧ Blk wr (w.heap.size + 1) 113 #[.map (some w.heap.size)] ∧ Hid (∃ D, LabMap D (l.take k) ∧ wr.ownsMap Tryz.prog 3 secElem w.heap.size k D))
  case atStart =>
    exact ⟨0, by omega, rfl, by simp [Hid], by unfold Hid; go_grown, Blk.mk' _ _ (by simp) _ _, ⟨_, LabMap.nil, (World.ownsMap_made w Tryz.prog 3 secElem).alloc _⟩⟩
  case round =>
    obtain ⟨k, hk, rfl, ha, hB, hbk, hM⟩ := hrel
    obtain ⟨z0, zf⟩ := hbk.c1
    have hsz := hbk.lt
    by_cases hlt : k < l.length
    · obtain ⟨ad, A5, c5, A6, c6, A7, c7, rfl, hs, f0, f1, f2, f3, f4, f5, f6, f7, f8⟩ := H.out.at hB.out k hlt
      have HS := Lib.hid hs
      clear hs
      go_wp2_with fail
      have W0 : Below w.heap.size w (wr.alloc (.cells #[.int .i64 l[k].id, .int .i64 l[k].course, .int .i64 l[k].term, .int .i64 l[k].campus, .int .i64 l[k].seats, .slice A5 l[k].meets.length c5, .slice A6 l[k].groups.length c6, .slice A7 l[k].labs.length c7, .bool l[k].lab] 40)) := hB.out.alloc hB.out.size _
      have K0 := Blk.new wr 40 #[.int .i64 l[k].id, .int .i64 l[k].course, .int .i64 l[k].term, .int .i64 l[k].campus, .int .i64 l[k].seats, .slice A5 l[k].meets.length c5, .slice A6 l[k].groups.length c6, .slice A7 l[k].labs.length c7, .bool l[k].lab]
      refine (check_c l[k] A5 c5 A6 c6 A7 c7 _ (HS.out.below W0)).mono ?_
      rintro e w1 ⟨rfl, hb1⟩
      have K1 := K0.kept hb1 (by simp)
      have hbk1 := (hbk.alloc (.cells #[.int .i64 l[k].id, .int .i64 l[k].course, .int .i64 l[k].term, .int .i64 l[k].campus, .int .i64 l[k].seats, .slice A5 l[k].meets.length c5, .slice A6 l[k].groups.length c6, .slice A7 l[k].labs.length c7, .bool l[k].lab] 40)).kept hb1 (by simp <;> omega)
      have hB1 := Lib.hid (bthen W0 (by have := hB.out.size; simp <;> omega) hb1)
      obtain ⟨D, hD, hown⟩ := hM.out
      have hown1 := (hown.alloc (.cells #[.int .i64 l[k].id, .int .i64 l[k].course, .int .i64 l[k].term, .int .i64 l[k].campus, .int .i64 l[k].seats, .slice A5 l[k].meets.length c5, .slice A6 l[k].groups.length c6, .slice A7 l[k].labs.length c7, .bool l[k].lab] 40)).kept (grown_below hb1) (by simp)
      have HD := Lib.hid hD
      clear W0 K0 hb1 hbk hB z0 zf f0 f1 f2 f3 f4 f5 f6 f7 f8 hM hown hD
      obtain ⟨z0, zf⟩ := hbk1.c1
      obtain ⟨b0, b1, b2, b3, b4, b5, b6, b7, b8, bf⟩ := K1.c9
      obtain ⟨m, hm⟩ : ∃ m, secCheck l[k] = m := ⟨_, rfl⟩
      have Hm := Lib.hid hm
      rw [hm]
      clear hm
      by_cases h0 : m = 0
      · subst h0
        have fin : Hid (∀ s ∈ l.take (k + 1), secCheck s = 0) := by
          intro s hs
          rw [List.take_succ_eq_append_getElem hlt] at hs
          rcases List.mem_append.1 hs with hs | hs
          · exact ha.out s hs
          · rw [List.mem_singleton.1 hs]; exact Hm.out
        rw [errV_zero]
        cases hlab : l[k].lab
        · have fD : Hid (LabMap D (l.take (k + 1))) := by rw [List.take_succ_eq_append_getElem hlt]; exact HD.out.skip hlab
          have HO := Lib.hid (hown1.mono (Nat.le_succ k))
          rw [hlab] at b8
          clear hlab hown1
          go_wp2
          go_roundg (gk - 1)
          case measure => omega
          case rel => exact ⟨k + 1, by omega, by go_num, fin, hB1, hbk1, ⟨D, fD.out, HO.out⟩⟩
        · have fD : Hid (LabMap (D.put (.int .i64 l[k].id) (two l[k].course l[k].term)) (l.take (k + 1))) := by rw [List.take_succ_eq_append_getElem hlt]; exact HD.out.put hlab
          have hid := wi_true.1 (secCheck_zero Hm.out).1.1
          have Hk := Lib.hid (key_ok hid.1 hid.2)
          rw [hlab] at b8
          clear hid
          go_wp2_with (at_mapUpdate; refine wpList_mapUpdate_own _ rfl _ _ _ 113 rfl 3 40 intLaw Tryz.underlying113 secElem w.heap.size k D rfl hown1 (by unfold maxLen; omega) _ _ _ rfl rfl Hk.out (two l[k].course l[k].term) [] rfl ?_; intro w2 hown2 hgrow2)
          go_roundg (gk - 1)
          case measure => omega
          case rel => exact ⟨k + 1, by omega, by go_num, fin, hB1.out.grown hgrow2 hB1.out.size (fun j e => by cases e; exact Nat.le_refl _), hbk1.grown hgrow2 (by simp), ⟨_, fD.out, hown2⟩⟩
      · have fin := Lib.hid (checkAllS_bad hlt ha.out (by rw [Hm.out]; exact h0))
        have H0 := Lib.hid h0
        rw [errV_pos h0]
        clear h0
        go_wp2
        go_ret
        exact ⟨by rw [fin.out, Hm.out, errV_pos H0.out]; rfl, hB1.out⟩
    · obtain rfl : k = l.length := by omega
      rw [List.take_length] at ha hM
      obtain ⟨D, hD, hown⟩ := hM.out
      have HD := Lib.hid hD
      have HO := Lib.hid hown
      clear hM hD hown
      go_wp2
      go_loopg [7, 32] l.length (fun n la i wr => ∃ k : Nat, n + k = l.length ∧ i = .int .i64 k ∧ la = .int .i64 (lastK (·.id) l k) ∧ Hid (Inc (·.id) 3999 (l.take k)) ∧ Hid (∀ s ∈ l.take k, ∀ n ∈ s.labs, misfit l s n = false) ∧ Hid (Below w.heap.size w wr) ∧ Blk wr (w.heap.size + 1) 113 #[.map (some w.heap.size)] ∧ Hid (wr.ownsMap Tryz.prog 3 secElem w.heap.size l.length D))
      case atStart => exact ⟨0, by omega, rfl, rfl, Inc.nil _ _, by simp [Hid], hB, hbk, HO⟩
      case round =>
        obtain ⟨k, hk, rfl, rfl, hi, hm, hB, hbk, hO⟩ := hrel
        obtain ⟨z0, zf⟩ := hbk.c1
        have hsz := hbk.lt
        by_cases hlt : k < l.length
        · obtain ⟨ad, A5, c5, A6, c6, A7, c7, rfl, hs, f0, f1, f2, f3, f4, f5, f6, f7, f8⟩ := H.out.at hB.out k hlt
          have HS := Lib.hid hs
          have hz := secCheck_zero (ha.out _ (List.getElem_mem hlt))
          have hid := wi_true.1 hz.1.1
          have hlabs := Lib.hid hz.1.2.2.2.2.2.2.2.1
          have hlk := lastK_ge (by omega) hi.out (by omega)
          have hl1 := hlk.1
          have hl2 := hlk.2.1
          have hid1 := hid.1
          have hid2 := hid.2
          clear hs hz hlk hid
          by_cases hle : l[k].id ≤ lastK (·.id) l k
          · have fin : checkAllS l = 230 := by
              rw [checkAllS_fits ha.out, if_neg]
              intro hf
              exact Inc.no (f := fun s : Sec => s.id) hlt (fun h => by omega) (ids_inc ha.out hf.1)
            have Fin := Lib.hid fin
            clear fin
            go_wp2
            go_ret
            exact ⟨by rw [Fin.out]; rfl, by have h := hB.out; go_grown⟩
          · go_wp2_with fail
            have W0 : Below w.heap.size w (wr.alloc (.cells #[.int .i64 l[k].id, .int .i64 l[k].course, .int .i64 l[k].term, .int .i64 l[k].campus, .int .i64 l[k].seats, .slice A5 l[k].meets.length c5, .slice A6 l[k].groups.length c6, .slice A7 l[k].labs.length c7, .bool l[k].lab] 40)) := hB.out.alloc hB.out.size _
            have K0 := Blk.new wr 40 #[.int .i64 l[k].id, .int .i64 l[k].course, .int .i64 l[k].term, .int .i64 l[k].campus, .int .i64 l[k].seats, .slice A5 l[k].meets.length c5, .slice A6 l[k].groups.length c6, .slice A7 l[k].labs.length c7, .bool l[k].lab]
            have K2 := hbk.alloc (.cells #[.int .i64 l[k].id, .int .i64 l[k].course, .int .i64 l[k].term, .int .i64 l[k].campus, .int .i64 l[k].seats, .slice A5 l[k].meets.length c5, .slice A6 l[k].groups.length c6, .slice A7 l[k].labs.length c7, .bool l[k].lab] 40)
            have O2 := hO.out.alloc (.cells #[.int .i64 l[k].id, .int .i64 l[k].course, .int .i64 l[k].term, .int .i64 l[k].campus, .int .i64 l[k].seats, .slice A5 l[k].meets.length c5, .slice A6 l[k].groups.length c6, .slice A7 l[k].labs.length c7, .bool l[k].lab] 40)
            refine (conInt_c A7 c7 l[k].labs 75 #[.pointer (some ⟨w.heap.size + 1, 0, none⟩), .pointer (some ⟨wr.heap.size, 0, none⟩)] (misfit l l[k]) _ (HS.out.l.below W0) (enters_of Tryz.func75 (by kernel_rfl) rfl)
              (fun W x hW hx => misfit_c l l[k] A5 c5 A6 c6 A7 c7 x (hlabs.out.1 x hx).1 (hlabs.out.1 x hx).2 (w.heap.size + 1) wr.heap.size w.heap.size l.length D W HD.out (O2.kept (grown_below hW) (by simp)) (K2.kept hW K2.lt) (K0.kept hW K0.lt))).mono ?_
            rintro e w1 ⟨rfl, hb1⟩
            have K3 := K0.kept hb1 K0.lt
            have hbk1 := K2.kept hb1 K2.lt
            have hO1 := Lib.hid (O2.kept (grown_below hb1) (by simp))
            have hB1 := Lib.hid (bthen W0 (by have := hB.out.size; simp <;> omega) hb1)
            clear W0 K0 K2 O2 hb1 hbk hB hO z0 zf f0 f1 f2 f3 f4 f5 f6 f7 f8
            obtain ⟨b0, b1, b2, b3, b4, b5, b6, b7, b8, bf⟩ := K3.c9
            cases hq : l[k].labs.any (misfit l l[k])
            · have f1 : Hid (Inc (·.id) 3999 (l.take (k + 1))) := Inc.step (f := fun s : Sec => s.id) hlt hi.out (by omega) (by omega) hid2
              have f2 : Hid (∀ s ∈ l.take (k + 1), ∀ n ∈ s.labs, misfit l s n = false) := by
                intro s hs n hn
                rw [List.take_succ_eq_append_getElem hlt] at hs
                rcases List.mem_append.1 hs with hs | hs
                · exact hm.out s hs n hn
                · rw [List.mem_singleton.1 hs] at hn ⊢
                  have := List.any_eq_false.1 hq n hn
                  simpa using this
              have e2 := Lib.hid (lastK_succ (fun s : Sec => s.id) l hlt)
              clear hq
              go_wp2
              go_roundg (gk - 1)
              case measure => omega
              case rel => exact ⟨k + 1, by omega, by go_num, by rw [e2.out], f1, f2, hB1, hbk1, hO1⟩
            · have fin : checkAllS l = 230 := by
                rw [checkAllS_fits ha.out, if_neg]
                intro hf
                obtain ⟨n, hn, hx⟩ := List.any_eq_true.1 hq
                rw [hf.no_misfit (List.getElem_mem hlt) hn] at hx
                cases hx
              have Fin := Lib.hid fin
              clear fin hq
              go_wp2
              go_ret
              exact ⟨by rw [Fin.out]; rfl, hB1.out⟩
        · obtain rfl : k = l.length := by omega
          rw [List.take_length] at hi hm
          have fin : checkAllS l = 0 := by rw [checkAllS_fits ha.out, if_pos (Fits.of_fit hi.out.2 hm.out)]
          have Fin := Lib.hid fin
          clear fin
          go_wp2
          go_ret
          exact ⟨by rw [Fin.out]; rfl, hB.out⟩

set_option maxHeartbeats 1000000 in
theorem secCheckAll_c (A : Option Addr) (c : Nat) (l : List Sec) (w : World) (hG : Glob w) (h : RSecs w A l) :
    Calls Tryz.prog 34 #[.slice A l.length c] w fun e w' => e = .returned (.int .i64 (checkAllS l)) ∧ Below w.heap.size w w' := by
  have H := Lib.hid h
  clear h
  go_enter Tryz.func34, Tryz.ntmps34
  go_wp2_with fail
  refine (checkAll_c A c l _ H.out).mono ?_
  rintro e w1 ⟨rfl, hb1⟩
  have hB1 := Lib.hid hb1
  clear hb1
  go_wp2_with fail
  refine (code_c (checkAllS l) _ (hG.below hB1.out)).mono ?_
  rintro e w2 ⟨rfl, hb2⟩
  have hB2 := Lib.hid (bthen hB1.out hB1.out.size hb2)
  clear hb2
  go_wp2
  go_ret
  exact ⟨rfl, hB2.out⟩
end Go.Proofs.YteonpdnncodkaaaGreatDoor
