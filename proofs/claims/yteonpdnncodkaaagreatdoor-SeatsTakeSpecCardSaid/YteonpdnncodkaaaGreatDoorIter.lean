/- Ranges over functions: what an iterator asks of a round that goes on, and the contracts of seats.of and meeting.pairs. -/
import Derived.Test.YteonpdnncodkaaaGreatDoorLeaf
import Derived.Test.YteonpdnncodkaaaGreatDoorSpec3
import Derived.RangeFuncNested
import Derived.RangeFuncBound
import Derived.RangeFuncCalls
import Derived.RangeFuncLeaves
import Derived.RangeFuncWrites
import Derived.Shelf.Abstract
import Derived.Shelf.RegionOpen
import Derived.OwnWalkIn
import Derived.TacticsInMore
import Derived.LoopNIn
import Derived.LoopIn
set_option linter.unusedVariables false
set_option linter.unusedSimpArgs false
namespace Go.Proofs.YteonpdnncodkaaaGreatDoor
open Go.RowKit Go.Shelf
attribute [local go_sem] Oper.semAt_some

/-- Every block of cells but g lies as it lay. -/
structure Kx (g : Option Nat) (w w' : World) : Prop where
  size : w.heap.size ≤ w'.heap.size
  same : ∀ k cs t f, some k ≠ g → w.heap[k]? = some (.cells cs t f) → w'.heap[k]? = some (.cells cs t f)
theorem Kx.refl (g : Option Nat) (w : World) : Kx g w w := ⟨Nat.le_refl _, fun _ _ _ _ _ h => h⟩
theorem Kx.trans {g : Option Nat} {a b c : World} (h : Kx g a b) (k : Kx g b c) : Kx g a c := ⟨Nat.le_trans h.size k.size, fun i cs t f hi ho => k.same i cs t f hi (h.same i cs t f hi ho)⟩
theorem Kx.of_below {g : Option Nat} {w w' : World} (h : Below w.heap.size w w') : Kx g w w' := ⟨h.size, fun k cs t f _ ho => (h.block k (Array.getElem?_eq_some_iff.1 ho).1).trans ho⟩
theorem Kx.cell {g : Option Nat} {w w' : World} (h : Kx g w w') {a : Addr} {v : Value} (hc : w.cell? a = some v) (hg : some a.block ≠ g) : w'.cell? a = some v := by
  unfold World.cell? at hc
  cases ho : w.heap[a.block]? with
  | none => simp [ho] at hc
  | some o =>
    cases o with
    | cells cs t f =>
      have := h.same a.block cs t f hg ho
      unfold World.cell?
      simp only [this]
      simpa [ho] using hc
    | _ => simp [ho] at hc
theorem Kx.blk {g : Option Nat} {w w' : World} (h : Kx g w w') {b : Nat} {t : TypeId} {cs : Array Value} (hb : Blk w b t cs) (hg : some b ≠ g) : Blk w' b t cs := ⟨h.same b cs t (0, 0) hg hb.is⟩
theorem Kx.t {g : Option Nat} {A B C : World} (h : Kx g A B) (k : Kx g B C) : Kx g A C := h.trans k
theorem Kx.b {g : Option Nat} {w : World} (W : World) (l : Nat) (o o' : Obj) (_ : w.heap.size ≤ l) (h : W.heap[l]? = some o) (hc : o.isCells = false) (_ : o.isWalk = false) : Kx g W (W.putObj l o') :=
  ⟨by simp, fun k cs t f _ ho => by
    by_cases e : k = l
    · subst e; rw [ho] at h; cases h; simp [Obj.isCells] at hc
    · exact (World.putObj_heap_other e).trans ho⟩

theorem blk_put {W : World} {D b : Nat} {o o' : Obj} {t : TypeId} {cs : Array Value} (h : Blk W b t cs) (hK : W.heap[D]? = some o) (hc : o.isCells = false) : Blk (W.putObj D o') b t cs := ⟨by
  refine (World.putObj_heap_other ?_).trans h.is
  rintro rfl
  have := h.is
  rw [this] at hK; cases hK; simp [Obj.isCells] at hc⟩
theorem blk_own {β : Type} (B g : Nat) (t : TypeId) (cs : Array Value) : OwnFrom B (fun (_ : β) W => Blk W g t cs) := fun s W W' row hs hg hr => ⟨by
  refine (hg.block g hs.lt ?_).trans hs.is
  intro e
  obtain ⟨_, o, ho, hc⟩ := hr g e.symm
  rw [hs.is] at ho; cases ho; simp [Obj.isCells] at hc⟩

theorem below_put {B : Nat} {w W : World} {D : Nat} {o : Obj} (h : Below B w W) (hB : B ≤ W.heap.size) (hD : B ≤ D) : Below B w (W.putObj D o) := h.grown (grownBy_putObj' W D o) hB (fun k e => by cases e; exact hD)

theorem Kx.setCell (W : World) (g i : Nat) (v : Value) : Kx (some g) W (W.setCell ⟨g, i, none⟩ v) := ⟨by simp [World.setCell], fun k cs t f hk ho => (Below.heap_setCell W ⟨g, i, none⟩ v k (fun e => hk (by simp at e; rw [e]))).trans ho⟩

/-- A row lies in one block, that is not g. -/
def Apart (A : Option Addr) (g : Option Nat) : Prop := ∀ ad, A = some ad → some ad.block ≠ g
theorem add_block (a : Addr) (n : Nat) : (a.add n).block = a.block := by unfold Addr.add; split <;> rfl
theorem add_add (a : Addr) (i j : Nat) : (a.add i).add j = a.add (i + j) := by
  unfold Addr.add
  by_cases hi : i = 0 <;> by_cases hj : j = 0 <;> simp [hi, hj, Nat.add_assoc]
/-- What is left behind the first n elements. -/
theorem Rd.drop {α : Type} {sz : Nat} {R : World → α → List Value → Prop} {w : World} {ad : Addr} {l : List α} (h : Rd sz R w (some ad) l) (n : Nat) : Rd sz R w (some (ad.add (n * sz))) (l.drop n) :=
  ⟨Nat.le_trans (Nat.mul_le_mul_right _ (by simp)) h.1, fun k hlt => by
    obtain ⟨ad', cs, e, hl, hr, hc⟩ := h.2 (n + k) (by simp at hlt; omega)
    cases e
    refine ⟨_, cs, rfl, hl, by rw [List.getElem_drop]; exact hr, fun j hj => ?_⟩
    rw [add_add, ← Nat.add_mul]
    exact hc j hj⟩
theorem Rd.kx {α : Type} {sz : Nat} {R : World → α → List Value → Prop} {g : Option Nat} {w w' : World} {A : Option Addr} {l : List α} (hR : ∀ x cs, R w x cs → R w' x cs) (h : Rd sz R w A l) (hk : Kx g w w') (ha : l ≠ [] → Apart A g) : Rd sz R w' A l :=
  ⟨h.1, fun k hlt => by
    have ha := ha (by intro e; subst e; simp at hlt)
    obtain ⟨ad, cs, e, hl, hr, hc⟩ := h.2 k hlt
    exact ⟨ad, cs, e, hl, hR _ _ hr, fun j hj => hk.cell (hc j hj) (by rw [cellOf_block, add_block]; exact ha ad e)⟩⟩
theorem RSeats.kx {g : Option Nat} {w w' : World} {A : Option Addr} {l : List Seat} (h : RSeats w A l) (hk : Kx g w w') (ha : l ≠ [] → Apart A g) : RSeats w' A l := Rd.kx (fun _ _ h => h) h hk ha
theorem RMts.kx {g : Option Nat} {w w' : World} {A : Option Addr} {l : List Mt} (h : RMts w A l) (hk : Kx g w w') (ha : l ≠ [] → Apart A g) : RMts w' A l := Rd.kx (fun _ _ h => h) h hk ha

theorem Rd.apart {α : Type} {sz : Nat} {R : World → α → List Value → Prop} {w : World} {A : Option Addr} {l : List α} (hs : 0 < sz) (h : Rd sz R w A l) (k : Nat) (hk : w.heap.size ≤ k) : l ≠ [] → Apart A (some k) := by
  intro hl ad e he
  obtain ⟨ad', cs, e', hlen, _, hc⟩ := h.2 0 (by cases l with | nil => exact absurd rfl hl | cons _ _ => simp)
  rw [e] at e'; cases e'
  have := block_lt (hc 0 (by omega))
  rw [cellOf_block, add_block] at this
  injection he with he
  omega

/-! ### seats.of -/
def encSeat (s : Seat) : Array Value := #[.agg #[.int .i64 s.stu, .int .i64 s.sec, .int .i64 s.grp]]
set_option maxRecDepth 100000 in
set_option maxHeartbeats 2000000 in
theorem of1_stops (g : Option Nat) (B1 B2 : Nat) (A : Option Addr) (c : Nat) (l : List Seat) (sec : Int) (N : Nat) (hN : l.length ≤ N) (w : World) (h : RSeats w A l) (ha : l ≠ [] → Apart A g) (h1 : w.cell? ⟨B1, 0, none⟩ = some (.slice A l.length c)) (h2 : w.cell? ⟨B2, 0, none⟩ = some (.int .i64 sec)) (hg1 : some B1 ≠ g) (hg2 : some B2 ≠ g)
    (hgw : ∀ k, g = some k → k < w.heap.size) :
    SeqStopsK Fence.wide 3 Tryz.prog 56 #[.pointer (some ⟨B1, 0, none⟩), .pointer (some ⟨B2, 0, none⟩)] encSeat (Kx g) (fun xs => xs = ofSec l sec) (fun pre => pre <+: ofSec l sec) N w := by
  intro L J Jx W hW hJ hJx hY h0
  have hl := h.len
  have HW := Lib.hid hW
  have H := Lib.hid h
  have H1 := Lib.hid h1
  have H2 := Lib.hid h2
  have c1 : W.cell? ⟨B1, 0, none⟩ = some (.slice A l.length c) := cell_kept hW h1
  clear hW h h1 h2
  refine callsIn_of_wp Tryz.func56 rfl trivial ?_ rfl
  simp only [Tryz.ntmps56, List.size_toArray, List.length_cons, List.length_nil, Nat.reduceAdd, Nat.reduceSub, Array.replicate_succ, Array.replicate_zero, List.push_toArray, List.append_toArray, List.nil_append, List.cons_append]
  gi_wp2
  gi_loopw [8] (fun i wr => ∃ k : Nat, k ≤ l.length ∧ i = .int .i64 k ∧ Hid (J (ofSec (l.take k) sec) wr) ∧ Hid (Kx g w wr) ∧ W.heap.size ≤ wr.heap.size) (fun i _ => l.length - (intOf i).toNat)
  case atStart => exact ⟨0, Nat.zero_le _, rfl, h0, Kx.of_below HW.out, Nat.le_refl _⟩
  case round =>
    obtain ⟨k, hk, rfl, hJs, hkx, hsz⟩ := hrel
    by_cases hlt : k < l.length
    · obtain ⟨ad, rfl, f0, f1, f2⟩ := (H.out.kx hkx.out ha).at (Below.refl _ _) k hlt
      have c2 : wr.cell? ⟨B2, 0, none⟩ = some (.int .i64 sec) := hkx.out.cell H2.out hg2
      have hB2 : B2 < wr.heap.size := block_lt c2
      have hk' := hkx.out
      by_cases he : l[k].sec = sec
      · have q : (l[k].sec == sec) = true := by simp [he]
        have e1 : ofSec (l.take (k + 1)) sec = ofSec (l.take k) sec ++ [l[k]] := by
          unfold ofSec; rw [List.take_succ_eq_append_getElem hlt, List.filter_append]; simp [q]
        have e2 := Lib.hid (ofSec_pre l sec (k + 1))
        have hlen : (ofSec (l.take k) sec).length < N := by
          have h1 := List.length_filter_le (fun s : Seat => s.sec == sec) (l.take k)
          have h2 : (l.take k).length ≤ k := List.length_take_le _ _
          unfold ofSec
          omega
        have E1 := Lib.hid e1
        clear he e1
        have hJ1 := hJ _ wr (wr.alloc (.cells #[.int .i64 l[k].stu, .int .i64 l[k].sec, .int .i64 l[k].grp] 44)) none hJs.out (World.grownBy_alloc _ _ _) (fun r e => by cases e)
        obtain ⟨fn, tmps, assign, body, hy, hR⟩ := hY _ l[k] _ hJ1 hlen
        dsimp only [encSeat] at hy
        clear hJ1 hlen hk'
        gi_wp2
        refine hR.mono ?_
        rintro e W3 (⟨rfl, hJ3, hk3⟩ | ⟨rfl, hJx3⟩)
        · have hJ3' := Lib.hid hJ3
          rw [← E1.out] at hJ3'
          have hk3' := Lib.hid (hkx.out.trans ((Kx.of_below (by go_grown)).trans hk3))
          have hs3 : W.heap.size ≤ W3.heap.size := by have := hk3.size; simp at this; omega
          clear hJ3 hk3
          gi_wp2
          go_roundw
          case rel => exact ⟨k + 1, by omega, by go_num, hJ3', hk3', hs3⟩
          case measure => simp [intOf]; omega
        · rw [← E1.out] at hJx3
          have hJx3' := Lib.hid hJx3
          clear hJx3
          gi_wp2
          refine bodyPost_ret (results_none rfl _ _ _) rfl ?_
          exact ⟨⟨_, rfl⟩, .inr ⟨_, e2.out, hJx3'.out⟩⟩
      · have q : (l[k].sec == sec) = false := by simp [he]
        have e1 : ofSec (l.take (k + 1)) sec = ofSec (l.take k) sec := by
          unfold ofSec; rw [List.take_succ_eq_append_getElem hlt, List.filter_append]; simp [q]
        have hJ1 := Lib.hid (hJ _ wr (wr.alloc (.cells #[.int .i64 l[k].stu, .int .i64 l[k].sec, .int .i64 l[k].grp] 44)) none hJs.out (World.grownBy_alloc _ _ _) (fun r e => by cases e))
        rw [← e1] at hJ1
        have hk1 := Lib.hid (hk'.trans (Kx.of_below (g := g) (show Below wr.heap.size wr (wr.alloc (.cells #[.int .i64 l[k].stu, .int .i64 l[k].sec, .int .i64 l[k].grp] 44)) by go_grown)))
        clear he e1 hk'
        gi_wp2
        refine ⟨fun _ h => (by cases h), ?_⟩
        gi_wp2
        go_roundw
        case rel => exact ⟨k + 1, by omega, by go_num, hJ1, hk1, by simp; omega⟩
        case measure => simp [intOf]; omega
    · obtain rfl : k = l.length := by omega
      rw [List.take_length] at hJs
      gi_wp2
      go_end0
      exact ⟨⟨_, rfl⟩, .inl ⟨_, rfl, hJs.out⟩⟩
end Go.Proofs.YteonpdnncodkaaaGreatDoor
