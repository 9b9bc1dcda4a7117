/- What the walks share: how slices of whole numbers and of structs are read in a world, and that a reading lives on while nothing that was there turns. -/
import Derived.Test.YteonpdnncodkaaaGreatDoorProg
import Derived.Test.YteonpdnncodkaaaGreatDoorSpec
import Derived.WalkKit
import Derived.WalkLawsBesides
import Derived.WalkSpells
import Derived.Below
import Derived.BigQuiet
import Derived.Deep.QuietTactic
import Derived.Deep.LoopGhost
import Derived.Deep.RegionWith
import Derived.Deep.DeepCutAuto
import Derived.Handy
import Derived.Outline
import Derived.StillTailTactics
import Derived.Lib.Hide
namespace Go.Proofs.YteonpdnncodkaaaGreatDoor
open Go.RowKit

/-! ### readings -/
/-- Cell j of the element whose first cell is a. -/
def cellOf (a : Addr) (j : Nat) : Addr := if j = 0 then a else ⟨a.block, a.off + j, none⟩
theorem cellOf_block (a : Addr) (j : Nat) : (cellOf a j).block = a.block := by unfold cellOf; split <;> rfl

/-- The row at A reads as l: element k's cells (sz of them) are told by R. -/
def Rd {α : Type} (sz : Nat) (R : World → α → List Value → Prop) (w : World) (A : Option Addr) (l : List α) : Prop :=
  l.length * sz ≤ 140737488355328 ∧ ∀ k, (hk : k < l.length) → ∃ (ad : Addr) (cs : List Value), A = some ad ∧ cs.length = sz ∧ R w l[k] cs ∧ ∀ j, (hj : j < cs.length) → w.cell? (cellOf (ad.add (k * sz)) j) = some cs[j]

theorem block_lt {w : World} {a : Addr} {v : Value} (h : w.cell? a = some v) : a.block < w.heap.size := World.block_lt_of_cell? w a h

theorem cell_kept {w w' : World} (hb : Below w.heap.size w w') {a : Addr} {v : Value} (h : w.cell? a = some v) : w'.cell? a = some v := (hb.cell (block_lt h)).trans h

/-- A region whose operations but the last only read: the world under a name. -/
theorem still_tail {P : Program} {id : Nat} {Q : Exit → Act → World → Prop} {a : Act} {w : World} {l : List Oper} (n : Nat) (hm : P.follows .mixedOrders = true) (hB : Region.lexTailB .any l.toArray n = true) (W : World) (hW : W = w.drew)
    (h : wpStill P l.toArray W (fun a' => wpList P l.toArray Q (l.drop n) a' W) (l.take n) a) : (Code.region id l.toArray true).wp P Q a w := by
  subst hW; exact wp_region_still_tail n hm hB h
theorem bdrewN {B : Nat} {a w : World} (h : Below B a w) (n : Nat) : Below B a (w.drewN n) := ⟨h.os, h.tape, h.output, h.size, h.block⟩
theorem bthen {B : Nat} {w W w1 : World} (h : Below B w W) (hB : B ≤ W.heap.size) (k : Below W.heap.size W w1) : Below B w w1 := h.trans (k.mono hB)

theorem Rd.below {α : Type} {sz : Nat} {R : World → α → List Value → Prop} (hR : ∀ (w w' : World) (x : α) (cs : List Value), Below w.heap.size w w' → R w x cs → R w' x cs)
    {w w' : World} {A : Option Addr} {l : List α} (h : Rd sz R w A l) (hb : Below w.heap.size w w') : Rd sz R w' A l :=
  ⟨h.1, fun k hk => by
    obtain ⟨ad, cs, e, hl, hr, hc⟩ := h.2 k hk
    exact ⟨ad, cs, e, hl, hR _ _ _ _ hb hr, fun j hj => cell_kept hb (hc j hj)⟩⟩

def mtC (m : Mt) : List Value := [.int .i64 m.day, .int .i64 m.frm, .int .i64 m.til, .int .i64 m.fst, .int .i64 m.lst]
def gpC (g : Gp) : List Value := [.int .i64 g.g, .int .i64 g.s, .int .i64 g.u]
def stC (s : Seat) : List Value := [.int .i64 s.stu, .int .i64 s.sec, .int .i64 s.grp]
def RInts (w : World) (A : Option Addr) (l : List Int) : Prop := Rd 1 (fun _ x cs => cs = [.int .i64 x]) w A l
def RMts (w : World) (A : Option Addr) (l : List Mt) : Prop := Rd 5 (fun _ x cs => cs = mtC x) w A l
def RGps (w : World) (A : Option Addr) (l : List Gp) : Prop := Rd 3 (fun _ x cs => cs = gpC x) w A l
def RSeats (w : World) (A : Option Addr) (l : List Seat) : Prop := Rd 3 (fun _ x cs => cs = stC x) w A l

/-- The nine cells of a section. -/
def secC (s : Sec) (A5 : Option Addr) (c5 : Nat) (A6 : Option Addr) (c6 : Nat) (A7 : Option Addr) (c7 : Nat) : List Value :=
  [.int .i64 s.id, .int .i64 s.course, .int .i64 s.term, .int .i64 s.campus, .int .i64 s.seats, .slice A5 s.meets.length c5, .slice A6 s.groups.length c6, .slice A7 s.labs.length c7, .bool s.lab]
structure SecIn (w : World) (s : Sec) (A5 : Option Addr) (c5 : Nat) (A6 : Option Addr) (c6 : Nat) (A7 : Option Addr) (c7 : Nat) : Prop where
  m : RMts w A5 s.meets
  g : RGps w A6 s.groups
  l : RInts w A7 s.labs
  c5 : s.meets.length ≤ c5
  c6 : s.groups.length ≤ c6
  c7 : s.labs.length ≤ c7
def SecR (w : World) (s : Sec) (cs : List Value) : Prop := ∃ A5 c5 A6 c6 A7 c7, cs = secC s A5 c5 A6 c6 A7 c7 ∧ SecIn w s A5 c5 A6 c6 A7 c7
def RSecs (w : World) (A : Option Addr) (l : List Sec) : Prop := Rd 9 SecR w A l

theorem RInts.below {w w' : World} {A : Option Addr} {l : List Int} (h : RInts w A l) (hb : Below w.heap.size w w') : RInts w' A l := Rd.below (fun _ _ _ _ _ h => h) h hb
theorem RMts.below {w w' : World} {A : Option Addr} {l : List Mt} (h : RMts w A l) (hb : Below w.heap.size w w') : RMts w' A l := Rd.below (fun _ _ _ _ _ h => h) h hb
theorem RGps.below {w w' : World} {A : Option Addr} {l : List Gp} (h : RGps w A l) (hb : Below w.heap.size w w') : RGps w' A l := Rd.below (fun _ _ _ _ _ h => h) h hb
theorem RSeats.below {w w' : World} {A : Option Addr} {l : List Seat} (h : RSeats w A l) (hb : Below w.heap.size w w') : RSeats w' A l := Rd.below (fun _ _ _ _ _ h => h) h hb
theorem SecIn.below {w w' : World} {s : Sec} {A5 : Option Addr} {c5 : Nat} {A6 : Option Addr} {c6 : Nat} {A7 : Option Addr} {c7 : Nat} (h : SecIn w s A5 c5 A6 c6 A7 c7) (hb : Below w.heap.size w w') : SecIn w' s A5 c5 A6 c6 A7 c7 :=
  ⟨h.m.below hb, h.g.below hb, h.l.below hb, h.c5, h.c6, h.c7⟩
theorem SecR.below {w w' : World} {s : Sec} {cs : List Value} (hb : Below w.heap.size w w') (h : SecR w s cs) : SecR w' s cs := by
  obtain ⟨A5, c5, A6, c6, A7, c7, e, h⟩ := h
  exact ⟨A5, c5, A6, c6, A7, c7, e, h.below hb⟩
theorem RSecs.below {w w' : World} {A : Option Addr} {l : List Sec} (h : RSecs w A l) (hb : Below w.heap.size w w') : RSecs w' A l := Rd.below (R := SecR) (fun _ _ _ _ hb h => SecR.below hb h) h hb

theorem Rd.len {α : Type} {sz : Nat} {R : World → α → List Value → Prop} {w : World} {A : Option Addr} {l : List α} (h : Rd sz R w A l) (h1 : 1 ≤ sz) : l.length ≤ 140737488355328 :=
  Nat.le_trans (Nat.le_mul_of_pos_right _ h1) h.1
theorem RInts.len {w : World} {A : Option Addr} {l : List Int} (h : RInts w A l) : l.length ≤ 140737488355328 := Rd.len h (by omega)
theorem RMts.len {w : World} {A : Option Addr} {l : List Mt} (h : RMts w A l) : l.length ≤ 140737488355328 := Rd.len h (by omega)
theorem RGps.len {w : World} {A : Option Addr} {l : List Gp} (h : RGps w A l) : l.length ≤ 140737488355328 := Rd.len h (by omega)
theorem RSeats.len {w : World} {A : Option Addr} {l : List Seat} (h : RSeats w A l) : l.length ≤ 140737488355328 := Rd.len h (by omega)
theorem RSecs.len {w : World} {A : Option Addr} {l : List Sec} (h : RSecs w A l) : l.length ≤ 140737488355328 := Rd.len h (by omega)

theorem RInts.at {w W : World} {A : Option Addr} {l : List Int} (h : RInts w A l) (hb : Below w.heap.size w W) (k : Nat) (hk : k < l.length) : ∃ ad, A = some ad ∧ W.cell? (ad.add k) = some (.int .i64 l[k]) := by
  obtain ⟨ad, cs, e, _, rfl, hc0⟩ := h.2 k hk
  have hc := fun j hj => cell_kept hb (hc0 j hj)
  exact ⟨ad, e, by simpa [cellOf] using hc 0 (by simp)⟩
theorem RMts.at {w W : World} {A : Option Addr} {l : List Mt} (h : RMts w A l) (hb : Below w.heap.size w W) (k : Nat) (hk : k < l.length) : ∃ ad, A = some ad ∧ W.cell? (ad.add (k * 5)) = some (.int .i64 l[k].day) ∧ W.cell? ⟨(ad.add (k * 5)).block, (ad.add (k * 5)).off + 1, none⟩ = some (.int .i64 l[k].frm) ∧
    W.cell? ⟨(ad.add (k * 5)).block, (ad.add (k * 5)).off + 2, none⟩ = some (.int .i64 l[k].til) ∧ W.cell? ⟨(ad.add (k * 5)).block, (ad.add (k * 5)).off + 3, none⟩ = some (.int .i64 l[k].fst) ∧ W.cell? ⟨(ad.add (k * 5)).block, (ad.add (k * 5)).off + 4, none⟩ = some (.int .i64 l[k].lst) := by
  obtain ⟨ad, cs, e, _, rfl, hc0⟩ := h.2 k hk
  have hc := fun j hj => cell_kept hb (hc0 j hj)
  exact ⟨ad, e, hc 0 (by simp [mtC]), hc 1 (by simp [mtC]), hc 2 (by simp [mtC]), hc 3 (by simp [mtC]), hc 4 (by simp [mtC])⟩
theorem RGps.at {w W : World} {A : Option Addr} {l : List Gp} (h : RGps w A l) (hb : Below w.heap.size w W) (k : Nat) (hk : k < l.length) : ∃ ad, A = some ad ∧ W.cell? (ad.add (k * 3)) = some (.int .i64 l[k].g) ∧ W.cell? ⟨(ad.add (k * 3)).block, (ad.add (k * 3)).off + 1, none⟩ = some (.int .i64 l[k].s) ∧
    W.cell? ⟨(ad.add (k * 3)).block, (ad.add (k * 3)).off + 2, none⟩ = some (.int .i64 l[k].u) := by
  obtain ⟨ad, cs, e, _, rfl, hc0⟩ := h.2 k hk
  have hc := fun j hj => cell_kept hb (hc0 j hj)
  exact ⟨ad, e, hc 0 (by simp [gpC]), hc 1 (by simp [gpC]), hc 2 (by simp [gpC])⟩
theorem RSeats.at {w W : World} {A : Option Addr} {l : List Seat} (h : RSeats w A l) (hb : Below w.heap.size w W) (k : Nat) (hk : k < l.length) : ∃ ad, A = some ad ∧ W.cell? (ad.add (k * 3)) = some (.int .i64 l[k].stu) ∧ W.cell? ⟨(ad.add (k * 3)).block, (ad.add (k * 3)).off + 1, none⟩ = some (.int .i64 l[k].sec) ∧
    W.cell? ⟨(ad.add (k * 3)).block, (ad.add (k * 3)).off + 2, none⟩ = some (.int .i64 l[k].grp) := by
  obtain ⟨ad, cs, e, _, rfl, hc0⟩ := h.2 k hk
  have hc := fun j hj => cell_kept hb (hc0 j hj)
  exact ⟨ad, e, hc 0 (by simp [stC]), hc 1 (by simp [stC]), hc 2 (by simp [stC])⟩
/-- The nine cells of section k. -/
theorem RSecs.at {w W : World} {A : Option Addr} {l : List Sec} (h : RSecs w A l) (hb : Below w.heap.size w W) (k : Nat) (hk : k < l.length) : ∃ ad A5 c5 A6 c6 A7 c7, A = some ad ∧ SecIn w l[k] A5 c5 A6 c6 A7 c7 ∧
    W.cell? (ad.add (k * 9)) = some (.int .i64 l[k].id) ∧ W.cell? ⟨(ad.add (k * 9)).block, (ad.add (k * 9)).off + 1, none⟩ = some (.int .i64 l[k].course) ∧
    W.cell? ⟨(ad.add (k * 9)).block, (ad.add (k * 9)).off + 2, none⟩ = some (.int .i64 l[k].term) ∧ W.cell? ⟨(ad.add (k * 9)).block, (ad.add (k * 9)).off + 3, none⟩ = some (.int .i64 l[k].campus) ∧
    W.cell? ⟨(ad.add (k * 9)).block, (ad.add (k * 9)).off + 4, none⟩ = some (.int .i64 l[k].seats) ∧ W.cell? ⟨(ad.add (k * 9)).block, (ad.add (k * 9)).off + 5, none⟩ = some (.slice A5 l[k].meets.length c5) ∧
    W.cell? ⟨(ad.add (k * 9)).block, (ad.add (k * 9)).off + 6, none⟩ = some (.slice A6 l[k].groups.length c6) ∧ W.cell? ⟨(ad.add (k * 9)).block, (ad.add (k * 9)).off + 7, none⟩ = some (.slice A7 l[k].labs.length c7) ∧
    W.cell? ⟨(ad.add (k * 9)).block, (ad.add (k * 9)).off + 8, none⟩ = some (.bool l[k].lab) := by
  obtain ⟨ad, cs, e, _, ⟨A5, c5, A6, c6, A7, c7, rfl, hi⟩, hc0⟩ := h.2 k hk
  have hc := fun j hj => cell_kept hb (hc0 j hj)
  exact ⟨ad, A5, c5, A6, c6, A7, c7, e, hi, hc 0 (by simp [secC]), hc 1 (by simp [secC]), hc 2 (by simp [secC]), hc 3 (by simp [secC]), hc 4 (by simp [secC]), hc 5 (by simp [secC]), hc 6 (by simp [secC]), hc 7 (by simp [secC]), hc 8 (by simp [secC])⟩

theorem Rd.nil {α : Type} (sz : Nat) (R : World → α → List Value → Prop) (w : World) (A : Option Addr) : Rd sz R w A [] := ⟨by simp, fun k hk => by simp at hk⟩

/-! ### a block that is known whole -/
structure Blk (w : World) (g : Nat) (t : TypeId) (cs : Array Value) : Prop where
  is : w.heap[g]? = some (.cells cs t (0, 0))
section
variable {w w' : World} {g : Nat} {t : TypeId} {cs : Array Value}
theorem Blk.lt (h : Blk w g t cs) : g < w.heap.size := (Array.getElem?_eq_some_iff.1 h.is).1
theorem Blk.cell (h : Blk w g t cs) (i : Nat) {v : Value} (hv : cs[i]? = some v) : w.cell? ⟨g, i, none⟩ = some v := by
  have := h.is
  simp [World.cell?, this, hv]
theorem Blk.frozen (h : Blk w g t cs) (i : Nat) : w.frozen? ⟨g, i, none⟩ = false := by
  have := h.is
  simp [World.frozen?, this]
theorem Blk.new (w : World) (t : TypeId) (cs : Array Value) : Blk (w.alloc (.cells cs t)) w.heap.size t cs := ⟨heap_alloc_new w _⟩
theorem Blk.mk' (w : World) (g : Nat) (hg : g = w.heap.size) (t : TypeId) (cs : Array Value) : Blk (w.alloc (.cells cs t)) g t cs := by subst hg; exact Blk.new w t cs
theorem Blk.c1 {v0 : Value} (h : Blk w g t #[v0]) : w.cell? ⟨g, 0, none⟩ = some v0 ∧ ∀ i, w.frozen? ⟨g, i, none⟩ = false := ⟨h.cell 0 rfl, h.frozen⟩
theorem Blk.c3 {v0 v1 v2 : Value} (h : Blk w g t #[v0, v1, v2]) : w.cell? ⟨g, 0, none⟩ = some v0 ∧ w.cell? ⟨g, 1, none⟩ = some v1 ∧ w.cell? ⟨g, 2, none⟩ = some v2 ∧ ∀ i, w.frozen? ⟨g, i, none⟩ = false := ⟨h.cell 0 rfl, h.cell 1 rfl, h.cell 2 rfl, h.frozen⟩
theorem Blk.c5 {v0 v1 v2 v3 v4 : Value} (h : Blk w g t #[v0, v1, v2, v3, v4]) : w.cell? ⟨g, 0, none⟩ = some v0 ∧ w.cell? ⟨g, 1, none⟩ = some v1 ∧ w.cell? ⟨g, 2, none⟩ = some v2 ∧ w.cell? ⟨g, 3, none⟩ = some v3 ∧ w.cell? ⟨g, 4, none⟩ = some v4 ∧ ∀ i, w.frozen? ⟨g, i, none⟩ = false := ⟨h.cell 0 rfl, h.cell 1 rfl, h.cell 2 rfl, h.cell 3 rfl, h.cell 4 rfl, h.frozen⟩
theorem Blk.c6 {v0 v1 v2 v3 v4 v5 : Value} (h : Blk w g t #[v0, v1, v2, v3, v4, v5]) : w.cell? ⟨g, 0, none⟩ = some v0 ∧ w.cell? ⟨g, 1, none⟩ = some v1 ∧ w.cell? ⟨g, 2, none⟩ = some v2 ∧ w.cell? ⟨g, 3, none⟩ = some v3 ∧ w.cell? ⟨g, 4, none⟩ = some v4 ∧ w.cell? ⟨g, 5, none⟩ = some v5 ∧ ∀ i, w.frozen? ⟨g, i, none⟩ = false := ⟨h.cell 0 rfl, h.cell 1 rfl, h.cell 2 rfl, h.cell 3 rfl, h.cell 4 rfl, h.cell 5 rfl, h.frozen⟩
theorem Blk.c9 {v0 v1 v2 v3 v4 v5 v6 v7 v8 : Value} (h : Blk w g t #[v0, v1, v2, v3, v4, v5, v6, v7, v8]) : w.cell? ⟨g, 0, none⟩ = some v0 ∧ w.cell? ⟨g, 1, none⟩ = some v1 ∧ w.cell? ⟨g, 2, none⟩ = some v2 ∧ w.cell? ⟨g, 3, none⟩ = some v3 ∧ w.cell? ⟨g, 4, none⟩ = some v4 ∧ w.cell? ⟨g, 5, none⟩ = some v5 ∧ w.cell? ⟨g, 6, none⟩ = some v6 ∧ w.cell? ⟨g, 7, none⟩ = some v7 ∧ w.cell? ⟨g, 8, none⟩ = some v8 ∧ ∀ i, w.frozen? ⟨g, i, none⟩ = false := ⟨h.cell 0 rfl, h.cell 1 rfl, h.cell 2 rfl, h.cell 3 rfl, h.cell 4 rfl, h.cell 5 rfl, h.cell 6 rfl, h.cell 7 rfl, h.cell 8 rfl, h.frozen⟩
theorem Blk.c10 {v0 v1 v2 v3 v4 v5 v6 v7 v8 v9 : Value} (h : Blk w g t #[v0, v1, v2, v3, v4, v5, v6, v7, v8, v9]) : w.cell? ⟨g, 0, none⟩ = some v0 ∧ w.cell? ⟨g, 1, none⟩ = some v1 ∧ w.cell? ⟨g, 2, none⟩ = some v2 ∧ w.cell? ⟨g, 3, none⟩ = some v3 ∧ w.cell? ⟨g, 4, none⟩ = some v4 ∧ w.cell? ⟨g, 5, none⟩ = some v5 ∧ w.cell? ⟨g, 6, none⟩ = some v6 ∧ w.cell? ⟨g, 7, none⟩ = some v7 ∧ w.cell? ⟨g, 8, none⟩ = some v8 ∧ w.cell? ⟨g, 9, none⟩ = some v9 ∧ ∀ i, w.frozen? ⟨g, i, none⟩ = false := ⟨h.cell 0 rfl, h.cell 1 rfl, h.cell 2 rfl, h.cell 3 rfl, h.cell 4 rfl, h.cell 5 rfl, h.cell 6 rfl, h.cell 7 rfl, h.cell 8 rfl, h.cell 9 rfl, h.frozen⟩
theorem Blk.kept (h : Blk w g t cs) {B : Nat} (hb : Below B w w') (hg : g < B) : Blk w' g t cs := ⟨(hb.block g hg).trans h.is⟩
theorem Blk.alloc (h : Blk w g t cs) (o : Obj) : Blk (w.alloc o) g t cs := ⟨(Below.heap_alloc w o g h.lt).trans h.is⟩
theorem Blk.drew (h : Blk w g t cs) : Blk w.drew g t cs := ⟨h.is⟩
theorem Blk.drewN (h : Blk w g t cs) (n : Nat) : Blk (w.drewN n) g t cs := ⟨h.is⟩
theorem Blk.set (h : Blk w g t cs) (i : Nat) (u : Value) : Blk (w.setCell ⟨g, i, none⟩ u) g t (cs.setIfInBounds i u) := ⟨by
  have := h.is
  simp [World.setCell, Array.getElem?_modify, this]⟩
theorem Blk.same (h : Blk w g t cs) (i : Nat) {v : Value} (hv : cs[i]? = some v) : Blk (w.setCell ⟨g, i, none⟩ v) g t cs := by
  have h2 := h.set i v
  have e : cs.setIfInBounds i v = cs := by
    refine Array.ext_getElem? (fun j => ?_)
    rw [Array.getElem?_setIfInBounds]
    split
    · rename_i e
      subst e
      rw [if_pos (Array.getElem?_eq_some_iff.1 hv).1, hv]
    · rfl
  rwa [e] at h2
theorem Blk.far (h : Blk w g t cs) {p : Addr} (hp : g ≠ p.block) (u : Value) : Blk (w.setCell p u) g t cs := ⟨(Below.heap_setCell w p u g hp).trans h.is⟩
theorem Blk.grown (h : Blk w g t cs) {row : Option Nat} (hb : w.grownBy w' row) (hg : some g ≠ row) : Blk w' g t cs := ⟨(hb.block g h.lt hg).trans h.is⟩
end
end Go.Proofs.YteonpdnncodkaaaGreatDoor
