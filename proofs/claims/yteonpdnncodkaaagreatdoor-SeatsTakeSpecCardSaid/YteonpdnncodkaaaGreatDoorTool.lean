/- A region that reads and calls, whose callees make memory of their own: one walk of the lexical order. -/
import Derived.Test.YteonpdnncodkaaaGreatDoorBase
namespace Go.Proofs.YteonpdnncodkaaaGreatDoor
open Go.RowKit

/-- The worlds that grow out of w, numbered: f. -/
theorem region_below {P : Program} {id : Nat} {Q : Exit → Act → World → Prop} {a : Act} {w : World} {l : List Oper} (hm : P.follows .mixedOrders = true) (hB : Region.lexB .any l.toArray = true)
    (h : ∀ (ι : Type) (_ : Nonempty ι) (f : ι → World), (∀ n, Below w.heap.size w (f n)) → (∀ n W, Below (f n).heap.size (f n) W → ∃ m, W = f m) →
      wpQuiet P l.toArray (fun W => ∃ n, W = f n) (fun a' => ∀ W, (∃ n, W = f n) → Q .normal a' W) l a) : (Code.region id l.toArray true).wp P Q a w := by
  refine wp_region_quiet (C := fun W => ∃ n : {W // Below w.heap.size w W}, W = n.1) hm hB ⟨⟨_, bdrewN (Below.refl _ w) 1⟩, rfl⟩ ?_
  have := h {W // Below w.heap.size w W} ⟨⟨w, Below.refl _ w⟩⟩ Subtype.val (fun n => n.2) (fun n W hW => ⟨⟨W, n.2.trans (hW.mono n.2.size)⟩, rfl⟩)
  simpa using this
end Go.Proofs.YteonpdnncodkaaaGreatDoor
