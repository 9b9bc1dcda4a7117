/- The groups of a step: its contract. -/
import Derived.Test.YteonpdnncodkaaaGreatDoorLawA
set_option linter.unusedVariables false
set_option linter.unusedSimpArgs false
namespace Go.Proofs.YteonpdnncodkaaaGreatDoor
open Go.RowKit

/-- Is a bit set? -/
def bitG (G : Int) (g : Nat) : Bool := decide (G / 2 ^ g % 2 = 1)
def bitsN (G : Int) (k : Nat) : List Int := ((List.range k).filter (bitG G)).map fun g : Nat => (g : Int)
/-- The groups of a step. -/
def bitsG (G : Int) : List Int := bitsN G 8
theorem bitsN_succ (G : Int) (k : Nat) : bitsN G (k + 1) = bitsN G k ++ if bitG G k = true then [(k : Int)] else [] := by
  unfold bitsN
  rw [List.range_succ, List.filter_append, List.map_append]
  cases h : bitG G k <;> simp [h]
theorem bitsN_len (G : Int) (k : Nat) : (bitsN G k).length ≤ k := by
  unfold bitsN
  rw [List.length_map]
  exact Nat.le_trans (List.length_filter_le _ _) (by simp)
theorem mem_bitsG {G g : Int} : g ∈ bitsG G ↔ 0 ≤ g ∧ g < 8 ∧ bitG G g.toNat = true := by
  unfold bitsG bitsN
  rw [List.mem_map]
  constructor
  · rintro ⟨n, hn, rfl⟩
    rw [List.mem_filter, List.mem_range] at hn
    exact ⟨by omega, by omega, by simpa using hn.2⟩
  · rintro ⟨h0, h8, hb⟩
    exact ⟨g.toNat, List.mem_filter.2 ⟨List.mem_range.2 (by omega), hb⟩, by omega⟩
theorem bitsG_ok (G : Int) : (∀ g ∈ bitsG G, 0 ≤ g ∧ g < 8) ∧ (bitsG G).Pairwise (· < ·) := by
  refine ⟨fun g hg => by have := mem_bitsG.1 hg; omega, ?_⟩
  unfold bitsG bitsN
  rw [List.pairwise_map]
  refine List.Pairwise.imp ?_ (List.Pairwise.filter _ List.pairwise_lt_range)
  intro a b h
  omega

theorem and1 : ∀ n : Fin 256, bits .and .u8 (n.val : Int) 1 = (n.val : Int) % 2 := by decide +kernel
theorem and_one {G : Int} (h0 : 0 ≤ G) (h1 : G < 256) (g : Nat) : bits .and .u8 (G / 2 ^ g) 1 = G / 2 ^ g % 2 := by
  have h2 : 0 ≤ G / 2 ^ g := Int.ediv_nonneg h0 (Int.pow_nonneg (by omega))
  have h3 : G / 2 ^ g ≤ G := Int.ediv_le_self _ h0
  have := and1 ⟨(G / 2 ^ g).toNat, by omega⟩
  simp only at this
  rwa [show (((G / 2 ^ g).toNat : Nat) : Int) = G / 2 ^ g by omega] at this
theorem bit_true {G : Int} (h0 : 0 ≤ G) (h1 : G < 256) {g : Nat} (h : bitG G g = true) : (bits .and .u8 (G / 2 ^ g) 1 == 1) = true := by
  rw [and_one h0 h1]; unfold bitG at h; simpa using h
theorem bit_false {G : Int} (h0 : 0 ≤ G) (h1 : G < 256) {g : Nat} (h : bitG G g = false) : (bits .and .u8 (G / 2 ^ g) 1 == 1) = false := by
  rw [and_one h0 h1]; unfold bitG at h; simpa using h

def OwnI (B : Nat) (w : World) (v : Value) (l : List Int) : Prop := w.ownsRow B 3 1 v l.length (l.map fun x => Value.int .i64 x)
theorem OwnI.nil (B : Nat) (w : World) : OwnI B w (.slice none 0 0) [] := World.ownsRow_nil w B _ _
theorem OwnI.shape {B : Nat} {w : World} {v : Value} {l : List Int} (h : OwnI B w v l) : ∃ A c, v = .slice A l.length c := by
  rcases h.2 with ⟨rfl, h0⟩ | ⟨g, cap, cur, rfl, _⟩
  · exact ⟨none, 0, by rw [h0]⟩
  · exact ⟨_, _, rfl⟩
theorem OwnI.reads {B : Nat} {w : World} {A : Option Addr} {n c : Nat} {l : List Int} (h : OwnI B w (.slice A n c) l) (hb : l.length ≤ 140737488355328) : RInts w A l := by
  rcases h.2 with ⟨e, h0⟩ | ⟨g, cap, cur, e, hB, hg, hn, hm, hc, hx⟩
  · cases e
    have : l = [] := List.eq_nil_of_length_eq_zero h0
    subst this
    exact Rd.nil _ _ _ _
  · cases e
    refine ⟨by omega, fun k hk => ⟨_, _, rfl, rfl, rfl, fun j hj => ?_⟩⟩
    obtain rfl : j = 0 := by simpa using hj
    unfold cellOf
    rw [if_pos rfl, show k * 1 = k by omega, add0]
    have e2 : (l.map fun x => Value.int .i64 x)[k]? = some (.int .i64 l[k]) := by simp [hk]
    rw [← hx, List.getElem?_take, Nat.mul_one, if_pos hk] at e2
    simp only [World.cell?, hg]
    simpa using e2
theorem OwnI.below {B : Nat} {w w' : World} {v : Value} {l : List Int} (h : OwnI B w v l) (hb : Below w.heap.size w w') : OwnI B w' v l := World.ownsRow.kept h (grown_of_below hb none) (by
  cases hv : v.ownBlock with
  | none => exact .inl rfl
  | some g => exact .inr (by simp))
theorem intInfo : ∃ i, Tryz.prog.info? 3 = some i ∧ i.zero = some (.int .i64 0) ∧ i.size = 1 ∧ i.bytes = 8 :=
  info_parts (by kernel_rfl)
end Go.Proofs.YteonpdnncodkaaaGreatDoor
