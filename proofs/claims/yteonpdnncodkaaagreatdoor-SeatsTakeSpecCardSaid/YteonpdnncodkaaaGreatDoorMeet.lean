/- meeting.Check: its contract. -/
import Derived.Test.YteonpdnncodkaaaGreatDoorIter
set_option linter.unusedVariables false
set_option linter.unusedSimpArgs false
namespace Go.Proofs.YteonpdnncodkaaaGreatDoor
open Go.RowKit Go.Shelf
attribute [local go_sem] Oper.semAt_some

def encMM (p : Mt × Mt) : Array Value := #[.agg #[.int .i64 p.1.day, .int .i64 p.1.frm, .int .i64 p.1.til, .int .i64 p.1.fst, .int .i64 p.1.lst], .agg #[.int .i64 p.2.day, .int .i64 p.2.frm, .int .i64 p.2.til, .int .i64 p.2.fst, .int .i64 p.2.lst]]
def pairsOf : List Mt → List (Mt × Mt)
  | [] => []
  | a :: t => t.map (fun b => (a, b)) ++ pairsOf t
theorem mem_pairsOf {l : List Mt} {p : Mt × Mt} (h : p ∈ pairsOf l) : ∃ i j, ∃ (hij : i < j) (hj : j < l.length), p = (l[i]'(by omega), l[j]) := by
  induction l with
  | nil => cases h
  | cons a t ih =>
    rcases List.mem_append.1 h with h | h
    · obtain ⟨b, hb, rfl⟩ := List.mem_map.1 h
      obtain ⟨j, hj, rfl⟩ := List.mem_iff_getElem.1 hb
      exact ⟨0, j + 1, by omega, by simp; omega, by simp⟩
    · obtain ⟨i, j, hij, hj, rfl⟩ := ih h
      exact ⟨i + 1, j + 1, by omega, by simp; omega, by simp⟩
theorem pairwise_of_pairs {l : List Mt} {R : Mt → Mt → Prop} (h : ∀ p ∈ pairsOf l, R p.1 p.2) : l.Pairwise R := by
  induction l with
  | nil => exact .nil
  | cons a t ih =>
    refine List.pairwise_cons.2 ⟨fun b hb => h (a, b) (List.mem_append.2 (.inl (List.mem_map.2 ⟨b, hb, rfl⟩))), ih (fun p hp => h p (List.mem_append.2 (.inr hp)))⟩
theorem pairs_len (l : List Mt) : (pairsOf l).length ≤ l.length * l.length := by
  induction l with
  | nil => simp [pairsOf]
  | cons a t ih =>
    simp only [pairsOf, List.length_append, List.length_map, List.length_cons]
    have : (t.length + 1) * (t.length + 1) = t.length * t.length + t.length + t.length + 1 := by rw [Nat.mul_add, Nat.add_mul]; omega
    omega

set_option maxRecDepth 100000 in
set_option maxHeartbeats 4000000 in
theorem pairs1_stops (B1 : Nat) (A : Option Addr) (c : Nat) (l : List Mt) (N : Nat) (hN : (pairsOf l).length ≤ N) (w : World) (h : RMts w A l) (hc : l.length ≤ c) (h1 : w.cell? ⟨B1, 0, none⟩ = some (.slice A l.length c)) :
    SeqStopsK Fence.wide 3 Tryz.prog 88 #[.pointer (some ⟨B1, 0, none⟩)] encMM (Kx none) (fun xs => xs = pairsOf l) (fun pre => pre <+: pairsOf l) N w := by
  intro L J Jx W hW hJ hJx hY h0
  have hl := h.len
  have HW := Lib.hid hW
  have H := Lib.hid h
  have H1 := Lib.hid h1
  have HN := Lib.hid hN
  have c1 : W.cell? ⟨B1, 0, none⟩ = some (.slice A l.length c) := cell_kept hW h1
  clear hW h h1 hN
  refine callsIn_of_wp Tryz.func88 rfl trivial ?_ rfl
  simp only [Tryz.ntmps88, List.size_toArray, List.length_cons, List.length_nil, Nat.reduceAdd, Nat.reduceSub, Array.replicate_succ, Array.replicate_zero, List.push_toArray, List.append_toArray, List.nil_append, List.cons_append]
  gi_wp2
  gi_loopw [9] (fun i wr => ∃ k : Nat, k ≤ l.length ∧ i = .int .i64 k ∧ (∃ pre, Hid (pairsOf l = pre ++ pairsOf (l.drop k)) ∧ Hid (J pre wr)) ∧ Hid (Kx none w wr)) (fun i _ => l.length - (intOf i).toNat)
  case atStart => exact ⟨0, Nat.zero_le _, rfl, ⟨[], rfl, h0⟩, Kx.of_below HW.out⟩
  case round =>
    obtain ⟨k, hk, rfl, ⟨pre, he, hJs⟩, hkx⟩ := hrel
    obtain ⟨wo, rfl⟩ : ∃ wo, wo = wr := ⟨_, rfl⟩
    by_cases hlt : k < l.length
    · obtain ⟨ad, e1, f0, f1, f2, f3, f4⟩ := (H.out.kx hkx.out (fun _ _ _ => by simp)).at (Below.refl _ _) k hlt
      subst e1
      have d1 : wo.cell? ⟨B1, 0, none⟩ = some (.slice (some ad) l.length c) := hkx.out.cell H1.out (by simp)
      have hB1 : B1 < wo.heap.size := block_lt d1
      obtain ⟨m, hm⟩ : ∃ m, l.drop (k + 1) = m := ⟨_, rfl⟩
      have hml : l.length - (k + 1) = m.length := by rw [← hm]; simp
      have Hml := Lib.hid hml
      have HM : Hid (m ≠ [] → RMts w (some (ad.add ((k + 1) * 5))) m) := fun _ => by rw [← hm]; exact Rd.drop H.out (k + 1)
      have E1 : Hid (∀ j, j ≤ m.length → pairsOf l = (pre ++ (m.take j).map (fun b => (l[k], b))) ++ ((m.drop j).map (fun b => (l[k], b)) ++ pairsOf m)) := fun j _ => by
        rw [he.out, List.drop_eq_getElem_cons hlt, hm]
        simp only [pairsOf]
        rw [List.append_assoc, ← List.append_assoc (List.map _ _), ← List.map_append, List.take_append_drop]
      have E2 : Hid (pairsOf l = (pre ++ m.map (fun b => (l[k], b))) ++ pairsOf (l.drop (k + 1))) := by
        have := E1.out m.length (Nat.le_refl _)
        rw [List.take_length, List.drop_length] at this
        rw [hm]; unfold Hid; simpa using this
      have hJ1 := Lib.hid (hJ _ wo (wo.alloc (.cells #[.int .i64 l[k].day, .int .i64 l[k].frm, .int .i64 l[k].til, .int .i64 l[k].fst, .int .i64 l[k].lst] 98)) none hJs.out (World.grownBy_alloc _ _ _) (fun r e => by cases e))
      have hk1 := Lib.hid (hkx.out.trans (Kx.of_below (g := none) (show Below wo.heap.size wo (wo.alloc (.cells #[.int .i64 l[k].day, .int .i64 l[k].frm, .int .i64 l[k].til, .int .i64 l[k].fst, .int .i64 l[k].lst] 98)) by go_grown)))
      have K1 := Blk.new wo 98 #[.int .i64 l[k].day, .int .i64 l[k].frm, .int .i64 l[k].til, .int .i64 l[k].fst, .int .i64 l[k].lst]
      have hmlen : m.length ≤ 140737488355328 := by omega
      have hmle : m.length = 0 ∨ k + 1 < c := by omega
      by_cases hce : c = k + 1
      · have hm0 : m.length ≤ 0 := by omega
        clear hm he hJs hkx hmle
        gi_wp2
        clear hml
        gi_loopw [19] (fun i wr => ∃ j : Nat, j ≤ m.length ∧ i = .int .i64 j ∧ Hid (J (pre ++ (m.take j).map (fun b => (l[k], b))) wr) ∧ Hid (Kx none w wr) ∧ Blk wr wo.heap.size 98 #[.int .i64 l[k].day, .int .i64 l[k].frm, .int .i64 l[k].til, .int .i64 l[k].fst, .int .i64 l[k].lst]) (fun i _ => m.length - (intOf i).toNat)
        case atStart => exact ⟨0, Nat.zero_le _, rfl, by simpa using hJ1, hk1, K1⟩
        case round =>
          obtain ⟨j, hj, rfl, hJ2, hk2, K2⟩ := hrel
          by_cases hjl : j < m.length
          · exfalso; omega
          · obtain rfl : j = m.length := by omega
            rw [List.take_length] at hJ2
            gi_wp2
            go_roundw
            case rel => exact ⟨k + 1, by omega, by go_num, ⟨_, E2, hJ2⟩, hk2⟩
            case measure => simp [intOf]; omega
      · clear hm he hJs hkx hmle
        gi_wp2
        clear hml
        gi_loopw [19] (fun i wr => ∃ j : Nat, j ≤ m.length ∧ i = .int .i64 j ∧ Hid (J (pre ++ (m.take j).map (fun b => (l[k], b))) wr) ∧ Hid (Kx none w wr) ∧ Blk wr wo.heap.size 98 #[.int .i64 l[k].day, .int .i64 l[k].frm, .int .i64 l[k].til, .int .i64 l[k].fst, .int .i64 l[k].lst]) (fun i _ => m.length - (intOf i).toNat)
        case atStart => exact ⟨0, Nat.zero_le _, rfl, by simpa using hJ1, hk1, K1⟩
        case round =>
          obtain ⟨j, hj, rfl, hJ2, hk2, K2⟩ := hrel
          by_cases hjl : j < m.length
          · obtain ⟨_, e1, g0, g1, g2, g3, g4⟩ := ((HM.out (by intro e; subst e; simp at hjl)).kx hk2.out (fun _ _ _ => by simp)).at (Below.refl _ _) j hjl
            cases e1
            obtain ⟨b0, b1, b2, b3, b4, _⟩ := K2.c5
            have hsz := K2.lt
            have e3 : pre ++ (m.take (j + 1)).map (fun b => (l[k], b)) = (pre ++ (m.take j).map (fun b => (l[k], b))) ++ [(l[k], m[j])] := by
              rw [List.take_succ_eq_append_getElem hjl, List.map_append, List.append_assoc]; rfl
            have E3 := Lib.hid e3
            have hlen : (pre ++ (m.take j).map (fun b => (l[k], b))).length < N := by
              have := HN.out
              rw [E1.out j hj] at this
              have h2 : 0 < ((m.drop j).map (fun b => (l[k], b))).length := by simp; omega
              simp only [List.length_append] at this h2 ⊢
              omega
            have E4 : Hid ((pre ++ (m.take (j + 1)).map (fun b => (l[k], b))) <+: pairsOf l) := by
              have := E1.out (j + 1) (by omega)
              exact ⟨_, this.symm⟩
            have hJ3 := hJ _ wr (wr.alloc (.cells #[.int .i64 m[j].day, .int .i64 m[j].frm, .int .i64 m[j].til, .int .i64 m[j].fst, .int .i64 m[j].lst] 98)) none hJ2.out (World.grownBy_alloc _ _ _) (fun r e => by cases e)
            obtain ⟨fn, tmps, assign, body, hy, hR⟩ := hY _ (l[k], m[j]) _ hJ3 hlen
            dsimp only [encMM] at hy
            clear hJ3 hlen e3
            gi_wp2
            refine hR.mono ?_
            rintro e W3 (⟨rfl, hJ4, hk4⟩ | ⟨rfl, hJx4⟩)
            · rw [← E3.out] at hJ4
              have hJ4' := Lib.hid hJ4
              have K4 := hk4.blk (K2.alloc _) (by simp)
              have hk4' := Lib.hid (hk2.out.trans ((Kx.of_below (by go_grown)).trans hk4))
              clear hJ4 hk4
              gi_wp2
              go_roundw
              case rel => exact ⟨j + 1, by omega, by go_num, hJ4', hk4', K4⟩
              case measure => simp [intOf]; omega
            · rw [← E3.out] at hJx4
              have hJx4' := Lib.hid hJx4
              clear hJx4
              gi_wp2
              refine bodyPost_ret (results_none rfl _ _ _) rfl ?_
              exact ⟨⟨_, rfl⟩, .inr ⟨_, E4.out, hJx4'.out⟩⟩
          · obtain rfl : j = m.length := by omega
            rw [List.take_length] at hJ2
            gi_wp2
            go_roundw
            case rel => exact ⟨k + 1, by omega, by go_num, ⟨_, E2, hJ2⟩, hk2⟩
            case measure => simp [intOf]; omega
    · obtain rfl : k = l.length := by omega
      have E : pairsOf l = pre := by have := he.out; simpa [pairsOf] using this
      rw [← E] at hJs
      gi_wp2
      go_end0
      exact ⟨⟨_, rfl⟩, .inl ⟨_, rfl, hJs.out⟩⟩

theorem pairs_c (v : Value) (w : World) (hv : v.oneCell' = true) :
    Calls Tryz.prog 78 #[v] w fun e w' => e = .returned (.func (.func 88) #[] #[.pointer (some ⟨w.heap.size, 0, none⟩)]) ∧ w' = w.alloc (.cells #[v] 38) := by
  go_enter Tryz.func78, Tryz.ntmps78
  go_wp2
  go_ret
  exact ⟨rfl, rfl⟩

theorem meetCheck_over {l : List Mt} (hv : ∀ m ∈ l, m.ok = true) {p : Mt × Mt} (hp : p ∈ pairsOf l) (ho : p.1.over p.2 = true) : meetCheck l = 220 := by
  obtain ⟨i, j, hij, hj, rfl⟩ := mem_pairsOf hp
  rw [Mt.over_eq (hv _ (List.getElem_mem _)) (hv _ (List.getElem_mem _))] at ho
  exact meetCheck_clash hij hj ho
theorem meetCheck_none {l : List Mt} (hl : l.length ≤ 16) (hv : ∀ m ∈ l, m.ok = true) (ho : ∀ p ∈ pairsOf l, p.1.over p.2 = false) : meetCheck l = 0 := by
  refine meetCheck_ok hl ⟨hv, ?_⟩
  have h2 : l.Pairwise fun a b => a.over b = false := pairwise_of_pairs ho
  refine List.pairwise_iff_getElem.2 fun i j hi hj hij => ?_
  rw [← Mt.over_eq (hv _ (List.getElem_mem _)) (hv _ (List.getElem_mem _))]
  exact List.pairwise_iff_getElem.1 h2 i j hi hj hij

set_option maxRecDepth 100000 in
set_option maxHeartbeats 4000000 in
theorem meetCheck_c (A : Option Addr) (c : Nat) (l : List Mt) (w : World) (h : RMts w A l) (hc : l.length ≤ c) :
    Calls Tryz.prog 59 #[.slice A l.length c] w fun e w' => e = .returned (.int .i64 (meetCheck l)) ∧ Below w.heap.size w w' := by
  have hl := h.len
  have H := Lib.hid h
  clear h
  by_cases hlong : 16 < l.length
  · have fin := Lib.hid (meetCheck_long hlong)
    go_enter Tryz.func59, Tryz.ntmps59
    go_wp2
    refine bodyPost_ret (by simp only [results, Tryz.results59]; go_simp <;> rfl) rfl ?_
    exact ⟨ret_i64 fin.out.symm, by go_grown⟩
  refine (callsIn_wide (n := 4)).1 ?_
  refine callsIn_of_wp_marks Tryz.func59 rfl trivial ?_ rfl
  simp only [Tryz.ntmps59, List.size_toArray, List.length_cons, List.length_nil, Nat.reduceAdd, Nat.reduceSub, Array.replicate_succ, Array.replicate_zero, List.push_toArray, List.append_toArray, List.nil_append, List.cons_append]
  gi_wp2
  gi_loopw [12] (fun i wr => ∃ k : Nat, k ≤ l.length ∧ i = .int .i64 k ∧ Hid (∀ m ∈ l.take k, m.ok = true) ∧ Hid (Below w.heap.size w wr) ∧ Blk wr w.heap.size 29 #[.int .i64 0]) (fun i _ => l.length - (intOf i).toNat)
  case atStart => exact ⟨0, Nat.zero_le _, rfl, by simp [Hid], by unfold Hid; go_grown, Blk.new _ _ _⟩
  case round =>
    obtain ⟨k, hk, rfl, ha, hB, hbk⟩ := hrel
    obtain ⟨z0, zf⟩ := hbk.c1
    have hsz := hbk.lt
    by_cases hlt : k < l.length
    · obtain ⟨ad, rfl, f0, f1, f2, f3, f4⟩ := H.out.at hB.out k hlt
      gi_wp2_with fail
      refine ⟨trivial, ?_⟩
      refine (callsIn_wide.2 (valid_c l[k] _)).mono ?_
      rintro e w1 ⟨rfl, hb1⟩
      have hbk1 := (hbk.alloc _).kept hb1 (by simp <;> omega)
      have hB1 := Lib.hid (bthen (hB.out.alloc hB.out.size _) (by have := hB.out.size; simp; omega) hb1)
      clear hb1 hB f0 f1 f2 f3 f4 z0 zf hbk
      obtain ⟨z0, zf⟩ := hbk1.c1
      by_cases hv : l[k].ok = true
      · have fin : Hid (∀ m ∈ l.take (k + 1), m.ok = true) := by
          intro m hm
          rw [List.take_succ_eq_append_getElem hlt] at hm
          rcases List.mem_append.1 hm with hm | hm
          · exact ha.out m hm
          · rw [List.mem_singleton.1 hm]; exact hv
        rw [hv]
        clear hv
        gi_wp2
        go_roundw
        case rel => exact ⟨k + 1, by omega, by go_num, fin, hB1, hbk1⟩
        case measure => simp [intOf]; omega
      · have hv' : l[k].ok = false := by simpa using hv
        have fin := Lib.hid (meetCheck_invalid hlt hv')
        rw [hv']
        clear hv hv'
        gi_wp2
        obtain ⟨y0, _⟩ := (hbk1.set 0 (.int .i64 220)).c1
        refine ⟨_, by simp only [results, Tryz.results59]; go_simp <;> rfl, ret_i64 fin.out.symm, hB1.out.setCell (p := ⟨w.heap.size, 0, none⟩) (by simp) _⟩
    · obtain rfl : k = l.length := by omega
      rw [List.take_length] at ha
      gi_wp2_with fail
      refine ⟨trivial, ?_⟩
      refine (callsIn_wide.2 (pairs_c (.slice A l.length c) _ rfl)).mono ?_
      rintro e w' ⟨rfl, rfl⟩
      obtain ⟨W0, hW0⟩ : ∃ W0, wr.alloc (.cells #[.slice A l.length c] 38) = W0 := ⟨_, rfl⟩
      have hB0 : Below w.heap.size w W0 := by rw [← hW0]; exact hB.out.alloc hB.out.size _
      have k1 : Blk W0 w.heap.size 29 #[.int .i64 0] := by rw [← hW0]; exact hbk.alloc _
      have k2 : Blk W0 wr.heap.size 38 #[.slice A l.length c] := by rw [← hW0]; exact Blk.new _ _ _
      have hs0 : wr.heap.size < W0.heap.size := by rw [← hW0]; simp
      rw [hW0]
      clear hW0 z0 zf hbk
      gi_wp2
      have hI : OwnFrom W0.heap.size (fun (pre : List (Mt × Mt)) W => (∀ p ∈ pre, p.1.over p.2 = false) ∧ (Blk W w.heap.size 29 #[.int .i64 0] ∧ Below w.heap.size w W)) :=
        OwnFrom.and (fun _ _ _ _ h _ _ => h) (OwnFrom.and (blk_own _ _ _ _) (ownFrom_below (Nat.le_refl _) hB0.size))
      have hIx : ∀ c : Code, OwnFrom W0.heap.size (fun (pre : List (Mt × Mt)) W => (c = .ret ∧ ∃ p ∈ pre, p.1.over p.2 = true) ∧ (Blk W w.heap.size 29 #[.int .i64 220] ∧ Below w.heap.size w W)) :=
        fun c => OwnFrom.and (fun _ _ _ _ h _ _ => h) (OwnFrom.and (blk_own _ _ _ _) (ownFrom_below (Nat.le_refl _) hB0.size))
      refine wpIn_rangeFunc_ownH (F := Fence.wide) (n := 4) rfl (by decide) (gf := 88) (lb := #[.pointer (some ⟨wr.heap.size, 0, none⟩)]) rfl trivial (enters_of Tryz.func88 (by kernel_rfl) rfl)
        (pairs1_stops wr.heap.size A c l (pairsOf l).length (Nat.le_refl _) W0 (H.out.below hB0) hc (k2.cell 0 rfl)) Kx.t Kx.b (Below.refl _ _) (fun _ => rfl)
        _ _ hI hIx ⟨by simp, k1, hB0⟩
        (fun x a' W => ∃ B5 B6, Blk W B5 98 #[.int .i64 x.1.day, .int .i64 x.1.frm, .int .i64 x.1.til, .int .i64 x.1.fst, .int .i64 x.1.lst] ∧ Blk W B6 98 #[.int .i64 x.2.day, .int .i64 x.2.frm, .int .i64 x.2.til, .int .i64 x.2.fst, .int .i64 x.2.lst] ∧ a' = { tmps := #[.slice A l.length c, undef, .pointer (some ⟨w.heap.size, 0, none⟩), undef, u4, .pointer (some ⟨B5, 0, none⟩), .pointer (some ⟨B6, 0, none⟩), .slice A l.length c, .int .i64 l.length, .bool (decide (16 < (l.length : Int))),
          .slice A l.length c, .int .i64 l.length, .int .i64 l.length, .bool false, u14, u15, u16, u17, u18, u19, .slice A l.length c, .func (.func 88) #[] #[.pointer (some ⟨wr.heap.size, 0, none⟩)], .agg #[.int .i64 x.1.day, .int .i64 x.1.frm, .int .i64 x.1.til, .int .i64 x.1.fst, .int .i64 x.1.lst], .agg #[.int .i64 x.2.day, .int .i64 x.2.frm, .int .i64 x.2.til, .int .i64 x.2.fst, .int .i64 x.2.lst], undef, undef, undef], defers := [] })
        (fun x a' s W W' row hs hg hr => by
          obtain ⟨B5, B6, h1, h2, h3⟩ := hs
          exact ⟨B5, B6, blk_own (β := Unit) _ _ _ _ s W W' row h1 hg hr, blk_own (β := Unit) _ _ _ _ s W W' row h2 hg hr, h3⟩) ?assign ?body ?done ?stop
      case assign =>
        intro L pre x W K hi hK
        simp only [encMM]
        gi_wp2
        exact hK _ _ (((KeepsOthers.alloc _ _).trans (KeepsOthers.alloc _ _)).from _) (Kx.of_below (by go_grown)) ⟨hi.1, (hi.2.1.alloc _).alloc _, (hi.2.2.alloc hi.2.2.size _).alloc (by have := hi.2.2.size; simp; omega) _⟩ ⟨W.heap.size, W.heap.size + 1, (Blk.new _ _ _).alloc _, Blk.mk' _ _ (by simp) _ _, rfl⟩
      case body =>
        rintro L pre x a' W hL ⟨r, hr⟩ ⟨hp, q1, hb⟩ ⟨B5, B6, g5, g6, rfl⟩ hlt
        have Hp := Lib.hid hp
        have HB := Lib.hid hb
        clear hp hb
        obtain ⟨x0, x1, x2, x3, x4, _⟩ := g5.c5
        obtain ⟨y0, y1, y2, y3, y4, _⟩ := g6.c5
        gi_wp2_with fail
        refine ⟨trivial, ?_⟩
        refine (CallsIn.inRound L (callsIn_wide.2 (overlaps_c x.1 x.2 _))).mono ?_
        rintro e w1 ⟨rfl, hb1⟩
        have q2 := q1.kept hb1 q1.lt
        have hB1 := Lib.hid (bthen HB.out HB.out.size hb1)
        have hkx := Lib.hid (Kx.of_below (g := none) hb1)
        have hkf : Hid (KeepsFrom W0.heap.size W w1) := ⟨hb1.size, fun k o _ hk _ => (hb1.block k (Array.getElem?_eq_some_iff.1 hk).1).trans hk⟩
        clear hb1
        obtain ⟨z1, zf⟩ := q2.c1
        cases ho : x.1.over x.2
        · have Q1 := Lib.hid ho
          clear ho
          gi_wp2
          refine ⟨hkf.out, hkx.out, fun p hp => ?_, q2, hB1.out⟩
          rcases List.mem_append.1 hp with hp | hp
          · exact Hp.out p hp
          · rw [List.mem_singleton.1 hp]; exact Q1.out
        · have Q1 := Lib.hid ho
          clear ho
          gi_wp2
          exact ⟨hkf.out.trans ((KeepsOthers.setCell _ _ _).from _), ⟨rfl, x, by simp, Q1.out⟩, q2.set 0 _, hB1.out.setCell (p := ⟨w.heap.size, 0, none⟩) (Nat.le_refl _) _⟩
      case done =>
        rintro D xs W hD rfl ⟨hp, q1, hb⟩ hK
        have fin := Lib.hid (meetCheck_none (by omega) ha.out hp)
        have HK := Lib.hid hK
        have HB := Lib.hid hb
        clear hp hK hb
        obtain ⟨z1, zf⟩ := q1.c1
        gi_wp2
        have hK2 := (KeepsOthers.setCell W ⟨w.heap.size, 0, none⟩ (.int .i64 0)).same D _ HK.out rfl
        refine ⟨by simp, .inl ⟨_, _, rfl, run_takeDeferred hK2, ?_⟩⟩
        obtain ⟨y1, _⟩ := (blk_put (o' := .deferred none) (q1.set 0 (.int .i64 0)) hK2 rfl).c1
        refine ⟨_, by simp only [results, Tryz.results59]; go_simp <;> rfl, by rw [fin.out], below_put (HB.out.setCell (p := ⟨w.heap.size, 0, none⟩) (by simp) _) (by have := HB.out.size; simpa using this) (by have := hB0.size; omega)⟩
      case stop =>
        rintro D c' pre W hD hS ⟨⟨rfl, p, hp, ho⟩, q1, hb⟩ hK
        have fin := Lib.hid (meetCheck_over ha.out (hS.subset hp) ho)
        have HK := Lib.hid hK
        have HB := Lib.hid hb
        clear hp ho hK hb
        obtain ⟨z1, zf⟩ := q1.c1
        gi_wp2
        refine ⟨by simp, .inl ⟨_, _, rfl, run_takeDeferred HK.out, ?_⟩⟩
        obtain ⟨y1, _⟩ := (blk_put (o' := .deferred none) q1 HK.out rfl).c1
        refine ⟨_, by simp only [results, Tryz.results59]; go_simp <;> rfl, by rw [fin.out], below_put HB.out HB.out.size (by have := hB0.size; omega)⟩
end Go.Proofs.YteonpdnncodkaaaGreatDoor
