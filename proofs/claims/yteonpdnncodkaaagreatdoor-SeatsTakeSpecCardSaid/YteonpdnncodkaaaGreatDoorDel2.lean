/- slices.DeleteFunc over a row of seats that the call has made itself: its contract. -/
import Derived.Test.YteonpdnncodkaaaGreatDoorDel
import Derived.Test.YteonpdnncodkaaaGreatDoorTake
set_option linter.unusedVariables false
set_option linter.unusedSimpArgs false
namespace Go.Proofs.YteonpdnncodkaaaGreatDoor
open Go.RowKit

theorem zeroSeat_one (n : Nat) : ∀ v ∈ (Builtin.zeroCells (Value.agg #[.int .i64 0, .int .i64 0, .int .i64 0]).cells n).toList, v.oneCell' = true := by
  intro v hv
  simp only [Builtin.zeroCells, Array.toList_map, List.mem_map] at hv
  obtain ⟨i, _, rfl⟩ := hv
  have h : i % 3 = 0 ∨ i % 3 = 1 ∨ i % 3 = 2 := by omega
  show ((#[Value.int .i64 0, .int .i64 0, .int .i64 0] : Array Value)[i % 3]!).oneCell' = true
  rcases h with h | h | h <;> rw [h] <;> rfl
theorem RSeats.of_row {w : World} {g : Nat} {t : TypeId} {d : List Seat} {rest : List Value} (h : Blk w g t (cellsS d ++ rest).toArray) (hl : d.length * 3 ≤ 140737488355328) : RSeats w (some ⟨g, 0, none⟩) d :=
  RSeats.of_cells hl (fun j u hj => by
    rw [add0]
    refine h.cell j ?_
    rw [List.getElem?_toArray, List.getElem?_append_left (List.getElem?_eq_some_iff.1 hj).1]
    exact hj)
theorem RSeats.row_at {w : World} {g : Nat} {t : TypeId} {d : List Seat} {rest : List Value} (h : Blk w g t (cellsS d ++ rest).toArray) (hl : d.length * 3 ≤ 140737488355328) (k : Nat) (hk : k < d.length) :
    w.cell? ⟨g, k * 3, none⟩ = some (.int .i64 d[k].stu) ∧ w.cell? ⟨g, k * 3 + 1, none⟩ = some (.int .i64 d[k].sec) ∧ w.cell? ⟨g, k * 3 + 2, none⟩ = some (.int .i64 d[k].grp) := by
  obtain ⟨ad, e, f0, f1, f2⟩ := (RSeats.of_row h hl).at (Below.refl _ _) k hk
  cases e
  rw [add0] at f0 f1 f2
  exact ⟨f0, f1, f2⟩

set_option maxRecDepth 100000 in
set_option maxHeartbeats 4000000 in
theorem del_c (B : Nat) (v : Value) (l : List Seat) (gf : Nat) (lb : Array Value) (p : Seat → Bool) (w : World) (hBw : B ≤ w.heap.size) (ho : OwnS B w v l) (hL : l.length ≤ 1000000) (eg : ∀ args w, (callFunc gf args).run Tryz.prog w = .ok (.enter gf args) w)
    (hp : ∀ (W : World) (x : Seat), (∀ b t cs, t ≠ 44 → Blk w b t cs → Blk W b t cs) → Calls Tryz.prog gf (#[.agg #[.int .i64 x.stu, .int .i64 x.sec, .int .i64 x.grp]] ++ lb) W fun e W' => e = .returned (.bool (p x)) ∧ Below W.heap.size W W') :
    Calls Tryz.prog 30 #[v, .func (.func gf) #[] lb] w fun e w' => ∃ A' c', e = .returned (.slice A' (l.filter fun x => !p x).length c') ∧ RSeats w' A' (l.filter fun x => !p x) ∧ (l.filter fun x => !p x).length ≤ c' ∧ Below B w w' := by
  obtain ⟨A, c, hv⟩ := ho.shape
  subst hv
  have HO := Lib.hid ho
  have HP := Lib.hid hp
  clear ho hp
  go_enter Tryz.func30, Tryz.ntmps30
  go_wp2_with fail
  refine (idxSeat_c A c l gf lb p _ (HO.out.reads (by omega)).2 eg (fun W x hb => HP.out W x (fun b t cs _ hk => hk.kept hb hk.lt))).mono ?_
  rintro e w1 ⟨rfl, hb1⟩
  have HB1 := Lib.hid hb1
  clear hb1
  rcases idx_cases p l with ⟨hi, hn⟩ | ⟨k0, hk0, hi, hp0, hq0⟩
  · have fin : Hid ((l.filter fun x => !p x) = l) := List.filter_eq_self.2 (fun x hx => by rw [hn x hx]; rfl)
    rw [hi]
    clear hi hn
    go_wp2
    go_ret
    rw [fin.out]
    exact ⟨A, c, rfl, ((HO.out.below HB1.out).reads (by omega)).2, HO.out.cap, HB1.out.mono hBw⟩
  · rw [hi]
    rcases HO.out.cases with ⟨_, h0⟩ | ⟨g, cap, rest, hv, hBg, hg, hl, hm⟩
    · subst h0; simp at hk0
    cases hv
    have kg : Blk w g 44 (cellsS l ++ rest).toArray := ⟨hg⟩
    have kg1 := kg.kept HB1.out kg.lt
    have hK := Lib.hid (KeptS.start hk0 hp0 hq0)
    have hHB : Hid (Below B w w1) := HB1.out.mono hBw
    have hKT : Hid (∀ b t cs, t ≠ 44 → Blk w b t cs → Blk w1 b t cs) := fun b t cs _ hk => hk.kept HB1.out hk.lt
    have dk : ((k0 : Int) == -1) = false := beq_eq_false_iff_ne.2 (by omega)
    have HL := Lib.hid hl
    have HSZ := Lib.hid HB1.out.size
    unfold maxLen at hm
    clear hi hp0 hq0 hg hl kg
    go_wp2
    go_loopg [5, 6] l.length (fun n si sj wr => ∃ (i j : Nat) (d : List Seat), l.length - j ≤ n ∧ si = .int .i64 i ∧ sj = .int .i64 j ∧ Hid (KeptS p l j i d) ∧ i < j ∧ j ≤ l.length ∧ Blk wr g 44 (cellsS d ++ rest).toArray ∧ Hid (Below B w wr) ∧ Hid (∀ b t cs, t ≠ 44 → Blk w b t cs → Blk wr b t cs))
    case atStart => exact ⟨k0, k0 + 1, l, by omega, rfl, by go_num, hK, by omega, by omega, kg1, hHB, hKT⟩
    case round =>
      obtain ⟨i, j, d, hn, rfl, rfl, hK, hij, hjl, kgr, hB, hT⟩ := hrel
      have hdl := hK.out.len
      by_cases hlt : j < l.length
      · obtain ⟨f0, f1, f2⟩ := RSeats.row_at kgr (by omega) j (by omega)
        rw [hK.out.get hlt] at f0 f1 f2
        obtain ⟨x, hx⟩ : ∃ x, x = l[j] := ⟨_, rfl⟩
        rw [← hx] at f0 f1 f2
        have HX := Lib.hid hx
        have HDL := Lib.hid hdl
        have ea : Addr.add ⟨g, 0, none⟩ (j * 3) = ⟨g, j * 3, none⟩ := add0 _ _
        clear hdl hx
        go_wp2_with fail
        have hs1 := hB.out.size
        refine (HP.out _ x (fun b t cs ht hk => (hT.out b t cs ht hk).alloc _)).mono ?_
        rintro e w2 ⟨rfl, hb2⟩
        have kv := (Blk.new wr 44 #[.int .i64 x.stu, .int .i64 x.sec, .int .i64 x.grp]).kept hb2 (by simp)
        have kg2 := (kgr.alloc (.cells #[.int .i64 x.stu, .int .i64 x.sec, .int .i64 x.grp] 44)).kept hb2 (by have := kgr.lt; simp; omega)
        have hB2 : Hid (Below B w w2) := (hB.out.alloc (by omega) (.cells #[.int .i64 x.stu, .int .i64 x.sec, .int .i64 x.grp] 44)).trans (hb2.mono (by simp; omega))
        have hT2 : Hid (∀ b t cs, t ≠ 44 → Blk w b t cs → Blk w2 b t cs) := fun b t cs ht hk => ((hT.out b t cs ht hk).alloc _).kept hb2 (by have := ((hT.out b t cs ht hk).alloc (.cells #[.int .i64 x.stu, .int .i64 x.sec, .int .i64 x.grp] 44)).lt; exact this)
        clear hb2 f0 f1 f2 ea kgr hB hT
        cases hq : p x
        · have hK2 : Hid (KeptS p l (j + 1) (i + 1) (d.set i x)) := by
            unfold Hid
            rw [HX.out]
            exact hK.out.keep hlt (by rw [← HX.out]; exact hq)
          obtain ⟨v0, v1, v2, _⟩ := kv.c3
          obtain ⟨y0, y1, y2⟩ := RSeats.row_at kg2 (by rw [HDL.out]; omega) i (by rw [HDL.out]; omega)
          have yf := kg2.frozen
          have kg3 := ((kg2.set (i * 3) (.int .i64 x.stu)).set (i * 3 + 1) (.int .i64 x.sec)).set (i * 3 + 2) (.int .i64 x.grp)
          have e3 : ((((cellsS d ++ rest).toArray.setIfInBounds (i * 3) (.int .i64 x.stu)).setIfInBounds (i * 3 + 1) (.int .i64 x.sec)).setIfInBounds (i * 3 + 2) (.int .i64 x.grp)) = (cellsS (d.set i x) ++ rest).toArray := by
            rw [List.setIfInBounds_toArray, List.setIfInBounds_toArray, List.setIfInBounds_toArray, cellsS_set d rest i (by rw [HDL.out]; omega) x]
          rw [e3] at kg3
          have hB3 : Hid (Below B w (((w2.setCell ⟨g, i * 3, none⟩ (.int .i64 x.stu)).setCell ⟨g, i * 3 + 1, none⟩ (.int .i64 x.sec)).setCell ⟨g, i * 3 + 2, none⟩ (.int .i64 x.grp))) := ((hB2.out.setCell (p := ⟨g, i * 3, none⟩) hBg _).setCell (p := ⟨g, i * 3 + 1, none⟩) hBg _).setCell (p := ⟨g, i * 3 + 2, none⟩) hBg _
          have hT3 : Hid (∀ b t cs, t ≠ 44 → Blk w b t cs → Blk (((w2.setCell ⟨g, i * 3, none⟩ (.int .i64 x.stu)).setCell ⟨g, i * 3 + 1, none⟩ (.int .i64 x.sec)).setCell ⟨g, i * 3 + 2, none⟩ (.int .i64 x.grp)) b t cs) := fun b t cs ht hk => by
            have hk2 := hT2.out b t cs ht hk
            have hbg : b ≠ g := by
              rintro rfl
              have h1 := hk2.is
              rw [kg2.is] at h1
              simp only [Option.some.injEq, Obj.cells.injEq] at h1
              exact ht h1.2.1.symm
            exact ((hk2.far (p := ⟨g, i * 3, none⟩) hbg _).far (p := ⟨g, i * 3 + 1, none⟩) hbg _).far (p := ⟨g, i * 3 + 2, none⟩) hbg _
          have ea : Addr.add ⟨g, 0, none⟩ (i * 3) = ⟨g, i * 3, none⟩ := add0 _ _
          clear hq e3
          go_wp2
          go_roundg (gk - 1)
          case measure => omega
          case rel => exact ⟨i + 1, j + 1, _, by omega, by go_num, by go_num, hK2, by omega, by omega, kg3, hB3, hT3⟩
        · have hK2 : Hid (KeptS p l (j + 1) i d) := hK.out.skip hlt (by rw [← HX.out]; exact hq)
          clear hq
          go_wp2
          go_roundg (gk - 1)
          case measure => omega
          case rel => exact ⟨i, j + 1, d, by omega, rfl, by go_num, hK2, by omega, by omega, kg2, hB2, hT2⟩
      · obtain rfl : j = l.length := by omega
        have hfin := hK.out.done
        have hcc : l.length ≤ c := by have := HL.out; omega
        have hci : ¬ c = i := by omega
        have hzl : ∀ n, (Builtin.zeroCells (Value.agg #[.int .i64 0, .int .i64 0, .int .i64 0]).cells n).toList.length = n * 3 := fun n => by rw [Array.length_toList, size_zeroCells]; rfl
        have hcl : ∀ ty, (Builtin.clear_ #[23] ty #[.slice (some ⟨g, i * 3, none⟩) (l.length - i) (c - i)]).run Tryz.prog wr = .ok (.tuple #[]) (wr.setRow g ((cellsS d ++ rest).toArray.toList.take (i * 3) ++ (Builtin.zeroCells (Value.agg #[.int .i64 0, .int .i64 0, .int .i64 0]).cells (l.length - i)).toList ++ (cellsS d ++ rest).toArray.toList.drop (i * 3 + (Builtin.zeroCells (Value.agg #[.int .i64 0, .int .i64 0, .int .i64 0]).cells (l.length - i)).toList.length)).toArray) := fun ty =>
          run_clear_row wr 23 44 ty _ Tryz.underlying23 (fun _ => by kernel_rfl) g (i * 3) (l.length - i) (c - i) _ _ kgr.is (by omega) (by rw [hzl]; simp [cellsS_length, hdl]; omega) (zeroSeat_one _)
        obtain ⟨CS, hCS⟩ : ∃ CS, CS = ((cellsS d ++ rest).toArray.toList.take (i * 3) ++ (Builtin.zeroCells (Value.agg #[.int .i64 0, .int .i64 0, .int .i64 0]).cells (l.length - i)).toList ++ (cellsS d ++ rest).toArray.toList.drop (i * 3 + (Builtin.zeroCells (Value.agg #[.int .i64 0, .int .i64 0, .int .i64 0]).cells (l.length - i)).toList.length)) := ⟨_, rfl⟩
        rw [← hCS] at hcl
        have hCS2 : ∃ r, CS = cellsS (d.take i) ++ r := by
          refine ⟨(Builtin.zeroCells (Value.agg #[.int .i64 0, .int .i64 0, .int .i64 0]).cells (l.length - i)).toList ++ (cellsS d ++ rest).toArray.toList.drop (i * 3 + (Builtin.zeroCells (Value.agg #[.int .i64 0, .int .i64 0, .int .i64 0]).cells (l.length - i)).toList.length), ?_⟩
          rw [hCS, List.append_assoc, cellsS_take, List.take_append_of_le_length (by rw [cellsS_length]; omega)]
        obtain ⟨r, hr⟩ := hCS2
        have HR := Lib.hid hr
        have HFIN := Lib.hid hfin
        have HDL := Lib.hid hdl
        clear hCS hzl hr hfin hdl
        go_wp2
        go_ret
        have kf : Blk (wr.setRow g CS.toArray) g 44 (cellsS (d.take i) ++ r).toArray := ⟨by rw [← HR.out]; exact setRow_heap wr g _ _ _ _ kgr.is⟩
        have hlen : (d.take i).length = i := by rw [List.length_take, HDL.out]; omega
        refine ⟨some ⟨g, 0, none⟩, c, ?_, ?_, ?_, ?_⟩
        · rw [← HFIN.out, hlen]; rfl
        · rw [← HFIN.out]; exact RSeats.of_row kf (by rw [hlen]; omega)
        · rw [← HFIN.out, hlen]; omega
        · exact below_setRow hB.out hBg _
end Go.Proofs.YteonpdnncodkaaaGreatDoor
