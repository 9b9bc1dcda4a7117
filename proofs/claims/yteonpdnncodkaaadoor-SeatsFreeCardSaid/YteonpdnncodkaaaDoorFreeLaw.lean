/- SeatsFree returns true: the walk. -/
import Derived.Test.YteonpdnncodkaaaDoorSane2
import Derived.Test.YteonpdnncodkaaaDoorPlain2
set_option linter.unusedVariables false
set_option linter.unusedSimpArgs false
namespace Go.Proofs.YteonpdnncodkaaaDoor
open Go.RowKit

theorem bit_not0 {G : Int} (h0 : 0 ≤ G) (h1 : G < 256) {g : Nat} (h : bitG G g = true) : (bits .and .u8 (G / 2 ^ g) 1 == 0) = false := by
  rw [and_one h0 h1]
  unfold bitG at h
  have h := of_decide_eq_true h
  rw [h]; rfl

set_option maxRecDepth 100000 in
set_option maxHeartbeats 8000000 in
theorem freeLaw_c (A : Option Addr) (c : Nat) (l : List Sec) (B : Option Addr) (d : Nat) (T : List Seat) (stu sec s0 s1 s2 now G : Int) (lv : Bool) (w : World) (hG : Glob w) (h : RSecs w A l) (ht : RSeats w B T) (hG8 : 0 ≤ G ∧ G < 256) :
    Calls Tryd.prog 13 #[.slice A l.length c, .slice B T.length d, .int .i64 stu, .int .i64 sec, .agg #[.int .i64 s0, .int .i64 s1, .int .i64 s2, .int .i64 now, .int .u8 G, .bool lv]] w fun e w' => e = .returned (.bool true) ∧ Below w.heap.size w w' := by
  obtain ⟨i0, hi, hz0, hz1, hz2⟩ := intInfo
  have hTl := ht.len
  have H := Lib.hid h
  have HT := Lib.hid ht
  clear h ht
  go_enter Tryd.func13, Tryd.ntmps13
  go_wp2_with fail
  have W0 : Below w.heap.size w (w.alloc (.cells #[.int .i64 s0, .int .i64 s1, .int .i64 s2, .int .i64 now, .int .u8 G, .bool lv] 55)) := by go_grown
  refine (sane_c _ (hG.below W0)).mono ?_
  rintro e w1 ⟨rfl, hb1⟩
  have ks1 := (Blk.new w 55 #[.int .i64 s0, .int .i64 s1, .int .i64 s2, .int .i64 now, .int .u8 G, .bool lv]).kept hb1 (by simp)
  have HB1 := Lib.hid (bthen W0 W0.size hb1)
  clear hb1 W0
  go_wp2_with fail
  have W1 : Hid (Below w.heap.size w (w1.alloc (.cells #[.int .i64 sec, .int .i64 (-1)] 53))) := HB1.out.alloc HB1.out.size _
  have kb1 := Blk.new w1 53 #[.int .i64 sec, .int .i64 (-1)]
  have ks1' := ks1.alloc (.cells #[.int .i64 sec, .int .i64 (-1)] 53)
  refine (few25_c A c l B d T _ (H.out.below W1.out) hTl).mono ?_
  rintro e w2 ⟨rfl, rfl⟩
  cases hfew : few25 l T
  · go_wp2
    go_ret
    exact ⟨rfl, W1.out⟩
  have hfw := few25_true hfew
  obtain ⟨hfw1, hfw2⟩ := hfw
  clear hfew
  go_wp2_with fail
  refine (seatCheck_c A c l B d T _ (hG.below W1.out) (H.out.below W1.out) (HT.out.below W1.out)).mono ?_
  rintro e w2 ⟨rfl, hb2⟩
  have HB2 := Lib.hid (bthen W1.out W1.out.size hb2)
  have ks2 := ks1'.kept hb2 ks1'.lt
  have kb2 := kb1.kept hb2 kb1.lt
  clear hb2 ks1 ks1' kb1 W1 HB1
  by_cases hc : seatCheck l T = 0
  case neg =>
    have d0 : (seatCheck l T != 0) = true := by simp [hc]
    clear hc
    go_wp2
    go_ret
    exact ⟨rfl, HB2.out⟩
  have HC := Lib.hid hc
  rw [hc]
  clear hc
  obtain ⟨b0, b1, _⟩ := kb2.c2
  go_wp2_with fail
  refine (bunCheck_c A c l sec (-1) _ (hG.below HB2.out) (H.out.below HB2.out)).mono ?_
  rintro e wa ⟨rfl, hba⟩
  have HBa := Lib.hid (bthen HB2.out HB2.out.size hba)
  have ksa := ks2.kept hba ks2.lt
  have kba := kb2.kept hba kb2.lt
  clear hba ks2 kb2 HB2 b0 b1
  by_cases hbc : bunCheck l sec (-1) = 0
  case neg =>
    have d0 : (bunCheck l sec (-1) != 0) = true := by simp [hbc]
    clear hbc
    go_wp2
    go_ret
    exact ⟨rfl, HBa.out⟩
  have HBC := Lib.hid hbc
  rw [hbc]
  clear hbc
  by_cases hst : 0 ≤ stu ∧ stu < 20000
  case neg =>
    have hst2 : stu < 0 ∨ (0 ≤ stu ∧ 20000 ≤ stu) := by omega
    clear hst
    rcases hst2 with h1 | ⟨h1, h2⟩
    all_goals
      go_wp2
      go_ret
      exact ⟨rfl, HBa.out⟩
  have HST := Lib.hid hst
  obtain ⟨hst1, hst2⟩ := hst
  go_wp2_with fail
  refine (has_c B d T stu sec _ (HT.out.below HBa.out)).mono ?_
  rintro e wb ⟨rfl, hbb⟩
  have HBb := Lib.hid (bthen HBa.out HBa.out.size hbb)
  have ksb := ksa.kept hbb ksa.lt
  have kbb := kba.kept hbb kba.lt
  clear hbb ksa kba HBa
  cases hh : hasSeat T stu sec
  case true =>
    clear hh
    go_wp2
    go_ret
    exact ⟨rfl, HBb.out⟩
  obtain ⟨gs, hgs⟩ : ∃ gs, gs = bitsG G := ⟨_, rfl⟩
  have hokg := bitsG_ok G
  rw [← hgs] at hokg
  have HOKG := Lib.hid hokg
  have hgl : gs.length ≤ 8 := by rw [hgs]; exact bitsN_len G 8
  have HLW := Lib.hid (free_law (now := now) HC.out HBC.out HST.out hokg hh)
  have HGS := Lib.hid hgs
  clear hh hgs hokg
  obtain ⟨q0, q1, q2, q3, q4, q5, _⟩ := ksb.c6
  go_wp2_with fail
  refine (groups_c s0 s1 s2 now G lv _ hG8).mono ?_
  rintro e w3 ⟨⟨Ag, cg, rfl, hrg⟩, hb3⟩
  have ks3 := ksb.kept hb3 ksb.lt
  have kb3 := kbb.kept hb3 kbb.lt
  have HB3 := Lib.hid (bthen HBb.out HBb.out.size hb3)
  rw [← HGS.out] at hrg
  rw [← HGS.out]
  have HRG := Lib.hid hrg
  have hG3 := hG.below HB3.out
  have H3 := Lib.hid (H.out.below HB3.out)
  have HT3 := Lib.hid (HT.out.below HB3.out)
  clear hrg hb3 ksb kbb HBb q0 q1 q2 q3 q4 q5
  have hO1 : Hid (World.ownsRow (w3.alloc (.cells #[.int .i64 (-1)] 3)) w3.heap.size 3 1 (.slice (some ⟨w3.heap.size, 0, none⟩) 1 1) 1 [.int .i64 (-1)]) := ⟨rfl, .inr ⟨w3.heap.size, 1, _, rfl, Nat.le_refl _, heap_alloc_new w3 _, Nat.le_refl _, by unfold maxLen; omega, rfl, rfl⟩⟩
  have hap : ∃ v' w6, (Builtin.append_ #[25, 25] 25 #[.slice (some ⟨w3.heap.size, 0, none⟩) 1 1, .slice Ag gs.length cg]).run Tryd.prog (w3.alloc (.cells #[.int .i64 (-1)] 3)) = .ok v' w6 ∧ OwnI w3.heap.size w6 v' (-1 :: gs) ∧ Below w3.heap.size w3 w6 := by
    cases Ag with
    | none =>
      have hgn : gs = [] := by
        cases gs with
        | nil => rfl
        | cons x t => obtain ⟨_, _, e, _⟩ := HRG.out.2 0 (by simp); cases e
      refine ⟨.slice (some ⟨w3.heap.size, 0, none⟩) 1 1, _, ?_, ?_, (Below.refl w3.heap.size w3).alloc (Nat.le_refl _) (.cells #[.int .i64 (-1)] 3)⟩
      · rw [hgn]
        simp [Builtin.append_, run_underlying Tryd.underlying25, sizeOf, typeInfo, hi, Builtin.lenOf, Builtin.firstCells, storeCells]
      · rw [hgn]; exact hO1.out
    | some ag =>
      have hsrc : ∀ j u, (gs.map fun x => Value.int .i64 x)[j]? = some u → (w3.alloc (.cells #[.int .i64 (-1)] 3)).cell? (ag.add j) = some u := by
        intro j u hj
        obtain ⟨hj1, hj2⟩ := List.getElem?_eq_some_iff.1 hj
        rw [List.length_map] at hj1
        obtain ⟨ad, e, f0⟩ := HRG.out.at (show Below w3.heap.size w3 (w3.alloc (.cells #[.int .i64 (-1)] 3)) by go_grown) j hj1
        cases e
        rw [f0, ← hj2]
        simp
      obtain ⟨v', w6, hr, ho, hg, _⟩ := run_append_own (P := Tryd.prog) (w := w3.alloc (.cells #[.int .i64 (-1)] 3)) w3.heap.size 25 25 3 i0 (.int .i64 0) 1 8 Tryd.underlying25 hi hz0 hz1 hz2 rfl (by decide) _ _ _ hO1.out ag gs.length cg (gs.map fun x => Value.int .i64 x) (by simp) hsrc (by intro u hu; obtain ⟨x, _, rfl⟩ := List.mem_map.1 hu; rfl) (by unfold maxLen; omega) (by omega) (by simp)
      refine ⟨v', w6, hr, ?_, ((Below.refl w3.heap.size w3).alloc (Nat.le_refl _) (.cells #[.int .i64 (-1)] 3)).grown hg (by simp) (by intro k e; cases e; exact Nat.le_refl _)⟩
      unfold OwnI
      rw [List.length_cons, Nat.add_comm]
      simpa using ho
  obtain ⟨v', w6, hrun, hoi, hb6⟩ := hap
  have hB6 : Hid (Below w3.heap.size w3 w6) := hb6
  obtain ⟨Pa, pc, hPa⟩ := hoi.shape
  subst hPa
  have hps : (-1 :: gs).length ≤ 9 := by simp; omega
  obtain ⟨ps, hpsE⟩ : ∃ ps, ps = -1 :: gs := ⟨_, rfl⟩
  have HPS := Lib.hid hpsE
  rw [← hpsE] at hoi hps hrun
  have hRP := Lib.hid (hoi.reads (by omega))
  clear hpsE hoi hb6 hO1
  (
 go_wp2_with (at_builtin; refine Lib.wpList_append_run _ rfl _ _ _ _ rfl _ _ rfl rfl _ _ hrun ?_)
 clear hrun
 go_loopg [13, 67] ps.length (fun n u i wr => ∃ k : Nat, n + k = ps.length ∧ i = .int .i64 k ∧ u = .bool (anyFree l T sec now (ps.take k)) ∧ Hid (Below w6.heap.size w6 wr))
 case atStart => exact ⟨0, by omega, rfl, rfl, Below.refl _ _⟩
 case round =>
   obtain ⟨k, hk, rfl, rfl, hB⟩ := hrel
   have HBW : Hid (Below w3.heap.size w3 wr) := bthen hB6.out hB6.out.size hB.out
   by_cases hlt : k < ps.length
   · obtain ⟨ad, eA, f0⟩ := hRP.out.at hB.out k hlt
     subst eA
     obtain ⟨g, hg⟩ : ∃ g, g = ps[k] := ⟨_, rfl⟩
     rw [← hg] at f0
     have hgm : g ∈ -1 :: gs := by rw [hg, ← HPS.out]; exact List.getElem_mem hlt
     have hgr : -1 ≤ g ∧ g < 8 := by
       rcases List.mem_cons.1 hgm with rfl | h
       · omega
       · have := HOKG.out.1 g h; omega
     have hfv := freeV_nonneg (now := now) HC.out HBC.out hgr
     obtain ⟨hfv0, hfe⟩ := hfv
     have HFE := Lib.hid hfe
     have hsn := anyFree_snoc l T sec now (ps.take k) g
     rw [hg, ← List.take_succ_eq_append_getElem hlt, ← hg] at hsn
     have HSN := Lib.hid hsn
     obtain ⟨q0, q1, q2, q3, q4, q5, _⟩ := (ks3.kept HBW.out ks3.lt).c6
     clear hg hgm hgr hfe hsn
     go_wp2_with fail
     refine (seatFree_c A c l B d T sec g now _ (hG3.below HBW.out) (H3.out.below HBW.out) (HT3.out.below HBW.out)).mono ?_
     rintro e w7 ⟨rfl, hb7⟩
     rw [HFE.out]
     have HB7 := Lib.hid (bthen hB.out hB.out.size hb7)
     clear hb7 q0 q1 q2 q3 q4 q5 f0
     generalize freeV l T sec g now = va at *
     cases haf : anyFree l T sec now (ps.take k)
     · by_cases hva : 0 < va
       · have fin : Hid (anyFree l T sec now (ps.take (k + 1)) = true) := by unfold Hid; rw [HSN.out, haf, decide_eq_true hva]; rfl
         clear haf
         go_wp2
         go_roundg (gk - 1)
         case measure => omega
         case rel => exact ⟨k + 1, by omega, by go_num, by rw [fin.out] <;> simp [hva], HB7⟩
       · have fin : Hid (anyFree l T sec now (ps.take (k + 1)) = false) := by unfold Hid; rw [HSN.out, haf, decide_eq_false hva]; rfl
         clear haf
         go_wp2
         go_roundg (gk - 1)
         case measure => omega
         case rel => exact ⟨k + 1, by omega, by go_num, by rw [fin.out] <;> simp [hva], HB7⟩
     · have fin : Hid (anyFree l T sec now (ps.take (k + 1)) = true) := by unfold Hid; rw [HSN.out, haf]; rfl
       clear haf
       go_wp2
       go_roundg (gk - 1)
       case measure => omega
       case rel => exact ⟨k + 1, by omega, by go_num, by rw [fin.out], HB7⟩
   · obtain rfl : k = ps.length := by omega
     rw [List.take_length, HPS.out]
     have HGR := Lib.hid (HRG.out.below HBW.out)
     have ks6 := ks3.kept HBW.out ks3.lt
     have kb6 := kb3.kept HBW.out kb3.lt
     have hG6 := hG3.below HBW.out
     have H6 := Lib.hid (H3.out.below HBW.out)
     have HT6 := Lib.hid (HT3.out.below HBW.out)
     obtain ⟨q0, q1, q2, q3, q4, q5, _⟩ := ks6.c6
     obtain ⟨b0, b1, _⟩ := kb6.c2
     clear hlt
     go_wp2_with fail
     refine (take_c A c l B d T stu sec (-1) Ag cg gs now _ hG6 H6.out HT6.out HGR.out (by omega)).mono ?_
     rintro e w7 ⟨⟨Xa, Xc, rfl, xr, xl⟩, hb7⟩
     have ks7 := ks6.kept hb7 ks6.lt
     have HB7 := Lib.hid (bthen HBW.out HBW.out.size hb7)
     clear q0 q1 q2 q3 q4 q5 b0 b1 hb7
     rcases HLW.out with ⟨hE, hAF⟩ | ⟨hE, hAF, g, hW⟩
     · rw [hE, hAF]
       have hlen := takeX_length l T stu sec (-1) gs now
       generalize takeX l T stu sec (-1) gs now = X at *
       clear hE hAF
       go_wp2
       go_ret
       exact ⟨rfl, bthen HB3.out HB3.out.size HB7.out⟩
     · rw [hE, hAF]
       have hlen := takeX_length l T stu sec (-1) gs now
       generalize takeX l T stu sec (-1) gs now = X at *
       have XR := Lib.hid xr
       have HW := Lib.hid hW
       clear hE hAF xr hW
       go_wp2
       go_loopg [20, 114] X.length (fun n u i wr => ∃ k : Nat, n + k = X.length ∧ i = .int .i64 k ∧ u = .int .i64 (lastG stu sec (X.take k)) ∧ Hid (Below w7.heap.size w7 wr))
       case atStart => exact ⟨0, by omega, rfl, rfl, Below.refl _ _⟩
       case round =>
         obtain ⟨k, hk, rfl, rfl, hB2⟩ := hrel
         by_cases hlt : k < X.length
         · obtain ⟨ad, rfl, f0, f1, f2⟩ := XR.out.at hB2.out k hlt
           obtain ⟨y, hy⟩ : ∃ y, y = X[k] := ⟨_, rfl⟩
           have hsn := lastG_snoc stu sec (X.take k) X[k]
           rw [← List.take_succ_eq_append_getElem hlt] at hsn
           rw [← hy] at f0 f1 f2 hsn
           have HSN := Lib.hid hsn
           have hBn : Hid (Below w7.heap.size w7 (wr.alloc (.cells #[.int .i64 y.stu, .int .i64 y.sec, .int .i64 y.grp] 60))) := hB2.out.alloc hB2.out.size _
           clear hy hsn
           cases hc1 : y.stu == stu
           · have fin : Hid (lastG stu sec (X.take (k + 1)) = lastG stu sec (X.take k)) := by unfold Hid; rw [HSN.out, hc1]; simp
             go_wp2
             go_roundg (gk - 1)
             case measure => omega
             case rel => exact ⟨k + 1, by omega, by go_num, by rw [fin.out], hBn⟩
           · cases hc2 : y.sec == sec
             · have fin : Hid (lastG stu sec (X.take (k + 1)) = lastG stu sec (X.take k)) := by unfold Hid; rw [HSN.out, hc1, hc2]; simp
               go_wp2
               go_roundg (gk - 1)
               case measure => omega
               case rel => exact ⟨k + 1, by omega, by go_num, by rw [fin.out], hBn⟩
             · have fin : Hid (lastG stu sec (X.take (k + 1)) = y.grp) := by unfold Hid; rw [HSN.out, hc1, hc2]; simp
               go_wp2
               go_roundg (gk - 1)
               case measure => omega
               case rel => exact ⟨k + 1, by omega, by go_num, by rw [fin.out], hBn⟩
         · obtain rfl : k = X.length := by omega
           rw [List.take_length, HW.out.last]
           have ks8 := ks7.kept hB2.out ks7.lt
           obtain ⟨q0, q1, q2, q3, q4, q5, _⟩ := ks8.c6
           have hbn := HW.out.bnd
           obtain ⟨hbn0, hbn1⟩ := hbn
           have HBW8 : Hid (Below w3.heap.size w3 wr) := bthen HB7.out HB7.out.size hB2.out
           have XR8 := Lib.hid (XR.out.below hB2.out)
           clear hlt
           rcases HW.out.mem with hm | hm
           · have hm' := hm
             subst hm'
             (
 go_wp2_with fail
 refine (seatFree_c A c l B d T sec _ now _ (hG3.below HBW8.out) (H3.out.below HBW8.out) (HT3.out.below HBW8.out)).mono ?_
 rintro e w9 ⟨rfl, hb9⟩
 rw [HW.out.e1]
 have HB9 := Lib.hid (bthen HBW8.out HBW8.out.size hb9)
 have ks9 := ks8.kept hb9 ks8.lt
 have XR9 := Lib.hid (XR8.out.below hb9)
 clear hb9 q0 q1 q2 q3 q4 q5
 obtain ⟨q0, q1, q2, q3, q4, q5, _⟩ := ks9.c6
 go_wp2_with fail
 refine (seatFree_c A c l Xa Xc X sec _ now _ (hG3.below HB9.out) (H3.out.below HB9.out) XR9.out).mono ?_
 rintro e w10 ⟨rfl, hb10⟩
 rw [HW.out.e2, HW.out.less]
 have HB10 := Lib.hid (bthen HB9.out HB9.out.size hb10)
 clear hb10 q0 q1 q2 q3 q4 q5
 go_wp2
 go_ret
 exact ⟨rfl, bthen HB3.out HB3.out.size HB10.out⟩)
           · have hm8 := HOKG.out.1 g hm
             obtain ⟨gi, hgi⟩ : ∃ gi : Nat, g = gi := ⟨g.toNat, by omega⟩
             subst hgi
             have hbit := (mem_bitsG.1 (by rw [← HGS.out]; exact hm)).2.2
             have hb1 := bit_not0 hG8.1 hG8.2 (g := gi) (by simpa using hbit)
             obtain ⟨hm80, hm81⟩ := hm8
             clear hm hbit
             (
 go_wp2_with fail
 refine (seatFree_c A c l B d T sec _ now _ (hG3.below HBW8.out) (H3.out.below HBW8.out) (HT3.out.below HBW8.out)).mono ?_
 rintro e w9 ⟨rfl, hb9⟩
 rw [HW.out.e1]
 have HB9 := Lib.hid (bthen HBW8.out HBW8.out.size hb9)
 have ks9 := ks8.kept hb9 ks8.lt
 have XR9 := Lib.hid (XR8.out.below hb9)
 clear hb9 q0 q1 q2 q3 q4 q5
 obtain ⟨q0, q1, q2, q3, q4, q5, _⟩ := ks9.c6
 go_wp2_with fail
 refine (seatFree_c A c l Xa Xc X sec _ now _ (hG3.below HB9.out) (H3.out.below HB9.out) XR9.out).mono ?_
 rintro e w10 ⟨rfl, hb10⟩
 rw [HW.out.e2, HW.out.less]
 have HB10 := Lib.hid (bthen HB9.out HB9.out.size hb10)
 clear hb10 q0 q1 q2 q3 q4 q5
 go_wp2
 go_ret
 exact ⟨rfl, bthen HB3.out HB3.out.size HB10.out⟩))
end Go.Proofs.YteonpdnncodkaaaDoor
