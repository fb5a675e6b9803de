/- What the program's functions do, step by step: part G of the texts for this claim; no condition beyond what each theorem states. -/
import Derived.Deep.Cut
import Derived.Deep.DeepCutAuto
import Derived.Test.YtdmljilcbndmfaaDoorRbOneBunA
import Derived.Test.YtdmljilcbndmfaaDoorRbOneBunB
import Derived.Test.YtdmljilcbndmfaaDoorRbOneBunC
import Derived.Test.YtdmljilcbndmfaaDoorRbOneBunD
import Derived.Test.YtdmljilcbndmfaaDoorRbOneBunE
import Derived.Test.YtdmljilcbndmfaaDoorRbOneBunF
/- REBUILD IS LEAST: the walk. -/
namespace Go.Proofs.YtdmljilcbndmfaaDoor
open Go.RowKit Go.Shelf
set_option maxHeartbeats 8000000 in
set_option maxRecDepth 100000 in
theorem law_least (d gl lost piece other : Int) (gs : List (List Int)) (data : List UInt8) (G : Value) (w : World) (hT : Tab w) (hG : Rs (Rs RI) w G gs) (hn : gs.length ≤ 4611686018427387904) :
    Calls Tryd.prog 6 #[.agg #[.int .i64 d, G, .int .i64 gl, .string (sb data), .int .i64 lost, .int .i64 piece, .int .i64 other]] w fun e w' => e = .returned (.bool true) ∧ Ext w w' := by
  obtain ⟨A, c, rfl, hl⟩ := hG.form
  have hx0 := (Ext.refl w).alloc (.cells #[.int .i64 d, .slice A gs.length c, .int .i64 gl, .string (sb data), .int .i64 lost, .int .i64 piece, .int .i64 other] 63)
  have HX := Lib.hid hx0
  have HT := Lib.hid (hT.ext hx0)
  have HG := Lib.hid (Rs.ext (Rs.ext RI.ext) _ _ _ _ hx0 hG)
  have HN := Lib.hid hn
  have HB := Lib.hid (cells_new w #[.int .i64 d, .slice A gs.length c, .int .i64 gl, .string (sb data), .int .i64 lost, .int .i64 piece, .int .i64 other] 63)
  have hm := small_any d gl lost piece other gs data 12 _ _ HG.out HN.out (by decide)
  clear hT hG hx0 hn
  go_enter Tryd.func6, Tryd.ntmps6
  go_wp2_with fail
  refine hm.mono ?_
  clear hm
  rintro e w1 ⟨rfl, hx1⟩
  replace HX := Lib.hid ((HX.out).trans hx1)
  replace HT := Lib.hid ((HT.out).ext hx1)
  replace HG := Lib.hid (Rs.ext (Rs.ext RI.ext) _ _ _ _ hx1 (HG.out))
  replace HB := Lib.hid ((HB.out).ext hx1)
  clear hx1
  by_cases hs : Rb.Small d gl gs data lost piece other (12 : Nat)
  case neg =>
    rw [decide_eq_false hs]
    clear hs
    go_wp2_with fail
    refine (sanity_any w1 HT.out).mono ?_
    rintro e w901 ⟨rfl, hxs⟩
    have HXS := Lib.hid (HX.out.trans hxs)
    clear hxs
    go_wp2_with fail
    go_ret
    exact ⟨rfl, HXS.out⟩
  case pos =>
  rw [decide_eq_true hs]
  obtain ⟨hck, hpc, hn0, hnm, ⟨L, P, O, rfl, rfl, rfl, hL, hO, hP⟩, hdl, hgl⟩ := Rb.small_open hs
  clear hs
  obtain ⟨n, hnn⟩ : ∃ n, (Cd.rowsOf d gs gl).length = n := ⟨_, rfl⟩
  rw [hnn] at hpc hn0 hnm hL hO hP
  have hn24 : n ≤ 12 := by omega
  have hM1 : 2 ^ n ≤ 4096 := show 2 ^ n ≤ 2 ^ 12 from Nat.pow_le_pow_right (by decide) (by omega)
  have hL2 : L < 4096 := by omega
  have hO2 : O < 4096 := by omega
  have HCK := Lib.hid hck
  have HPC := Lib.hid hpc
  have HNN := Lib.hid hnn
  have HLO := Lib.hid (And.intro hL hO)
  have HGN := Lib.hid hgl
  clear hck hpc hnn hL hO hM1 hgl hl
  have hE := Rb.err1_in (d := d) (gl := gl) (gs := gs) (lost := (L : Nat)) (piece := (P : Nat)) HCK.out (by rw [HNN.out]; omega) (by omega) (by rw [HNN.out]; have := HLO.out.1; omega) (by omega) (by rw [HNN.out]; omega)
  have HE := Lib.hid hE.2
  have h2w := Rb.leastE_two hE.2
  clear hE
  have b0 : w1.cell? ⟨w.heap.size, 0, none⟩ = some (.int .i64 d) := HB.out 0 _ rfl
  have b1 : w1.cell? ⟨w.heap.size, 1, none⟩ = some (.slice A gs.length c) := HB.out 1 _ rfl
  have b2 : w1.cell? ⟨w.heap.size, 2, none⟩ = some (.int .i64 gl) := HB.out 2 _ rfl
  go_wp2_with fail
  clear b0 b1 b2
  refine (cRows_any d gl gs _ _ HT.out HG.out).mono ?_
  rintro e w2 ⟨v, rfl, hv, hx⟩
  rw [HCK.out]
  obtain ⟨RA, cR, rfl, _⟩ := hv.form
  have hvl := HNN.out
  rw [HNN.out]
  replace HX := Lib.hid ((HX.out).trans hx)
  replace HT := Lib.hid ((HT.out).ext hx)
  replace HG := Lib.hid (Rs.ext (Rs.ext RI.ext) _ _ _ _ hx (HG.out))
  replace HB := Lib.hid ((HB.out).ext hx)
  clear hx
  have HM := Lib.hid hv
  rw [HNN.out] at HM
  clear hv hvl
  have b0 : w2.cell? ⟨w.heap.size, 0, none⟩ = some (.int .i64 d) := HB.out 0 _ rfl
  have b1 : w2.cell? ⟨w.heap.size, 1, none⟩ = some (.slice A gs.length c) := HB.out 1 _ rfl
  have b2 : w2.cell? ⟨w.heap.size, 2, none⟩ = some (.int .i64 gl) := HB.out 2 _ rfl
  go_wp2_with fail
  clear b0 b1 b2
  refine (rPieces_any d gl gs _ _ HG.out (by have := HGN.out; omega)).mono ?_
  rintro e w3 ⟨rfl, hx⟩
  rw [HPC.out]
  replace HX := Lib.hid ((HX.out).trans hx)
  replace HT := Lib.hid ((HT.out).ext hx)
  replace HG := Lib.hid (Rs.ext (Rs.ext RI.ext) _ _ _ _ hx (HG.out))
  replace HB := Lib.hid ((HB.out).ext hx)
  replace HM := Lib.hid (Rs.ext (Rs.ext RB.ext) _ _ _ _ hx (HM.out))
  clear hx
  have eL : ((n : Int) != (n : Int)) = false := by simp
  obtain ⟨us, hul, hud, huv⟩ := Rs.vals HM.out
  have HU := Lib.hid (And.intro hul (And.intro hud huv))
  clear hul hud huv
  go_wp2_with fail
  clear eL
  go_loopw [5, 6, 40] (fun v5 v6 vk wr => ∃ (k m c1 c2 : Nat) (A1 A2 : Option Addr), k ≤ n ∧ m ≤ k ∧ vk = .int .i64 (k : Nat) ∧ v5 = .slice A1 m c1 ∧ v6 = .slice A2 m c2 ∧ Hid (m = (Rb.usable k L (P : Nat) O).length ∧ Owns w3 wr [⟨.slice A1 m c1, 3, 1, m, (Rb.usable k L (P : Nat) O).map (.int .i64)⟩, ⟨.slice A2 m c2, 28, 1, m, (Rb.usable k L (P : Nat) O).map fun i : Int => us.getD i.toNat (.slice none 0 0)⟩])) (fun _ _ vk _ => n - (intOf vk).toNat)
  case atStart => exact ⟨0, 0, 0, 0, none, none, Nat.zero_le _, Nat.le_refl _, rfl, rfl, rfl, Lib.hid ⟨rfl, Owns.nilled (L := [⟨.slice none 0 0, 3, 1, 0, []⟩]) (Owns.nilled (L := []) (Owns.start w3 (fun r h => by cases h)))⟩⟩
  case round =>
    obtain ⟨k, m, c1, c2, A1, A2, hk, hm, rfl, rfl, rfl, HI⟩ := hrel
    have hxr := HI.out.2.ext
    replace HX := Lib.hid ((HX.out).trans hxr)
    replace HT := Lib.hid ((HT.out).ext hxr)
    replace HG := Lib.hid (Rs.ext (Rs.ext RI.ext) _ _ _ _ hxr (HG.out))
    replace HB := Lib.hid ((HB.out).ext hxr)
    replace HM := Lib.hid (Rs.ext (Rs.ext RB.ext) _ _ _ _ hxr (HM.out))
    clear hxr
    by_cases hlt : k < n
    case pos =>
      have hkR : k < (Cd.rowsOf d gs gl).length := by rw [HNN.out]; exact hlt
      obtain ⟨ad, hA, _, hcu⟩ := (HU.out.2.1.ext HI.out.2.ext) k (us.getD k (.slice none 0 0)) (by rw [List.getD_eq_getElem?_getD, List.getElem?_eq_getElem (by rw [HU.out.1]; exact hkR)]; rfl)
      subst hA
      have hrow := HU.out.2.2 k hkR
      obtain ⟨rA, rc, hru, _⟩ := hrow.form
      obtain ⟨rl, hrl⟩ : ∃ x, (Cd.rowsOf d gs gl)[k].length = x := ⟨_, rfl⟩
      rw [hrl] at hru
      rw [hru] at hcu
      have HRU := Lib.hid hru
      clear hrow hru hrl
      have hb := bit_int16 L k (show L < 2 ^ 40 by omega)
      have hb2 : Cd.bitAt L k < 2 := Nat.mod_lt _ (by decide)
      obtain ⟨b, hbe⟩ : ∃ b, Cd.bitAt L k = b := ⟨_, rfl⟩
      rw [hbe] at hb hb2
      have ho := bit_int16 O k (show O < 2 ^ 40 by omega)
      have ho2 : Cd.bitAt O k < 2 := Nat.mod_lt _ (by decide)
      obtain ⟨bo, hoe⟩ : ∃ b, Cd.bitAt O k = b := ⟨_, rfl⟩
      rw [hoe] at ho ho2
      have HBO := Lib.hid (And.intro hbe hoe)
      clear hbe hoe
      have hkn : (k : Int) < (n : Int) := by omega
      have b4 : wr.cell? ⟨w.heap.size, 4, none⟩ = some (.int .i64 (L : Nat)) := HB.out 4 _ rfl
      have b5 : wr.cell? ⟨w.heap.size, 5, none⟩ = some (.int .i64 (P : Nat)) := HB.out 5 _ rfl
      have b6 : wr.cell? ⟨w.heap.size, 6, none⟩ = some (.int .i64 (O : Nat)) := HB.out 6 _ rfl
      by_cases hb0 : b = 0
      case neg =>
        have HS := Lib.hid (Rb.usable_no (k := k) (lost := L) (p := (P : Nat)) (other := O) (fun e => hb0 (by rw [← HBO.out.1]; exact e.1)))
        obtain rfl : b = 1 := by omega
        clear hb0
        go_wp2_with fail
        go_roundw
        case rel => exact ⟨k + 1, m, c1, c2, A1, A2, by omega, by omega, by go_num, (by first | trivial | rfl), (by first | trivial | rfl), Lib.hid (by rw [HS.out]; exact HI.out)⟩
        case measure => simp [intOf]; omega
      case pos =>
        subst hb0
        by_cases hkp : (k : Int) = (P : Int)
        case pos =>
          have HS := Lib.hid (Rb.usable_no (k := k) (lost := L) (p := (P : Nat)) (other := O) (fun e => e.2.1 hkp))
          obtain rfl : k = P := by omega
          have hne : ((k : Int) != (k : Int)) = false := by simp
          clear hkp
          go_wp2_with fail
          go_roundw
          case rel => exact ⟨k + 1, m, c1, c2, A1, A2, by omega, by omega, by go_num, (by first | trivial | rfl), (by first | trivial | rfl), Lib.hid (by rw [HS.out]; exact HI.out)⟩
          case measure => simp [intOf]; omega
        case neg =>
          have hne : ((k : Int) != (P : Int)) = true := by rw [bne_iff_ne]; exact hkp
          by_cases ho0 : bo = 1
          case neg =>
            have HS := Lib.hid (Rb.usable_no (k := k) (lost := L) (p := (P : Nat)) (other := O) (fun e => ho0 (by rw [← HBO.out.2]; exact e.2.2)))
            obtain rfl : bo = 0 := by omega
            clear ho0
            go_wp2_with fail
            go_roundw
            case rel => exact ⟨k + 1, m, c1, c2, A1, A2, by omega, by omega, by go_num, (by first | trivial | rfl), (by first | trivial | rfl), Lib.hid (by rw [HS.out]; exact HI.out)⟩
            case measure => simp [intOf]; omega
          case pos =>
            subst ho0
            have HS := Lib.hid (Rb.usable_yes (k := k) (lost := L) (p := (P : Nat)) (other := O) HBO.out.1 hkp HBO.out.2)
            go_wp2_with (first | (refine wpl_append_owns (u := .int .i64 (k : Nat)) 27 3 rfl (.tmp 65) (.tmp 67) rfl Tryd.underlying27 info_int rfl HI.out.2.push1 0 rfl rfl rfl (cell_of_row _ _ 0 _ _ (0, 0) (heap_new _ _)) rfl (by omega) (by decide) ?_; intro g9 c9 w9 hO9 hg9; have HO9 := Lib.hid hO9; clear hO9 hg9) | (refine wpl_append_owns (u := .slice rA rl rc) 65 28 rfl (.tmp 69) (.tmp 71) rfl Tryd.underlying65 info_bytes rfl HO9.out.push1 1 rfl rfl rfl (cell_of_row _ _ 0 _ _ (0, 0) (heap_new _ _)) rfl (by omega) (by decide) ?_; intro g8 c8 w8 hO8 hg8; have HO8 := Lib.hid hO8; clear hO8 hg8))
            have hfin : Owns w3 w8 [⟨.slice (some ⟨g9, 0, none⟩) (m + 1) c9, 3, 1, m + 1, (Rb.usable (k + 1) L (P : Nat) O).map (.int .i64)⟩, ⟨.slice (some ⟨g8, 0, none⟩) (m + 1) c8, 28, 1, m + 1, (Rb.usable (k + 1) L (P : Nat) O).map fun i : Int => us.getD i.toNat (.slice none 0 0)⟩] := by
              refine Owns.front (M := [⟨.slice (some ⟨wr.heap.size, 0, none⟩) 1 1, 3, 1, 1, [.int .i64 (k : Nat)]⟩, ⟨.slice (some ⟨w9.heap.size, 0, none⟩) 1 1, 28, 1, 1, [.slice rA rl rc]⟩]) ?_
              rw [HS.out, List.map_append, List.map_append, List.map_singleton, List.map_singleton, Int.toNat_natCast, HRU.out]
              exact HO8.out
            have HF := Lib.hid hfin
            clear hfin hb ho hne hkp b4 b5 b6
            go_wp2_with fail
            go_roundw
            case rel => exact ⟨k + 1, m + 1, c9, c8, some ⟨g9, 0, none⟩, some ⟨g8, 0, none⟩, by omega, by omega, by go_num, (by first | trivial | rfl), (by first | trivial | rfl), Lib.hid ⟨by rw [HS.out, List.length_append, ← HI.out.1]; rfl, HF.out⟩⟩
            case measure => simp [intOf]; omega
    case neg =>
      obtain rfl : n = k := by omega
      have hfr : Rs RI wr (.slice A1 m c1) (Rb.usable n L (P : Nat) O) := by
        have hrd := HI.out.2.rd 0 (A := A1) (n := m) (c := c1) (e := 3) rfl
        have h := Rs.of_ints (c := c1) hrd HI.out.1 (by rw [← HI.out.1]; omega) (fun x hx => by have := Rb.usable_bounds hx; omega)
        exact h
      have hlr : Rs (Rs RB) wr (.slice A2 m c2) (Rb.rowsAt (Cd.rowsOf d gs gl) (Rb.usable n L (P : Nat) O)) := by
        have hrd := HI.out.2.rd 1 (A := A2) (n := m) (c := c2) (e := 28) rfl
        have h := rows_of (c := c2) hrd (fun i hi => Rs.ext RB.ext _ _ _ _ HI.out.2.ext (HU.out.2.2 i hi)) (fun x hx => by rw [HNN.out]; exact Rb.usable_bounds hx) (by rw [← HI.out.1]; omega)
        rw [← HI.out.1] at h
        exact h
      have HSF := Lib.hid hfr
      have HSL := Lib.hid hlr
      have hmu := HI.out.1
      have HMU := Lib.hid hmu
      clear hmu
      clear hfr hlr
      have hPR : P < (Cd.rowsOf d gs gl).length := by rw [HNN.out]; exact hP
      obtain ⟨ad, u, hA, hcu, hu⟩ := HM.out.at hPR
      subst hA
      obtain ⟨rA, rc, rfl, _⟩ := hu.form
      have hgd : (Cd.rowsOf d gs gl).getD P [] = (Cd.rowsOf d gs gl)[P] := by rw [List.getD_eq_getElem?_getD, List.getElem?_eq_getElem hPR]; rfl
      have hwid := rows_wide HCK.out (List.getElem_mem hPR)
      have hdb := Cd.check_ok HCK.out
      have hPi : (P : Int) < (n : Int) := by omega
      have hxp := xExpress_any (Rb.rowsAt (Cd.rowsOf d gs gl) (Rb.usable n L (P : Nat) O)) (Cd.rowsOf d gs gl)[P] _ _ wr HT.out HSL.out hu (fun r hr => by
        obtain ⟨x, hx, rfl⟩ := List.mem_map.mp hr
        have hb := Rb.usable_bounds hx
        have hxl : x.toNat < (Cd.rowsOf d gs gl).length := by rw [HNN.out]; omega
        rw [hwid, List.getD_eq_getElem?_getD, List.getElem?_eq_getElem hxl]
        exact rows_wide HCK.out (List.getElem_mem hxl)) (by rw [hwid]; omega) (by rw [hwid]; omega) (by rw [Rb.rowsAt_length]; have := Rb.usable_len n L (P : Nat) O; omega)
      have hcan : (Mx.expr (Rb.rowsAt (Cd.rowsOf d gs gl) (Rb.usable n L (P : Nat) O)) (Cd.rowsOf d gs gl)[P]).isSome = true ↔ Rb.can (Cd.rowsOf d gs gl) P (Rb.usable n L (P : Nat) O) := by
        have h := Rb.expr_can (m := Cd.rowsOf d gs gl) (p := P) (f := Rb.usable n L (P : Nat) O)
        rw [hgd] at h
        exact h
      have hlf : Rb.can (Cd.rowsOf d gs gl) P (Rb.usable n L (P : Nat) O) → _ := fun hc => Rb.least_from HCK.out HE.out (s := Rb.usable n L (P : Nat) O) (by rw [HNN.out, Int.toNat_natCast]; exact Rb.usable_sub _ _ _ _) (by rw [Int.toNat_natCast]; exact hc)
      obtain ⟨B, hB⟩ : ∃ B, (Mx.expr (Rb.rowsAt (Cd.rowsOf d gs gl) (Rb.usable n L (P : Nat) O)) (Cd.rowsOf d gs gl)[P]).isSome = B := ⟨_, rfl⟩
      rw [hB] at hxp hcan
      have HXP := Lib.hid hxp
      have HCN := Lib.hid (And.intro hcan hlf)
      clear hxp hcan hlf hgd hwid hdb hu hB
      have b5 : wr.cell? ⟨w.heap.size, 5, none⟩ = some (.int .i64 (P : Nat)) := HB.out 5 _ rfl
      go_wp2_with fail
      clear b5 hcu
      refine HXP.out.mono ?_
      rintro e w5 ⟨X, rfl, hX, hx⟩
      obtain ⟨XA, xc, rfl, _⟩ := hX.form
      clear hX HXP
      obtain ⟨fe, hfe⟩ : ∃ z : Int, (if B = true then (0 : Int) else 8) = z := ⟨_, rfl⟩
      rw [hfe]
      have hfe2 : (B = true ∧ fe = 0) ∨ (B = false ∧ fe = 8) := by cases B <;> simp_all
      clear hfe
      replace HX := Lib.hid ((HX.out).trans hx)
      replace HT := Lib.hid ((HT.out).ext hx)
      replace HG := Lib.hid (Rs.ext (Rs.ext RI.ext) _ _ _ _ hx (HG.out))
      replace HB := Lib.hid ((HB.out).ext hx)
      replace HM := Lib.hid (Rs.ext (Rs.ext RB.ext) _ _ _ _ hx (HM.out))
      replace HSF := Lib.hid (Rs.ext RI.ext _ _ _ _ hx (HSF.out))
      replace HSL := Lib.hid (Rs.ext (Rs.ext RB.ext) _ _ _ _ hx (HSL.out))
      clear hx
      have b0 : w5.cell? ⟨w.heap.size, 0, none⟩ = some (.int .i64 d) := HB.out 0 _ rfl
      have b1 : w5.cell? ⟨w.heap.size, 1, none⟩ = some (.slice A gs.length c) := HB.out 1 _ rfl
      have b2 : w5.cell? ⟨w.heap.size, 2, none⟩ = some (.int .i64 gl) := HB.out 2 _ rfl
      have b4 : w5.cell? ⟨w.heap.size, 4, none⟩ = some (.int .i64 (L : Nat)) := HB.out 4 _ rfl
      have b5 : w5.cell? ⟨w.heap.size, 5, none⟩ = some (.int .i64 (P : Nat)) := HB.out 5 _ rfl
      go_wp2_with fail
      clear b0 b1 b2 b4 b5
      refine (bBest_any d gl gs (L : Nat) (P : Nat) _ _ HT.out HG.out).mono ?_
      rintro e w6a ⟨v, rfl, hv, hx⟩
      obtain ⟨FR, CR, rfl, hF, hC⟩ := hv
      obtain ⟨FAR, fcR, rfl, hlR⟩ := hF.form
      obtain ⟨CAR, ccR, rfl, _⟩ := hC.form
      obtain ⟨rR, hrR⟩ : ∃ r, Rb.bestR d gl gs (L : Nat) (P : Nat) = r := ⟨_, rfl⟩
      rw [hrR] at hF hC
      try rw [hrR]
      have HRR := Lib.hid hrR
      obtain ⟨nR, hnR⟩ : ∃ n, rR.src.length = n := ⟨_, rfl⟩
      obtain ⟨mR, hmR⟩ : ∃ m, rR.coef.length = m := ⟨_, rfl⟩
      obtain ⟨pR, hpR⟩ : ∃ m, rR.piece = m := ⟨_, rfl⟩
      rw [hrR, hnR] at hlR
      rw [hnR] at hF
      rw [hmR] at hC
      try rw [hnR]
      try rw [hmR]
      try rw [hpR]
      have HSR := Lib.hid (And.intro hnR (And.intro hmR hpR))
      have hxa : Ext w6a (w6a.alloc (.cells #[.int .i64 pR, .slice FAR nR fcR, .slice CAR mR ccR] 30)) := (Ext.refl w6a).alloc _
      have hx2 := hx.trans hxa
      replace HX := Lib.hid ((HX.out).trans hx2)
      replace HT := Lib.hid ((HT.out).ext hx2)
      replace HG := Lib.hid (Rs.ext (Rs.ext RI.ext) _ _ _ _ hx2 (HG.out))
      replace HB := Lib.hid ((HB.out).ext hx2)
      replace HM := Lib.hid (Rs.ext (Rs.ext RB.ext) _ _ _ _ hx2 (HM.out))
      replace HSF := Lib.hid (Rs.ext RI.ext _ _ _ _ hx2 (HSF.out))
      replace HSL := Lib.hid (Rs.ext (Rs.ext RB.ext) _ _ _ _ hx2 (HSL.out))
      clear hx2
      have HCR := Lib.hid (cells_new w6a #[.int .i64 pR, .slice FAR nR fcR, .slice CAR mR ccR] 30)
      have HFR := Lib.hid (And.intro (Rs.ext RI.ext _ _ _ _ hxa hF) (Rs.ext RB.ext _ _ _ _ hxa hC))
      clear hF hC hx hxa hrR hnR hmR hpR
      go_upto_region 16 with fail
      obtain ⟨QR, hQ⟩ : ∃ Q, w6a.heap.size = Q := ⟨_, rfl⟩
      rw [hQ] at HCR
      try rw [hQ]
      obtain ⟨w6, hw⟩ : ∃ x, w6a.alloc (.cells #[.int .i64 pR, .slice FAR nR fcR, .slice CAR mR ccR] 30) = x := ⟨_, rfl⟩
      rw [hw] at HX HT HG HB HM HSF HSL HCR HFR ⊢
      clear hw
      clear hQ
      have b0 : w6.cell? ⟨w.heap.size, 0, none⟩ = some (.int .i64 d) := HB.out 0 _ rfl
      have b1 : w6.cell? ⟨w.heap.size, 1, none⟩ = some (.slice A gs.length c) := HB.out 1 _ rfl
      have b2 : w6.cell? ⟨w.heap.size, 2, none⟩ = some (.int .i64 gl) := HB.out 2 _ rfl
      have b4 : w6.cell? ⟨w.heap.size, 4, none⟩ = some (.int .i64 (L : Nat)) := HB.out 4 _ rfl
      have b5 : w6.cell? ⟨w.heap.size, 5, none⟩ = some (.int .i64 (P : Nat)) := HB.out 5 _ rfl
      go_wp2_with fail
      clear b0 b1 b2 b4 b5
      refine (bAll_any d gl gs (L : Nat) (P : Nat) _ _ HT.out HG.out).mono ?_
      rintro e w7 ⟨v, rfl, hv, _, hx⟩
      obtain ⟨LA, cL, rfl, hnl⟩ := hv.form
      obtain ⟨AL, hAL⟩ : ∃ x, Rb.leastL d gl gs (L : Nat) (P : Nat) true = x := ⟨_, rfl⟩
      rw [hAL] at hv hnl ⊢
      obtain ⟨nl, hnll⟩ : ∃ x, AL.length = x := ⟨_, rfl⟩
      rw [hnll] at hv hnl ⊢
      have HAL := Lib.hid (And.intro hAL hnll)
      replace HX := Lib.hid ((HX.out).trans hx)
      replace HT := Lib.hid ((HT.out).ext hx)
      replace HG := Lib.hid (Rs.ext (Rs.ext RI.ext) _ _ _ _ hx (HG.out))
      replace HB := Lib.hid ((HB.out).ext hx)
      replace HM := Lib.hid (Rs.ext (Rs.ext RB.ext) _ _ _ _ hx (HM.out))
      replace HSF := Lib.hid (Rs.ext RI.ext _ _ _ _ hx (HSF.out))
      replace HSL := Lib.hid (Rs.ext (Rs.ext RB.ext) _ _ _ _ hx (HSL.out))
      replace HCR := Lib.hid ((HCR.out).ext hx)
      replace HFR := Lib.hid (And.intro (Rs.ext RI.ext _ _ _ _ hx (HFR.out).1) (Rs.ext RB.ext _ _ _ _ hx (HFR.out).2))
      clear hx
      have HV := Lib.hid hv
      clear hv hAL hnll
      obtain ⟨E, hE⟩ : ∃ E, Rb.leastE d gl gs (L : Nat) (P : Nat) = E := ⟨_, rfl⟩
      rw [hE] at h2w ⊢
      have HEE := Lib.hid hE
      have eE : (E != E) = false := by simp
      clear hE
      rcases h2w with rfl | rfl
      case inr =>
        have hbf : fe = 8 := by
          rcases hfe2 with ⟨h1, _⟩ | ⟨_, h2⟩
          · have h := (HCN.out.2 (HCN.out.1.mp h1)).1
            rw [HEE.out] at h
            exact absurd h (by decide)
          · exact h2
        subst hbf
        clear hfe2
        go_wp2_with fail
        refine (sanity_any w7 HT.out).mono ?_
        rintro e w1001 ⟨rfl, hxs⟩
        have HXS := Lib.hid (HX.out.trans hxs)
        clear hxs
        go_wp2_with fail
        go_ret
        exact ⟨rfl, HXS.out⟩
      case inl =>
        rcases hfe2 with ⟨hBt, rfl⟩ | ⟨_, rfl⟩
        case inl =>
          replace hBt := Lib.hid hBt
          go_upto_region 21 with fail
          try clear eE
          have hev := Rb.all_even HCK.out HE.out
          rw [HAL.out.1, HRR.out, HSR.out.1] at hev
          have HEV := Lib.hid hev
          obtain ⟨y0, t0, _, hb1, hb2⟩ := Rb.best_zero HE.out HEE.out
          rw [HAL.out.1] at hb2
          rw [HRR.out] at hb1
          have hl0 : 0 < nl := by rw [← HAL.out.2, hb2]; exact Nat.succ_pos _
          have hl0' : 0 < AL.length := by rw [HAL.out.2]; exact hl0
          obtain ⟨ad, F0, C0, rfl, a0, a1, a2, hF0, hC0⟩ := HV.out.at hl0'
          have hy0 : AL[0] = rR := by simp only [hb2]; exact hb1.symm
          have hz : ad.add (0 * 3) = ad := by rw [Nat.zero_mul]; simp [Addr.add]
          rw [hz] at a0 a1 a2
          rw [hy0] at a0 hF0 hC0
          obtain ⟨FA0, fc0, rfl, _⟩ := hF0.form
          obtain ⟨CA0, cc0, rfl, _⟩ := hC0.form
          rw [HSR.out.2.2] at a0
          rw [HSR.out.1] at hF0 a1
          rw [HSR.out.2.1] at hC0 a2
          clear hev hb1 hb2 hl0' hy0 hz
          refine wp_atEnd' (ls_first w7 nl cL fc0 cc0 QR nR mR fcR ccR nR mR pR pR ad FA0 CA0 FAR CAR rR hl0 a0 a1 a2 HCR (Lib.hid ⟨.slice FA0 nR fc0, .slice CA0 mR cc0, by rw [HSR.out.2.2], hF0, hC0⟩) (Lib.hid ⟨.slice FAR nR fcR, .slice CAR mR ccR, by rw [HSR.out.2.2], HFR.out.1, HFR.out.2⟩) _ _ _ _ _ _ _ _ _ _ _ _ _ _ _ _ _ _ _ _ _ _ _ _ _ _ _ _ _ _ _ _ _ _ _ _ _ _ _ _ _ _ _ _ _ _ _ _ _ _ _ _ _ _ _ _ _ _ _ _ _ _ _ _ _ _ _ _ _ _ _ _ _ _ _ _ _ _ _ _ _ _ _ _ _ _ _ _ _ _ _ _ _ _ _ _ _ _ _ _ _ _ _ _ _ _ _ _ _ _ _ _ _ _ _ _ _ _ _ _ _ _ _ _ _ _ _ _ _ _ _ _ _ _ _ _ _ _ _ _ _ _ _ _ _ _ _ _ _ _ _ _ _ _ _ _ _ _ _ _ _ _ _ _ _ _ _ _ _ _ _ _ _ _ _ _ _ _ _ _ _ _ _ _ _ _ _ _ _ _ _ ?_)
          intro u118 u119 u120 u121 u122 u123 u124 u125 u126 u127 w8 hx8
          clear a0 a1 a2 hF0 hC0
          replace HX := Lib.hid ((HX.out).trans hx8)
          replace HT := Lib.hid ((HT.out).ext hx8)
          replace HG := Lib.hid (Rs.ext (Rs.ext RI.ext) _ _ _ _ hx8 (HG.out))
          replace HB := Lib.hid ((HB.out).ext hx8)
          replace HM := Lib.hid (Rs.ext (Rs.ext RB.ext) _ _ _ _ hx8 (HM.out))
          replace HSF := Lib.hid (Rs.ext RI.ext _ _ _ _ hx8 (HSF.out))
          replace HSL := Lib.hid (Rs.ext (Rs.ext RB.ext) _ _ _ _ hx8 (HSL.out))
          replace HCR := Lib.hid ((HCR.out).ext hx8)
          replace HFR := Lib.hid (And.intro (Rs.ext RI.ext _ _ _ _ hx8 (HFR.out).1) (Rs.ext RB.ext _ _ _ _ hx8 (HFR.out).2))
          replace HV := Lib.hid (RRs.ext _ _ _ _ hx8 (HV.out))
          clear hx8
          go_wp2_with fail
          go_loopw [15, 131] (fun vb vk wr => ∃ (k : Nat) (b : Bool), k ≤ nl ∧ vk = .int .i64 (k : Nat) ∧ vb = .bool b ∧ Hid (Ext w8 wr ∧ b = (AL.take k).any fun y => decide (y.src = Rb.usable n L (P : Nat) O))) (fun _ vk _ => nl - (intOf vk).toNat)
          case atStart => exact ⟨0, false, Nat.zero_le _, rfl, rfl, Lib.hid ⟨Ext.refl _, rfl⟩⟩
          case round =>
            obtain ⟨k, b, hk, rfl, rfl, HI⟩ := hrel
            have hxr := HI.out.1
            replace HX := Lib.hid ((HX.out).trans hxr)
            replace HT := Lib.hid ((HT.out).ext hxr)
            replace HG := Lib.hid (Rs.ext (Rs.ext RI.ext) _ _ _ _ hxr (HG.out))
            replace HB := Lib.hid ((HB.out).ext hxr)
            replace HM := Lib.hid (Rs.ext (Rs.ext RB.ext) _ _ _ _ hxr (HM.out))
            replace HSF := Lib.hid (Rs.ext RI.ext _ _ _ _ hxr (HSF.out))
            replace HSL := Lib.hid (Rs.ext (Rs.ext RB.ext) _ _ _ _ hxr (HSL.out))
            replace HCR := Lib.hid ((HCR.out).ext hxr)
            replace HFR := Lib.hid (And.intro (Rs.ext RI.ext _ _ _ _ hxr (HFR.out).1) (Rs.ext RB.ext _ _ _ _ hxr (HFR.out).2))
            replace HV := Lib.hid (RRs.ext _ _ _ _ hxr (HV.out))
            clear hxr
            by_cases hlt : k < nl
            case pos =>
              have hkl : k < AL.length := by rw [HAL.out.2]; exact hlt
              obtain ⟨ad', FY, CY, hA, a0, a1, a2, hF, hC⟩ := HV.out.at hkl
              injection hA with hA
              subst hA
              obtain ⟨FAY, fcY, rfl, _⟩ := hF.form
              obtain ⟨CAY, ccY, rfl, _⟩ := hC.form
              have hye := HEV.out AL[k] (List.getElem_mem hkl)
              have htk := List.take_succ_eq_append_getElem hkl
              have HTK := Lib.hid htk
              obtain ⟨yy, hyy⟩ : ∃ y, AL[k] = y := ⟨_, rfl⟩
              rw [hyy] at a0 a1 a2 hF hC hye HTK
              rw [hye] at a1 hF
              obtain ⟨mY, hmY⟩ : ∃ m, yy.coef.length = m := ⟨_, rfl⟩
              obtain ⟨pY, hpY⟩ : ∃ m, yy.piece = m := ⟨_, rfl⟩
              rw [hmY] at a2 hC
              rw [hpY] at a0
              have HYK := Lib.hid hyy
              have hkn : (k : Int) < (nl : Int) := by omega
              clear hye htk hmY hpY hyy
              go_upto_region 27 with fail
              have hxa : Ext wr (wr.alloc (.cells #[.int .i64 pY, .slice FAY nR fcY, .slice CAY mY ccY] 30)) := (Ext.refl wr).alloc _
              have hFY := Rs.ext RI.ext _ _ _ _ hxa hF
              have HCY := Lib.hid (cells_new wr #[.int .i64 pY, .slice FAY nR fcY, .slice CAY mY ccY] 30)
              have HXX := Lib.hid (HI.out.1.trans hxa)
              clear hF hC
              replace HX := Lib.hid ((HX.out).trans hxa)
              replace HT := Lib.hid ((HT.out).ext hxa)
              replace HG := Lib.hid (Rs.ext (Rs.ext RI.ext) _ _ _ _ hxa (HG.out))
              replace HB := Lib.hid ((HB.out).ext hxa)
              replace HM := Lib.hid (Rs.ext (Rs.ext RB.ext) _ _ _ _ hxa (HM.out))
              replace HSF := Lib.hid (Rs.ext RI.ext _ _ _ _ hxa (HSF.out))
              replace HSL := Lib.hid (Rs.ext (Rs.ext RB.ext) _ _ _ _ hxa (HSL.out))
              replace HCR := Lib.hid ((HCR.out).ext hxa)
              replace HFR := Lib.hid (And.intro (Rs.ext RI.ext _ _ _ _ hxa (HFR.out).1) (Rs.ext RB.ext _ _ _ _ hxa (HFR.out).2))
              replace HV := Lib.hid (RRs.ext _ _ _ _ hxa (HV.out))
              clear hxa
              have HFY := Lib.hid hFY
              clear hFY a0 a1 a2 hkn
              obtain ⟨QY, hQ⟩ : ∃ Q, wr.heap.size = Q := ⟨_, rfl⟩
              rw [hQ] at HCY
              try rw [hQ]
              obtain ⟨w9, hw⟩ : ∃ x, wr.alloc (.cells #[.int .i64 pY, .slice FAY nR fcY, .slice CAY mY ccY] 30) = x := ⟨_, rfl⟩
              rw [hw] at HX HT HG HB HM HSF HSL HCR HFR HV HCY HFY HXX ⊢
              clear hw
              clear hQ
              cases b with
              | true =>
                go_upto_region 28 with fail
                by_cases hk0 : k = 0
                case pos =>
                  refine wp_atEnd' (ls_next0 w9 k nl cL QR QY nR nR mR mY fcR ccR fcY ccY pR pY ad FAR CAR FAY CAY HCR HCY rfl hk0 _ _ _ _ _ _ _ _ _ _ _ _ _ _ _ _ _ _ _ _ _ _ _ _ _ _ _ _ _ _ _ _ _ _ _ _ _ _ _ _ _ _ _ _ _ _ _ _ _ _ _ _ _ _ _ _ _ _ _ _ _ _ _ _ _ _ _ _ _ _ _ _ _ _ _ _ _ _ _ _ _ _ _ _ _ _ _ _ _ _ _ _ _ _ _ _ _ _ _ _ _ _ _ _ _ _ _ _ _ _ _ _ _ _ _ _ _ _ _ _ _ _ _ _ _ _ _ _ _ _ _ _ _ _ _ _ _ _ _ _ _ _ _ _ _ _ _ _ _ _ _ _ _ _ _ _ _ _ _ _ _ _ _ _ _ _ _ _ _ _ _ _ _ _ _ _ _ _ _ _ _ _ _ _ _ _ _ _ _ ?_)
                  intro u143 u144 u145 u146 u147 u148 u149 u150 u151 u152 u153 u154 u155 u156 u157 u158 u159 u160 u161 u162 u163 u164 w11 hx11
                  replace HX := Lib.hid ((HX.out).trans hx11)
                  replace HT := Lib.hid ((HT.out).ext hx11)
                  replace HG := Lib.hid (Rs.ext (Rs.ext RI.ext) _ _ _ _ hx11 (HG.out))
                  replace HB := Lib.hid ((HB.out).ext hx11)
                  replace HM := Lib.hid (Rs.ext (Rs.ext RB.ext) _ _ _ _ hx11 (HM.out))
                  replace HSF := Lib.hid (Rs.ext RI.ext _ _ _ _ hx11 (HSF.out))
                  replace HSL := Lib.hid (Rs.ext (Rs.ext RB.ext) _ _ _ _ hx11 (HSL.out))
                  replace HCR := Lib.hid ((HCR.out).ext hx11)
                  replace HFR := Lib.hid (And.intro (Rs.ext RI.ext _ _ _ _ hx11 (HFR.out).1) (Rs.ext RB.ext _ _ _ _ hx11 (HFR.out).2))
                  replace HV := Lib.hid (RRs.ext _ _ _ _ hx11 (HV.out))
                  replace HCY := Lib.hid ((HCY.out).ext hx11)
                  replace HFY := Lib.hid (Rs.ext RI.ext _ _ _ _ hx11 (HFY.out))
                  replace HXX := Lib.hid ((HXX.out).trans hx11)
                  clear hx11
                  go_wp2_with fail
                  go_roundw
                  case rel => exact ⟨k + 1, true, by omega, by go_num, (by first | trivial | rfl), Lib.hid ⟨HXX.out, by rw [HTK.out, List.any_append, ← HI.out.2]; rfl⟩⟩
                  case measure => simp [intOf]; omega
                case neg =>
                  obtain ⟨j, hj⟩ : ∃ j, k = j + 1 := ⟨k - 1, by omega⟩
                  have hjl : j < AL.length := by rw [HAL.out.2]; omega
                  obtain ⟨ad', FZ, CZ, hA, _, z1, _, hFZ, _⟩ := HV.out.at hjl
                  injection hA with hA
                  subst hA
                  obtain ⟨FAZ, fcZ, rfl, _⟩ := hFZ.form
                  have hbf : Rb.Bf AL[j].src yy.src := by
                    have hj1 : j + 1 < AL.length := by rw [HAL.out.2, ← hj]; exact hlt
                    have h := Rb.all_asc HCK.out HE.out (j := j) (by rw [HAL.out.1]; exact hj1)
                    simp only [HAL.out.1] at h
                    have h2 : AL[j + 1] = yy := by have := HYK.out; simp only [hj] at this; exact this
                    rw [h2] at h
                    exact h
                  obtain ⟨f0, hf0⟩ : ∃ x, AL[j].src = x := ⟨_, rfl⟩
                  rw [hf0] at z1 hFZ hbf
                  obtain ⟨nZ, hnZ⟩ : ∃ x, f0.length = x := ⟨_, rfl⟩
                  rw [hnZ] at z1 hFZ
                  refine wp_atEnd' (ls_next1 w9 k nl cL QR QY nR nR mR mY fcR ccR fcY ccY fcZ nZ pR pY ad FAR CAR FAY CAY FAZ hlt (by omega) HCR HCY rfl j hj z1 f0 yy.src (Lib.hid hFZ) HFY (Lib.hid hbf) _ _ _ _ _ _ _ _ _ _ _ _ _ _ _ _ _ _ _ _ _ _ _ _ _ _ _ _ _ _ _ _ _ _ _ _ _ _ _ _ _ _ _ _ _ _ _ _ _ _ _ _ _ _ _ _ _ _ _ _ _ _ _ _ _ _ _ _ _ _ _ _ _ _ _ _ _ _ _ _ _ _ _ _ _ _ _ _ _ _ _ _ _ _ _ _ _ _ _ _ _ _ _ _ _ _ _ _ _ _ _ _ _ _ _ _ _ _ _ _ _ _ _ _ _ _ _ _ _ _ _ _ _ _ _ _ _ _ _ _ _ _ _ _ _ _ _ _ _ _ _ _ _ _ _ _ _ _ _ _ _ _ _ _ _ _ _ _ _ _ _ _ _ _ _ _ _ _ _ _ _ _ _ _ _ _ _ _ _ ?_)
                  clear z1 hFZ hbf hf0 hnZ
                  intro u143 u144 u145 u146 u147 u148 u149 u150 u151 u152 u153 u154 u155 u156 u157 u158 u159 u160 u161 u162 u163 u164 w11 hx11
                  replace HX := Lib.hid ((HX.out).trans hx11)
                  replace HT := Lib.hid ((HT.out).ext hx11)
                  replace HG := Lib.hid (Rs.ext (Rs.ext RI.ext) _ _ _ _ hx11 (HG.out))
                  replace HB := Lib.hid ((HB.out).ext hx11)
                  replace HM := Lib.hid (Rs.ext (Rs.ext RB.ext) _ _ _ _ hx11 (HM.out))
                  replace HSF := Lib.hid (Rs.ext RI.ext _ _ _ _ hx11 (HSF.out))
                  replace HSL := Lib.hid (Rs.ext (Rs.ext RB.ext) _ _ _ _ hx11 (HSL.out))
                  replace HCR := Lib.hid ((HCR.out).ext hx11)
                  replace HFR := Lib.hid (And.intro (Rs.ext RI.ext _ _ _ _ hx11 (HFR.out).1) (Rs.ext RB.ext _ _ _ _ hx11 (HFR.out).2))
                  replace HV := Lib.hid (RRs.ext _ _ _ _ hx11 (HV.out))
                  replace HCY := Lib.hid ((HCY.out).ext hx11)
                  replace HFY := Lib.hid (Rs.ext RI.ext _ _ _ _ hx11 (HFY.out))
                  replace HXX := Lib.hid ((HXX.out).trans hx11)
                  clear hx11
                  go_wp2_with fail
                  go_roundw
                  case rel => exact ⟨k + 1, true, by omega, by go_num, (by first | trivial | rfl), Lib.hid ⟨HXX.out, by rw [HTK.out, List.any_append, ← HI.out.2]; rfl⟩⟩
                  case measure => simp [intOf]; omega
              | false =>
                have q1 : w9.cell? ⟨QY, 1, none⟩ = some (.slice FAY nR fcY) := HCY.out 1 _ rfl
                go_wp2_with fail
                clear q1
                refine (sList8_any yy.src (Rb.usable n L (P : Nat) O) _ _ _ HFY.out HSF.out).mono ?_
                rintro e w10 ⟨rfl, hx10⟩
                replace HX := Lib.hid ((HX.out).trans hx10)
                replace HT := Lib.hid ((HT.out).ext hx10)
                replace HG := Lib.hid (Rs.ext (Rs.ext RI.ext) _ _ _ _ hx10 (HG.out))
                replace HB := Lib.hid ((HB.out).ext hx10)
                replace HM := Lib.hid (Rs.ext (Rs.ext RB.ext) _ _ _ _ hx10 (HM.out))
                replace HSF := Lib.hid (Rs.ext RI.ext _ _ _ _ hx10 (HSF.out))
                replace HSL := Lib.hid (Rs.ext (Rs.ext RB.ext) _ _ _ _ hx10 (HSL.out))
                replace HCR := Lib.hid ((HCR.out).ext hx10)
                replace HFR := Lib.hid (And.intro (Rs.ext RI.ext _ _ _ _ hx10 (HFR.out).1) (Rs.ext RB.ext _ _ _ _ hx10 (HFR.out).2))
                replace HV := Lib.hid (RRs.ext _ _ _ _ hx10 (HV.out))
                replace HCY := Lib.hid ((HCY.out).ext hx10)
                replace HFY := Lib.hid (Rs.ext RI.ext _ _ _ _ hx10 (HFY.out))
                replace HXX := Lib.hid ((HXX.out).trans hx10)
                clear hx10
                obtain ⟨b2, hb2⟩ : ∃ b, decide (yy.src = Rb.usable n L (P : Nat) O) = b := ⟨_, rfl⟩
                rw [hb2]
                have HB2 := Lib.hid hb2
                clear hb2
                go_upto_region 28 with fail
                by_cases hk0 : k = 0
                case pos =>
                  refine wp_atEnd' (ls_next0 w10 k nl cL QR QY nR nR mR mY fcR ccR fcY ccY pR pY ad FAR CAR FAY CAY HCR HCY rfl hk0 _ _ _ _ _ _ _ _ _ _ _ _ _ _ _ _ _ _ _ _ _ _ _ _ _ _ _ _ _ _ _ _ _ _ _ _ _ _ _ _ _ _ _ _ _ _ _ _ _ _ _ _ _ _ _ _ _ _ _ _ _ _ _ _ _ _ _ _ _ _ _ _ _ _ _ _ _ _ _ _ _ _ _ _ _ _ _ _ _ _ _ _ _ _ _ _ _ _ _ _ _ _ _ _ _ _ _ _ _ _ _ _ _ _ _ _ _ _ _ _ _ _ _ _ _ _ _ _ _ _ _ _ _ _ _ _ _ _ _ _ _ _ _ _ _ _ _ _ _ _ _ _ _ _ _ _ _ _ _ _ _ _ _ _ _ _ _ _ _ _ _ _ _ _ _ _ _ _ _ _ _ _ _ _ _ _ _ _ _ ?_)
                  intro u143 u144 u145 u146 u147 u148 u149 u150 u151 u152 u153 u154 u155 u156 u157 u158 u159 u160 u161 u162 u163 u164 w11 hx11
                  replace HX := Lib.hid ((HX.out).trans hx11)
                  replace HT := Lib.hid ((HT.out).ext hx11)
                  replace HG := Lib.hid (Rs.ext (Rs.ext RI.ext) _ _ _ _ hx11 (HG.out))
                  replace HB := Lib.hid ((HB.out).ext hx11)
                  replace HM := Lib.hid (Rs.ext (Rs.ext RB.ext) _ _ _ _ hx11 (HM.out))
                  replace HSF := Lib.hid (Rs.ext RI.ext _ _ _ _ hx11 (HSF.out))
                  replace HSL := Lib.hid (Rs.ext (Rs.ext RB.ext) _ _ _ _ hx11 (HSL.out))
                  replace HCR := Lib.hid ((HCR.out).ext hx11)
                  replace HFR := Lib.hid (And.intro (Rs.ext RI.ext _ _ _ _ hx11 (HFR.out).1) (Rs.ext RB.ext _ _ _ _ hx11 (HFR.out).2))
                  replace HV := Lib.hid (RRs.ext _ _ _ _ hx11 (HV.out))
                  replace HCY := Lib.hid ((HCY.out).ext hx11)
                  replace HFY := Lib.hid (Rs.ext RI.ext _ _ _ _ hx11 (HFY.out))
                  replace HXX := Lib.hid ((HXX.out).trans hx11)
                  clear hx11
                  go_wp2_with fail
                  go_roundw
                  case rel => exact ⟨k + 1, b2, by omega, by go_num, (by first | trivial | rfl), Lib.hid ⟨HXX.out, by rw [HTK.out, List.any_append, ← HI.out.2, List.any_cons, List.any_nil, HB2.out]; cases b2 <;> rfl⟩⟩
                  case measure => simp [intOf]; omega
                case neg =>
                  obtain ⟨j, hj⟩ : ∃ j, k = j + 1 := ⟨k - 1, by omega⟩
                  have hjl : j < AL.length := by rw [HAL.out.2]; omega
                  obtain ⟨ad', FZ, CZ, hA, _, z1, _, hFZ, _⟩ := HV.out.at hjl
                  injection hA with hA
                  subst hA
                  obtain ⟨FAZ, fcZ, rfl, _⟩ := hFZ.form
                  have hbf : Rb.Bf AL[j].src yy.src := by
                    have hj1 : j + 1 < AL.length := by rw [HAL.out.2, ← hj]; exact hlt
                    have h := Rb.all_asc HCK.out HE.out (j := j) (by rw [HAL.out.1]; exact hj1)
                    simp only [HAL.out.1] at h
                    have h2 : AL[j + 1] = yy := by have := HYK.out; simp only [hj] at this; exact this
                    rw [h2] at h
                    exact h
                  obtain ⟨f0, hf0⟩ : ∃ x, AL[j].src = x := ⟨_, rfl⟩
                  rw [hf0] at z1 hFZ hbf
                  obtain ⟨nZ, hnZ⟩ : ∃ x, f0.length = x := ⟨_, rfl⟩
                  rw [hnZ] at z1 hFZ
                  refine wp_atEnd' (ls_next1 w10 k nl cL QR QY nR nR mR mY fcR ccR fcY ccY fcZ nZ pR pY ad FAR CAR FAY CAY FAZ hlt (by omega) HCR HCY rfl j hj z1 f0 yy.src (Lib.hid hFZ) HFY (Lib.hid hbf) _ _ _ _ _ _ _ _ _ _ _ _ _ _ _ _ _ _ _ _ _ _ _ _ _ _ _ _ _ _ _ _ _ _ _ _ _ _ _ _ _ _ _ _ _ _ _ _ _ _ _ _ _ _ _ _ _ _ _ _ _ _ _ _ _ _ _ _ _ _ _ _ _ _ _ _ _ _ _ _ _ _ _ _ _ _ _ _ _ _ _ _ _ _ _ _ _ _ _ _ _ _ _ _ _ _ _ _ _ _ _ _ _ _ _ _ _ _ _ _ _ _ _ _ _ _ _ _ _ _ _ _ _ _ _ _ _ _ _ _ _ _ _ _ _ _ _ _ _ _ _ _ _ _ _ _ _ _ _ _ _ _ _ _ _ _ _ _ _ _ _ _ _ _ _ _ _ _ _ _ _ _ _ _ _ _ _ _ _ ?_)
                  clear z1 hFZ hbf hf0 hnZ
                  intro u143 u144 u145 u146 u147 u148 u149 u150 u151 u152 u153 u154 u155 u156 u157 u158 u159 u160 u161 u162 u163 u164 w11 hx11
                  replace HX := Lib.hid ((HX.out).trans hx11)
                  replace HT := Lib.hid ((HT.out).ext hx11)
                  replace HG := Lib.hid (Rs.ext (Rs.ext RI.ext) _ _ _ _ hx11 (HG.out))
                  replace HB := Lib.hid ((HB.out).ext hx11)
                  replace HM := Lib.hid (Rs.ext (Rs.ext RB.ext) _ _ _ _ hx11 (HM.out))
                  replace HSF := Lib.hid (Rs.ext RI.ext _ _ _ _ hx11 (HSF.out))
                  replace HSL := Lib.hid (Rs.ext (Rs.ext RB.ext) _ _ _ _ hx11 (HSL.out))
                  replace HCR := Lib.hid ((HCR.out).ext hx11)
                  replace HFR := Lib.hid (And.intro (Rs.ext RI.ext _ _ _ _ hx11 (HFR.out).1) (Rs.ext RB.ext _ _ _ _ hx11 (HFR.out).2))
                  replace HV := Lib.hid (RRs.ext _ _ _ _ hx11 (HV.out))
                  replace HCY := Lib.hid ((HCY.out).ext hx11)
                  replace HFY := Lib.hid (Rs.ext RI.ext _ _ _ _ hx11 (HFY.out))
                  replace HXX := Lib.hid ((HXX.out).trans hx11)
                  clear hx11
                  go_wp2_with fail
                  go_roundw
                  case rel => exact ⟨k + 1, b2, by omega, by go_num, (by first | trivial | rfl), Lib.hid ⟨HXX.out, by rw [HTK.out, List.any_append, ← HI.out.2, List.any_cons, List.any_nil, HB2.out]; cases b2 <;> rfl⟩⟩
                  case measure => simp [intOf]; omega
            case neg =>
              obtain rfl : nl = k := by omega
              have hbb := HI.out.2
              rw [← HAL.out.2, List.take_length] at hbb
              have HBB := Lib.hid hbb
              clear hbb
              have hle := HCN.out.2 (HCN.out.1.mp hBt.out)
              rw [HAL.out.1, HRR.out, HSR.out.1, ← HMU.out] at hle
              obtain ⟨_, hle1, hle2⟩ := hle
              by_cases hnm1 : nR < m
              case pos =>
                have hi1 : (nR : Int) < (m : Int) := by omega
                clear hle2
                have q1 : wr.cell? ⟨QR, 1, none⟩ = some (.slice FAR nR fcR) := HCR.out 1 _ rfl
                go_wp2_with fail
                clear q1
                refine (sanity_any wr HT.out).mono ?_
                rintro e w1101 ⟨rfl, hxs⟩
                have HXS := Lib.hid (HX.out.trans hxs)
                replace HX := Lib.hid ((HX.out).trans hxs)
                replace HT := Lib.hid ((HT.out).ext hxs)
                replace HG := Lib.hid (Rs.ext (Rs.ext RI.ext) _ _ _ _ hxs (HG.out))
                replace HB := Lib.hid ((HB.out).ext hxs)
                replace HM := Lib.hid (Rs.ext (Rs.ext RB.ext) _ _ _ _ hxs (HM.out))
                replace HSF := Lib.hid (Rs.ext RI.ext _ _ _ _ hxs (HSF.out))
                replace HSL := Lib.hid (Rs.ext (Rs.ext RB.ext) _ _ _ _ hxs (HSL.out))
                replace HCR := Lib.hid ((HCR.out).ext hxs)
                replace HFR := Lib.hid (And.intro (Rs.ext RI.ext _ _ _ _ hxs (HFR.out).1) (Rs.ext RB.ext _ _ _ _ hxs (HFR.out).2))
                replace HV := Lib.hid (RRs.ext _ _ _ _ hxs (HV.out))
                clear hxs
                have q1 : w1101.cell? ⟨QR, 1, none⟩ = some (.slice FAR nR fcR) := HCR.out 1 _ rfl
                go_wp2_with fail
                go_ret
                exact ⟨rfl, HX.out⟩
              case neg =>
                obtain rfl : nR = m := by omega
                obtain ⟨y, hy1, hy2⟩ := hle2 rfl
                obtain rfl : b = true := by
                  rw [HBB.out, List.any_eq_true]
                  exact ⟨y, hy1, by rw [hy2]; exact decide_eq_true rfl⟩
                have hi1 : ¬ (nR : Int) < (nR : Int) := by omega
                have hi2 : ((nR : Int) == (nR : Int)) = true := by simp
                clear hy1 hy2 hle1
                have q1 : wr.cell? ⟨QR, 1, none⟩ = some (.slice FAR nR fcR) := HCR.out 1 _ rfl
                go_wp2_with fail
                clear q1
                refine (sanity_any wr HT.out).mono ?_
                rintro e w1101 ⟨rfl, hxs⟩
                have HXS := Lib.hid (HX.out.trans hxs)
                replace HX := Lib.hid ((HX.out).trans hxs)
                replace HT := Lib.hid ((HT.out).ext hxs)
                replace HG := Lib.hid (Rs.ext (Rs.ext RI.ext) _ _ _ _ hxs (HG.out))
                replace HB := Lib.hid ((HB.out).ext hxs)
                replace HM := Lib.hid (Rs.ext (Rs.ext RB.ext) _ _ _ _ hxs (HM.out))
                replace HSF := Lib.hid (Rs.ext RI.ext _ _ _ _ hxs (HSF.out))
                replace HSL := Lib.hid (Rs.ext (Rs.ext RB.ext) _ _ _ _ hxs (HSL.out))
                replace HCR := Lib.hid ((HCR.out).ext hxs)
                replace HFR := Lib.hid (And.intro (Rs.ext RI.ext _ _ _ _ hxs (HFR.out).1) (Rs.ext RB.ext _ _ _ _ hxs (HFR.out).2))
                replace HV := Lib.hid (RRs.ext _ _ _ _ hxs (HV.out))
                clear hxs
                have q1 : w1101.cell? ⟨QR, 1, none⟩ = some (.slice FAR nR fcR) := HCR.out 1 _ rfl
                go_wp2_with fail
                go_ret
                exact ⟨rfl, HX.out⟩
        case inr =>
          go_upto_region 21 with fail
          try clear eE
          have hev := Rb.all_even HCK.out HE.out
          rw [HAL.out.1, HRR.out, HSR.out.1] at hev
          have HEV := Lib.hid hev
          obtain ⟨y0, t0, _, hb1, hb2⟩ := Rb.best_zero HE.out HEE.out
          rw [HAL.out.1] at hb2
          rw [HRR.out] at hb1
          have hl0 : 0 < nl := by rw [← HAL.out.2, hb2]; exact Nat.succ_pos _
          have hl0' : 0 < AL.length := by rw [HAL.out.2]; exact hl0
          obtain ⟨ad, F0, C0, rfl, a0, a1, a2, hF0, hC0⟩ := HV.out.at hl0'
          have hy0 : AL[0] = rR := by simp only [hb2]; exact hb1.symm
          have hz : ad.add (0 * 3) = ad := by rw [Nat.zero_mul]; simp [Addr.add]
          rw [hz] at a0 a1 a2
          rw [hy0] at a0 hF0 hC0
          obtain ⟨FA0, fc0, rfl, _⟩ := hF0.form
          obtain ⟨CA0, cc0, rfl, _⟩ := hC0.form
          rw [HSR.out.2.2] at a0
          rw [HSR.out.1] at hF0 a1
          rw [HSR.out.2.1] at hC0 a2
          clear hev hb1 hb2 hl0' hy0 hz
          refine wp_atEnd' (ls_first w7 nl cL fc0 cc0 QR nR mR fcR ccR nR mR pR pR ad FA0 CA0 FAR CAR rR hl0 a0 a1 a2 HCR (Lib.hid ⟨.slice FA0 nR fc0, .slice CA0 mR cc0, by rw [HSR.out.2.2], hF0, hC0⟩) (Lib.hid ⟨.slice FAR nR fcR, .slice CAR mR ccR, by rw [HSR.out.2.2], HFR.out.1, HFR.out.2⟩) _ _ _ _ _ _ _ _ _ _ _ _ _ _ _ _ _ _ _ _ _ _ _ _ _ _ _ _ _ _ _ _ _ _ _ _ _ _ _ _ _ _ _ _ _ _ _ _ _ _ _ _ _ _ _ _ _ _ _ _ _ _ _ _ _ _ _ _ _ _ _ _ _ _ _ _ _ _ _ _ _ _ _ _ _ _ _ _ _ _ _ _ _ _ _ _ _ _ _ _ _ _ _ _ _ _ _ _ _ _ _ _ _ _ _ _ _ _ _ _ _ _ _ _ _ _ _ _ _ _ _ _ _ _ _ _ _ _ _ _ _ _ _ _ _ _ _ _ _ _ _ _ _ _ _ _ _ _ _ _ _ _ _ _ _ _ _ _ _ _ _ _ _ _ _ _ _ _ _ _ _ _ _ _ _ _ _ _ _ _ _ ?_)
          intro u118 u119 u120 u121 u122 u123 u124 u125 u126 u127 w8 hx8
          clear a0 a1 a2 hF0 hC0
          replace HX := Lib.hid ((HX.out).trans hx8)
          replace HT := Lib.hid ((HT.out).ext hx8)
          replace HG := Lib.hid (Rs.ext (Rs.ext RI.ext) _ _ _ _ hx8 (HG.out))
          replace HB := Lib.hid ((HB.out).ext hx8)
          replace HM := Lib.hid (Rs.ext (Rs.ext RB.ext) _ _ _ _ hx8 (HM.out))
          replace HSF := Lib.hid (Rs.ext RI.ext _ _ _ _ hx8 (HSF.out))
          replace HSL := Lib.hid (Rs.ext (Rs.ext RB.ext) _ _ _ _ hx8 (HSL.out))
          replace HCR := Lib.hid ((HCR.out).ext hx8)
          replace HFR := Lib.hid (And.intro (Rs.ext RI.ext _ _ _ _ hx8 (HFR.out).1) (Rs.ext RB.ext _ _ _ _ hx8 (HFR.out).2))
          replace HV := Lib.hid (RRs.ext _ _ _ _ hx8 (HV.out))
          clear hx8
          go_wp2_with fail
          go_loopw [15, 131] (fun vb vk wr => ∃ (k : Nat) (b : Bool), k ≤ nl ∧ vk = .int .i64 (k : Nat) ∧ vb = .bool b ∧ Hid (Ext w8 wr ∧ b = (AL.take k).any fun y => decide (y.src = Rb.usable n L (P : Nat) O))) (fun _ vk _ => nl - (intOf vk).toNat)
          case atStart => exact ⟨0, false, Nat.zero_le _, rfl, rfl, Lib.hid ⟨Ext.refl _, rfl⟩⟩
          case round =>
            obtain ⟨k, b, hk, rfl, rfl, HI⟩ := hrel
            have hxr := HI.out.1
            replace HX := Lib.hid ((HX.out).trans hxr)
            replace HT := Lib.hid ((HT.out).ext hxr)
            replace HG := Lib.hid (Rs.ext (Rs.ext RI.ext) _ _ _ _ hxr (HG.out))
            replace HB := Lib.hid ((HB.out).ext hxr)
            replace HM := Lib.hid (Rs.ext (Rs.ext RB.ext) _ _ _ _ hxr (HM.out))
            replace HSF := Lib.hid (Rs.ext RI.ext _ _ _ _ hxr (HSF.out))
            replace HSL := Lib.hid (Rs.ext (Rs.ext RB.ext) _ _ _ _ hxr (HSL.out))
            replace HCR := Lib.hid ((HCR.out).ext hxr)
            replace HFR := Lib.hid (And.intro (Rs.ext RI.ext _ _ _ _ hxr (HFR.out).1) (Rs.ext RB.ext _ _ _ _ hxr (HFR.out).2))
            replace HV := Lib.hid (RRs.ext _ _ _ _ hxr (HV.out))
            clear hxr
            by_cases hlt : k < nl
            case pos =>
              have hkl : k < AL.length := by rw [HAL.out.2]; exact hlt
              obtain ⟨ad', FY, CY, hA, a0, a1, a2, hF, hC⟩ := HV.out.at hkl
              injection hA with hA
              subst hA
              obtain ⟨FAY, fcY, rfl, _⟩ := hF.form
              obtain ⟨CAY, ccY, rfl, _⟩ := hC.form
              have hye := HEV.out AL[k] (List.getElem_mem hkl)
              have htk := List.take_succ_eq_append_getElem hkl
              have HTK := Lib.hid htk
              obtain ⟨yy, hyy⟩ : ∃ y, AL[k] = y := ⟨_, rfl⟩
              rw [hyy] at a0 a1 a2 hF hC hye HTK
              rw [hye] at a1 hF
              obtain ⟨mY, hmY⟩ : ∃ m, yy.coef.length = m := ⟨_, rfl⟩
              obtain ⟨pY, hpY⟩ : ∃ m, yy.piece = m := ⟨_, rfl⟩
              rw [hmY] at a2 hC
              rw [hpY] at a0
              have HYK := Lib.hid hyy
              have hkn : (k : Int) < (nl : Int) := by omega
              clear hye htk hmY hpY hyy
              go_upto_region 27 with fail
              have hxa : Ext wr (wr.alloc (.cells #[.int .i64 pY, .slice FAY nR fcY, .slice CAY mY ccY] 30)) := (Ext.refl wr).alloc _
              have hFY := Rs.ext RI.ext _ _ _ _ hxa hF
              have HCY := Lib.hid (cells_new wr #[.int .i64 pY, .slice FAY nR fcY, .slice CAY mY ccY] 30)
              have HXX := Lib.hid (HI.out.1.trans hxa)
              clear hF hC
              replace HX := Lib.hid ((HX.out).trans hxa)
              replace HT := Lib.hid ((HT.out).ext hxa)
              replace HG := Lib.hid (Rs.ext (Rs.ext RI.ext) _ _ _ _ hxa (HG.out))
              replace HB := Lib.hid ((HB.out).ext hxa)
              replace HM := Lib.hid (Rs.ext (Rs.ext RB.ext) _ _ _ _ hxa (HM.out))
              replace HSF := Lib.hid (Rs.ext RI.ext _ _ _ _ hxa (HSF.out))
              replace HSL := Lib.hid (Rs.ext (Rs.ext RB.ext) _ _ _ _ hxa (HSL.out))
              replace HCR := Lib.hid ((HCR.out).ext hxa)
              replace HFR := Lib.hid (And.intro (Rs.ext RI.ext _ _ _ _ hxa (HFR.out).1) (Rs.ext RB.ext _ _ _ _ hxa (HFR.out).2))
              replace HV := Lib.hid (RRs.ext _ _ _ _ hxa (HV.out))
              clear hxa
              have HFY := Lib.hid hFY
              clear hFY a0 a1 a2 hkn
              obtain ⟨QY, hQ⟩ : ∃ Q, wr.heap.size = Q := ⟨_, rfl⟩
              rw [hQ] at HCY
              try rw [hQ]
              obtain ⟨w9, hw⟩ : ∃ x, wr.alloc (.cells #[.int .i64 pY, .slice FAY nR fcY, .slice CAY mY ccY] 30) = x := ⟨_, rfl⟩
              rw [hw] at HX HT HG HB HM HSF HSL HCR HFR HV HCY HFY HXX ⊢
              clear hw
              clear hQ
              cases b with
              | true =>
                go_upto_region 28 with fail
                by_cases hk0 : k = 0
                case pos =>
                  refine wp_atEnd' (ls_next0 w9 k nl cL QR QY nR nR mR mY fcR ccR fcY ccY pR pY ad FAR CAR FAY CAY HCR HCY rfl hk0 _ _ _ _ _ _ _ _ _ _ _ _ _ _ _ _ _ _ _ _ _ _ _ _ _ _ _ _ _ _ _ _ _ _ _ _ _ _ _ _ _ _ _ _ _ _ _ _ _ _ _ _ _ _ _ _ _ _ _ _ _ _ _ _ _ _ _ _ _ _ _ _ _ _ _ _ _ _ _ _ _ _ _ _ _ _ _ _ _ _ _ _ _ _ _ _ _ _ _ _ _ _ _ _ _ _ _ _ _ _ _ _ _ _ _ _ _ _ _ _ _ _ _ _ _ _ _ _ _ _ _ _ _ _ _ _ _ _ _ _ _ _ _ _ _ _ _ _ _ _ _ _ _ _ _ _ _ _ _ _ _ _ _ _ _ _ _ _ _ _ _ _ _ _ _ _ _ _ _ _ _ _ _ _ _ _ _ _ _ ?_)
                  intro u143 u144 u145 u146 u147 u148 u149 u150 u151 u152 u153 u154 u155 u156 u157 u158 u159 u160 u161 u162 u163 u164 w11 hx11
                  replace HX := Lib.hid ((HX.out).trans hx11)
                  replace HT := Lib.hid ((HT.out).ext hx11)
                  replace HG := Lib.hid (Rs.ext (Rs.ext RI.ext) _ _ _ _ hx11 (HG.out))
                  replace HB := Lib.hid ((HB.out).ext hx11)
                  replace HM := Lib.hid (Rs.ext (Rs.ext RB.ext) _ _ _ _ hx11 (HM.out))
                  replace HSF := Lib.hid (Rs.ext RI.ext _ _ _ _ hx11 (HSF.out))
                  replace HSL := Lib.hid (Rs.ext (Rs.ext RB.ext) _ _ _ _ hx11 (HSL.out))
                  replace HCR := Lib.hid ((HCR.out).ext hx11)
                  replace HFR := Lib.hid (And.intro (Rs.ext RI.ext _ _ _ _ hx11 (HFR.out).1) (Rs.ext RB.ext _ _ _ _ hx11 (HFR.out).2))
                  replace HV := Lib.hid (RRs.ext _ _ _ _ hx11 (HV.out))
                  replace HCY := Lib.hid ((HCY.out).ext hx11)
                  replace HFY := Lib.hid (Rs.ext RI.ext _ _ _ _ hx11 (HFY.out))
                  replace HXX := Lib.hid ((HXX.out).trans hx11)
                  clear hx11
                  go_wp2_with fail
                  go_roundw
                  case rel => exact ⟨k + 1, true, by omega, by go_num, (by first | trivial | rfl), Lib.hid ⟨HXX.out, by rw [HTK.out, List.any_append, ← HI.out.2]; rfl⟩⟩
                  case measure => simp [intOf]; omega
                case neg =>
                  obtain ⟨j, hj⟩ : ∃ j, k = j + 1 := ⟨k - 1, by omega⟩
                  have hjl : j < AL.length := by rw [HAL.out.2]; omega
                  obtain ⟨ad', FZ, CZ, hA, _, z1, _, hFZ, _⟩ := HV.out.at hjl
                  injection hA with hA
                  subst hA
                  obtain ⟨FAZ, fcZ, rfl, _⟩ := hFZ.form
                  have hbf : Rb.Bf AL[j].src yy.src := by
                    have hj1 : j + 1 < AL.length := by rw [HAL.out.2, ← hj]; exact hlt
                    have h := Rb.all_asc HCK.out HE.out (j := j) (by rw [HAL.out.1]; exact hj1)
                    simp only [HAL.out.1] at h
                    have h2 : AL[j + 1] = yy := by have := HYK.out; simp only [hj] at this; exact this
                    rw [h2] at h
                    exact h
                  obtain ⟨f0, hf0⟩ : ∃ x, AL[j].src = x := ⟨_, rfl⟩
                  rw [hf0] at z1 hFZ hbf
                  obtain ⟨nZ, hnZ⟩ : ∃ x, f0.length = x := ⟨_, rfl⟩
                  rw [hnZ] at z1 hFZ
                  refine wp_atEnd' (ls_next1 w9 k nl cL QR QY nR nR mR mY fcR ccR fcY ccY fcZ nZ pR pY ad FAR CAR FAY CAY FAZ hlt (by omega) HCR HCY rfl j hj z1 f0 yy.src (Lib.hid hFZ) HFY (Lib.hid hbf) _ _ _ _ _ _ _ _ _ _ _ _ _ _ _ _ _ _ _ _ _ _ _ _ _ _ _ _ _ _ _ _ _ _ _ _ _ _ _ _ _ _ _ _ _ _ _ _ _ _ _ _ _ _ _ _ _ _ _ _ _ _ _ _ _ _ _ _ _ _ _ _ _ _ _ _ _ _ _ _ _ _ _ _ _ _ _ _ _ _ _ _ _ _ _ _ _ _ _ _ _ _ _ _ _ _ _ _ _ _ _ _ _ _ _ _ _ _ _ _ _ _ _ _ _ _ _ _ _ _ _ _ _ _ _ _ _ _ _ _ _ _ _ _ _ _ _ _ _ _ _ _ _ _ _ _ _ _ _ _ _ _ _ _ _ _ _ _ _ _ _ _ _ _ _ _ _ _ _ _ _ _ _ _ _ _ _ _ _ ?_)
                  clear z1 hFZ hbf hf0 hnZ
                  intro u143 u144 u145 u146 u147 u148 u149 u150 u151 u152 u153 u154 u155 u156 u157 u158 u159 u160 u161 u162 u163 u164 w11 hx11
                  replace HX := Lib.hid ((HX.out).trans hx11)
                  replace HT := Lib.hid ((HT.out).ext hx11)
                  replace HG := Lib.hid (Rs.ext (Rs.ext RI.ext) _ _ _ _ hx11 (HG.out))
                  replace HB := Lib.hid ((HB.out).ext hx11)
                  replace HM := Lib.hid (Rs.ext (Rs.ext RB.ext) _ _ _ _ hx11 (HM.out))
                  replace HSF := Lib.hid (Rs.ext RI.ext _ _ _ _ hx11 (HSF.out))
                  replace HSL := Lib.hid (Rs.ext (Rs.ext RB.ext) _ _ _ _ hx11 (HSL.out))
                  replace HCR := Lib.hid ((HCR.out).ext hx11)
                  replace HFR := Lib.hid (And.intro (Rs.ext RI.ext _ _ _ _ hx11 (HFR.out).1) (Rs.ext RB.ext _ _ _ _ hx11 (HFR.out).2))
                  replace HV := Lib.hid (RRs.ext _ _ _ _ hx11 (HV.out))
                  replace HCY := Lib.hid ((HCY.out).ext hx11)
                  replace HFY := Lib.hid (Rs.ext RI.ext _ _ _ _ hx11 (HFY.out))
                  replace HXX := Lib.hid ((HXX.out).trans hx11)
                  clear hx11
                  go_wp2_with fail
                  go_roundw
                  case rel => exact ⟨k + 1, true, by omega, by go_num, (by first | trivial | rfl), Lib.hid ⟨HXX.out, by rw [HTK.out, List.any_append, ← HI.out.2]; rfl⟩⟩
                  case measure => simp [intOf]; omega
              | false =>
                have q1 : w9.cell? ⟨QY, 1, none⟩ = some (.slice FAY nR fcY) := HCY.out 1 _ rfl
                go_wp2_with fail
                clear q1
                refine (sList8_any yy.src (Rb.usable n L (P : Nat) O) _ _ _ HFY.out HSF.out).mono ?_
                rintro e w10 ⟨rfl, hx10⟩
                replace HX := Lib.hid ((HX.out).trans hx10)
                replace HT := Lib.hid ((HT.out).ext hx10)
                replace HG := Lib.hid (Rs.ext (Rs.ext RI.ext) _ _ _ _ hx10 (HG.out))
                replace HB := Lib.hid ((HB.out).ext hx10)
                replace HM := Lib.hid (Rs.ext (Rs.ext RB.ext) _ _ _ _ hx10 (HM.out))
                replace HSF := Lib.hid (Rs.ext RI.ext _ _ _ _ hx10 (HSF.out))
                replace HSL := Lib.hid (Rs.ext (Rs.ext RB.ext) _ _ _ _ hx10 (HSL.out))
                replace HCR := Lib.hid ((HCR.out).ext hx10)
                replace HFR := Lib.hid (And.intro (Rs.ext RI.ext _ _ _ _ hx10 (HFR.out).1) (Rs.ext RB.ext _ _ _ _ hx10 (HFR.out).2))
                replace HV := Lib.hid (RRs.ext _ _ _ _ hx10 (HV.out))
                replace HCY := Lib.hid ((HCY.out).ext hx10)
                replace HFY := Lib.hid (Rs.ext RI.ext _ _ _ _ hx10 (HFY.out))
                replace HXX := Lib.hid ((HXX.out).trans hx10)
                clear hx10
                obtain ⟨b2, hb2⟩ : ∃ b, decide (yy.src = Rb.usable n L (P : Nat) O) = b := ⟨_, rfl⟩
                rw [hb2]
                have HB2 := Lib.hid hb2
                clear hb2
                go_upto_region 28 with fail
                by_cases hk0 : k = 0
                case pos =>
                  refine wp_atEnd' (ls_next0 w10 k nl cL QR QY nR nR mR mY fcR ccR fcY ccY pR pY ad FAR CAR FAY CAY HCR HCY rfl hk0 _ _ _ _ _ _ _ _ _ _ _ _ _ _ _ _ _ _ _ _ _ _ _ _ _ _ _ _ _ _ _ _ _ _ _ _ _ _ _ _ _ _ _ _ _ _ _ _ _ _ _ _ _ _ _ _ _ _ _ _ _ _ _ _ _ _ _ _ _ _ _ _ _ _ _ _ _ _ _ _ _ _ _ _ _ _ _ _ _ _ _ _ _ _ _ _ _ _ _ _ _ _ _ _ _ _ _ _ _ _ _ _ _ _ _ _ _ _ _ _ _ _ _ _ _ _ _ _ _ _ _ _ _ _ _ _ _ _ _ _ _ _ _ _ _ _ _ _ _ _ _ _ _ _ _ _ _ _ _ _ _ _ _ _ _ _ _ _ _ _ _ _ _ _ _ _ _ _ _ _ _ _ _ _ _ _ _ _ _ ?_)
                  intro u143 u144 u145 u146 u147 u148 u149 u150 u151 u152 u153 u154 u155 u156 u157 u158 u159 u160 u161 u162 u163 u164 w11 hx11
                  replace HX := Lib.hid ((HX.out).trans hx11)
                  replace HT := Lib.hid ((HT.out).ext hx11)
                  replace HG := Lib.hid (Rs.ext (Rs.ext RI.ext) _ _ _ _ hx11 (HG.out))
                  replace HB := Lib.hid ((HB.out).ext hx11)
                  replace HM := Lib.hid (Rs.ext (Rs.ext RB.ext) _ _ _ _ hx11 (HM.out))
                  replace HSF := Lib.hid (Rs.ext RI.ext _ _ _ _ hx11 (HSF.out))
                  replace HSL := Lib.hid (Rs.ext (Rs.ext RB.ext) _ _ _ _ hx11 (HSL.out))
                  replace HCR := Lib.hid ((HCR.out).ext hx11)
                  replace HFR := Lib.hid (And.intro (Rs.ext RI.ext _ _ _ _ hx11 (HFR.out).1) (Rs.ext RB.ext _ _ _ _ hx11 (HFR.out).2))
                  replace HV := Lib.hid (RRs.ext _ _ _ _ hx11 (HV.out))
                  replace HCY := Lib.hid ((HCY.out).ext hx11)
                  replace HFY := Lib.hid (Rs.ext RI.ext _ _ _ _ hx11 (HFY.out))
                  replace HXX := Lib.hid ((HXX.out).trans hx11)
                  clear hx11
                  go_wp2_with fail
                  go_roundw
                  case rel => exact ⟨k + 1, b2, by omega, by go_num, (by first | trivial | rfl), Lib.hid ⟨HXX.out, by rw [HTK.out, List.any_append, ← HI.out.2, List.any_cons, List.any_nil, HB2.out]; cases b2 <;> rfl⟩⟩
                  case measure => simp [intOf]; omega
                case neg =>
                  obtain ⟨j, hj⟩ : ∃ j, k = j + 1 := ⟨k - 1, by omega⟩
                  have hjl : j < AL.length := by rw [HAL.out.2]; omega
                  obtain ⟨ad', FZ, CZ, hA, _, z1, _, hFZ, _⟩ := HV.out.at hjl
                  injection hA with hA
                  subst hA
                  obtain ⟨FAZ, fcZ, rfl, _⟩ := hFZ.form
                  have hbf : Rb.Bf AL[j].src yy.src := by
                    have hj1 : j + 1 < AL.length := by rw [HAL.out.2, ← hj]; exact hlt
                    have h := Rb.all_asc HCK.out HE.out (j := j) (by rw [HAL.out.1]; exact hj1)
                    simp only [HAL.out.1] at h
                    have h2 : AL[j + 1] = yy := by have := HYK.out; simp only [hj] at this; exact this
                    rw [h2] at h
                    exact h
                  obtain ⟨f0, hf0⟩ : ∃ x, AL[j].src = x := ⟨_, rfl⟩
                  rw [hf0] at z1 hFZ hbf
                  obtain ⟨nZ, hnZ⟩ : ∃ x, f0.length = x := ⟨_, rfl⟩
                  rw [hnZ] at z1 hFZ
                  refine wp_atEnd' (ls_next1 w10 k nl cL QR QY nR nR mR mY fcR ccR fcY ccY fcZ nZ pR pY ad FAR CAR FAY CAY FAZ hlt (by omega) HCR HCY rfl j hj z1 f0 yy.src (Lib.hid hFZ) HFY (Lib.hid hbf) _ _ _ _ _ _ _ _ _ _ _ _ _ _ _ _ _ _ _ _ _ _ _ _ _ _ _ _ _ _ _ _ _ _ _ _ _ _ _ _ _ _ _ _ _ _ _ _ _ _ _ _ _ _ _ _ _ _ _ _ _ _ _ _ _ _ _ _ _ _ _ _ _ _ _ _ _ _ _ _ _ _ _ _ _ _ _ _ _ _ _ _ _ _ _ _ _ _ _ _ _ _ _ _ _ _ _ _ _ _ _ _ _ _ _ _ _ _ _ _ _ _ _ _ _ _ _ _ _ _ _ _ _ _ _ _ _ _ _ _ _ _ _ _ _ _ _ _ _ _ _ _ _ _ _ _ _ _ _ _ _ _ _ _ _ _ _ _ _ _ _ _ _ _ _ _ _ _ _ _ _ _ _ _ _ _ _ _ _ ?_)
                  clear z1 hFZ hbf hf0 hnZ
                  intro u143 u144 u145 u146 u147 u148 u149 u150 u151 u152 u153 u154 u155 u156 u157 u158 u159 u160 u161 u162 u163 u164 w11 hx11
                  replace HX := Lib.hid ((HX.out).trans hx11)
                  replace HT := Lib.hid ((HT.out).ext hx11)
                  replace HG := Lib.hid (Rs.ext (Rs.ext RI.ext) _ _ _ _ hx11 (HG.out))
                  replace HB := Lib.hid ((HB.out).ext hx11)
                  replace HM := Lib.hid (Rs.ext (Rs.ext RB.ext) _ _ _ _ hx11 (HM.out))
                  replace HSF := Lib.hid (Rs.ext RI.ext _ _ _ _ hx11 (HSF.out))
                  replace HSL := Lib.hid (Rs.ext (Rs.ext RB.ext) _ _ _ _ hx11 (HSL.out))
                  replace HCR := Lib.hid ((HCR.out).ext hx11)
                  replace HFR := Lib.hid (And.intro (Rs.ext RI.ext _ _ _ _ hx11 (HFR.out).1) (Rs.ext RB.ext _ _ _ _ hx11 (HFR.out).2))
                  replace HV := Lib.hid (RRs.ext _ _ _ _ hx11 (HV.out))
                  replace HCY := Lib.hid ((HCY.out).ext hx11)
                  replace HFY := Lib.hid (Rs.ext RI.ext _ _ _ _ hx11 (HFY.out))
                  replace HXX := Lib.hid ((HXX.out).trans hx11)
                  clear hx11
                  go_wp2_with fail
                  go_roundw
                  case rel => exact ⟨k + 1, b2, by omega, by go_num, (by first | trivial | rfl), Lib.hid ⟨HXX.out, by rw [HTK.out, List.any_append, ← HI.out.2, List.any_cons, List.any_nil, HB2.out]; cases b2 <;> rfl⟩⟩
                  case measure => simp [intOf]; omega
            case neg =>
              obtain rfl : nl = k := by omega
              have hbb := HI.out.2
              rw [← HAL.out.2, List.take_length] at hbb
              have HBB := Lib.hid hbb
              clear hbb
              have q1 : wr.cell? ⟨QR, 1, none⟩ = some (.slice FAR nR fcR) := HCR.out 1 _ rfl
              go_wp2_with fail
              clear q1
              refine (sanity_any wr HT.out).mono ?_
              rintro e w1001 ⟨rfl, hxs⟩
              have HXS := Lib.hid (HX.out.trans hxs)
              replace HX := Lib.hid ((HX.out).trans hxs)
              replace HT := Lib.hid ((HT.out).ext hxs)
              replace HG := Lib.hid (Rs.ext (Rs.ext RI.ext) _ _ _ _ hxs (HG.out))
              replace HB := Lib.hid ((HB.out).ext hxs)
              replace HM := Lib.hid (Rs.ext (Rs.ext RB.ext) _ _ _ _ hxs (HM.out))
              replace HSF := Lib.hid (Rs.ext RI.ext _ _ _ _ hxs (HSF.out))
              replace HSL := Lib.hid (Rs.ext (Rs.ext RB.ext) _ _ _ _ hxs (HSL.out))
              replace HCR := Lib.hid ((HCR.out).ext hxs)
              replace HFR := Lib.hid (And.intro (Rs.ext RI.ext _ _ _ _ hxs (HFR.out).1) (Rs.ext RB.ext _ _ _ _ hxs (HFR.out).2))
              replace HV := Lib.hid (RRs.ext _ _ _ _ hxs (HV.out))
              clear hxs
              have q1 : w1001.cell? ⟨QR, 1, none⟩ = some (.slice FAR nR fcR) := HCR.out 1 _ rfl
              go_wp2_with fail
              go_ret
              exact ⟨rfl, HX.out⟩
end Go.Proofs.YtdmljilcbndmfaaDoor
