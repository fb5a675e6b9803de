/- What the program's functions do, step by step: part D of the texts for this claim; no condition beyond what each theorem states. -/
import Derived.Lib.AppendStr
import Derived.Deep.Cut
import Derived.Deep.DeepCutAuto
import Derived.Test.YtggfkpalkdkbdaaDoorLoNeeBunA
import Derived.Test.YtggfkpalkdkbdaaDoorLoNeeBunB
import Derived.Test.YtggfkpalkdkbdaaDoorLoNeeBunC
/- THE WALK over Decode. -/
namespace Go.Proofs.YtggfkpalkdkbdaaDoor
open Go.RowKit
theorem StairsOut.toRd {w0 w : World} {P n : Nat} {rs ps : List (List UInt8)} (h : StairsOut w0 w P rs ps n) (hw : ∀ r ∈ rs, r.length ≤ 9223372036854775807) (hl : rs.length ≤ 9223372036854775807) : StairsRd w P rs ps n := by
  obtain ⟨A, B, cA, cB, b0, b1, b2, hpl, h1, h2⟩ := h.look
  refine ⟨A, B, cA, cB, b0, by rw [hpl]; exact b1, b2, ⟨A, cA, rfl, hl, fun i x hx => ?_⟩, ⟨B, cB, rfl, by omega, fun i x hx => ?_⟩⟩
  · obtain ⟨hi, rfl⟩ := List.getElem?_eq_some_iff.1 hx
    obtain ⟨ad, g, cg, e1, e2, e3⟩ := h1 i hi
    exact ⟨ad, _, e1, e2, Rs.of_rd e3 (hw _ (List.getElem_mem hi))⟩
  · obtain ⟨hi, rfl⟩ := List.getElem?_eq_some_iff.1 hx
    obtain ⟨bd, e1, e2⟩ := h2 i hi
    exact ⟨bd, _, e1, e2, rfl⟩
theorem strCells_sb (p : List UInt8) : Lib.strCells (sb p) = p.map bv := rfl
/-- What Decode is given, with its first error. -/
theorem cDecode_no (d gl n m : Int) (gs : List (List Int)) (pieces : List (List UInt8)) (G : Value) (PA : Option Addr) (cp : Nat) (w : World) (hT : Tab w) (hG : Rs (Rs RI) w G gs) (h0 : Cd.check d gs gl ≠ 0) :
    Calls Tryd.prog 23 #[.agg #[.int .i64 d, G, .int .i64 gl], .int .i64 n, .int .i64 m, .slice PA pieces.length cp] w fun e w' => e = .returned (.tuple #[.string (sb []), .int .i64 (Cd.check d gs gl)]) ∧ Ext w w' := by
  have hx0 := (Ext.refl w).alloc (.cells #[.int .i64 d, G, .int .i64 gl] 24)
  have HX := Lib.hid (And.intro hx0 (Rs.ext (Rs.ext RI.ext) _ _ _ _ hx0 hG))
  have HT := Lib.hid (hT.ext hx0)
  obtain ⟨A, c, rfl, hl⟩ := hG.form
  have e1 : (Cd.check d gs gl != 0) = true := by rw [bne_iff_ne]; exact h0
  clear hG hx0 hT h0
  go_enter Tryd.func23, Tryd.ntmps23
  go_wp2_with fail
  refine (cRows_any d gl gs _ _ HT.out HX.out.2).mono ?_
  rintro e w1 ⟨v, rfl, hv, hx1⟩
  have HX1 := Lib.hid (HX.out.1.trans hx1)
  clear hx1 hv
  go_wp2_with fail
  go_ret2
  exact ⟨rfl, HX1.out⟩
theorem toList_sb (l : List UInt8) : (sb l).toList = l := by rw [ByteArray.toList_eq]; rfl
theorem sb_same {e p : List UInt8} (h : e = p) : (!(sb e).toList == (sb p).toList) = false := by subst h; simp
theorem sb_other {e p : List UInt8} (h : e ≠ p) : (!(sb e).toList == (sb p).toList) = true := by rw [toList_sb, toList_sb]; simp [h]
set_option maxRecDepth 100000 in
set_option maxHeartbeats 4000000 in
theorem cDecode_arg (d gl n m : Int) (gs : List (List Int)) (pieces : List (List UInt8)) (G : Value) (PA : Option Addr) (cp : Nat) (w : World) (hT : Tab w) (hG : Rs (Rs RI) w G gs) (h0 : Cd.check d gs gl = 0) (hb : Cd.badArgs d gl gs n m pieces = true) :
    Calls Tryd.prog 23 #[.agg #[.int .i64 d, G, .int .i64 gl], .int .i64 n, .int .i64 m, .slice PA pieces.length cp] w fun e w' => e = .returned (.tuple #[.string (sb []), .int .i64 1]) ∧ Ext w w' := by
  have hx0 := (Ext.refl w).alloc (.cells #[.int .i64 d, G, .int .i64 gl] 24)
  have HX := Lib.hid (And.intro hx0 (Rs.ext (Rs.ext RI.ext) _ _ _ _ hx0 hG))
  have HT := Lib.hid (hT.ext hx0)
  obtain ⟨A, c, rfl, hl⟩ := hG.form
  have e1 : (Cd.check d gs gl != 0) = false := by rw [h0]; rfl
  have hk := Cd.check_ok h0
  have hrl := Cd.rowsOf_len h0
  unfold Cd.badArgs at hb
  rw [decide_eq_true_eq] at hb
  obtain ⟨L, hL⟩ : ∃ L, (Cd.rowsOf d gs gl).length = L := ⟨_, rfl⟩
  rw [hL] at hb hrl
  have hw2 := wrap_pow L (by omega)
  obtain ⟨M, hM⟩ : ∃ M, 2 ^ L = M := ⟨_, rfl⟩
  rw [hM] at hb hw2
  obtain ⟨N, hN⟩ : ∃ N, pieces.length = N := ⟨_, rfl⟩
  rw [hN] at hb ⊢
  have five : n < 0 ∨ (¬ n < 0 ∧ 4096 < n) ∨ (¬ n < 0 ∧ ¬ 4096 < n ∧ m < 0) ∨ (¬ n < 0 ∧ ¬ 4096 < n ∧ ¬ m < 0 ∧ (M : Int) ≤ m) ∨ (¬ n < 0 ∧ ¬ 4096 < n ∧ ¬ m < 0 ∧ ¬ (M : Int) ≤ m ∧ N ≠ L) := by omega
  have HLL := Lib.hid hL
  have hL24 : L ≤ 24 := by omega
  clear hG hx0 hT h0 hb hM hL hN hrl
  rcases five with g | ⟨g1, g⟩ | ⟨g1, g2, g⟩ | ⟨g1, g2, g3, g⟩ | ⟨g1, g2, g3, g4, g⟩
  all_goals
    go_enter Tryd.func23, Tryd.ntmps23
    go_wp2_with fail
    refine (cRows_any d gl gs _ _ HT.out HX.out.2).mono ?_
    rintro e w1 ⟨v, rfl, hv, hx1⟩
    have HX1 := Lib.hid (HX.out.1.trans hx1)
    obtain ⟨RA, cR, rfl, _⟩ := hv.form
    rw [HLL.out]
    clear hx1 hv
  · go_wp2_with fail
    go_ret2
    exact ⟨rfl, HX1.out⟩
  · go_wp2_with fail
    go_ret2
    exact ⟨rfl, HX1.out⟩
  · go_wp2_with fail
    go_ret2
    exact ⟨rfl, HX1.out⟩
  · have e2 : (wrap64 (2 ^ L) ≤ m) = True := by rw [hw2]; exact eq_true (by omega)
    clear hw2 g
    go_wp2_with fail
    go_ret2
    exact ⟨rfl, HX1.out⟩
  · have e2 : (wrap64 (2 ^ L) ≤ m) = False := by rw [hw2]; exact eq_false (by omega)
    have e3 : ((N : Int) != (L : Int)) = true := by rw [bne_iff_ne]; omega
    clear hw2 g4 g
    go_wp2_with fail
    go_ret2
    exact ⟨rfl, HX1.out⟩
theorem dec_facts {d gl : Int} {n m : Nat} {gs : List (List Int)} {pieces : List (List UInt8)} (h : Cd.badArgs d gl gs (n : Int) (m : Int) pieces = false) : n ≤ 4096 ∧ m < 2 ^ (Cd.rowsOf d gs gl).length ∧ pieces.length = (Cd.rowsOf d gs gl).length := by
  unfold Cd.badArgs at h
  rw [decide_eq_false_iff_not] at h
  obtain ⟨M, hM⟩ : ∃ M, 2 ^ (Cd.rowsOf d gs gl).length = M := ⟨_, rfl⟩
  rw [hM] at h ⊢
  omega
theorem pow_le_false {m L : Nat} (h : m < 2 ^ L) (hL : L ≤ 24) : (wrap64 (2 ^ L) ≤ (m : Int)) = False := by
  rw [wrap_pow L (by omega)]
  obtain ⟨M, hM⟩ : ∃ M, 2 ^ L = M := ⟨_, rfl⟩
  rw [hM] at h ⊢
  exact eq_false (by omega)
set_option maxRecDepth 100000 in
set_option maxHeartbeats 8000000 in
theorem cDecode_in (d gl n m : Nat) (gs : List (List Int)) (pieces : List (List UInt8)) (G : Value) (PA : Option Addr) (cp : Nat) (w : World) (hT : Tab w) (hG : Rs (Rs RI) w G gs) (h0 : Cd.check d gs gl = 0) (hb : Cd.badArgs d gl gs n m pieces = false)
    (hP : Rs RS w (.slice PA pieces.length cp) pieces) (hpm : ∀ p ∈ pieces, p.length ≤ 140737488351232) :
    Calls Tryd.prog 23 #[.agg #[.int .i64 d, G, .int .i64 gl], .int .i64 n, .int .i64 m, .slice PA pieces.length cp] w fun e w' => e = .returned (.tuple #[.string (sb (Cd.decS d gl gs n m pieces)), .int .i64 (Cd.decE d gl gs n m pieces)]) ∧ Ext w w' := by
  have hx0 := (Ext.refl w).alloc (.cells #[.int .i64 d, G, .int .i64 gl] 24)
  have HX := Lib.hid (And.intro hx0 (Rs.ext (Rs.ext RI.ext) _ _ _ _ hx0 hG))
  have HT := Lib.hid (hT.ext hx0)
  have HP := Lib.hid (Rs.ext RS.ext _ _ _ _ hx0 hP)
  have HPM := Lib.hid hpm
  obtain ⟨A, c, rfl, hl⟩ := hG.form
  have e1 : (Cd.check (d : Int) gs (gl : Int) != 0) = false := by rw [h0]; rfl
  have hk := Cd.check_ok h0
  have hrl := Cd.rowsOf_len h0
  obtain ⟨L, hL⟩ : ∃ L, (Cd.rowsOf (d : Int) gs (gl : Int)).length = L := ⟨_, rfl⟩
  rw [hL] at hrl
  have hL24 : L ≤ 24 := by omega
  have hL0 : 0 < L := by omega
  have hfacts := dec_facts hb
  rw [hL] at hfacts
  obtain ⟨hn4, hmL, hpl⟩ := hfacts
  have hm24 : m < 16777216 := Nat.lt_of_lt_of_le hmL (Nat.pow_le_pow_right (by decide) hL24)
  have e2 : (wrap64 (2 ^ L) ≤ (m : Int)) = False := pow_le_false hmL hL24
  have hso := Cd.sizeOf_nat (d := d) (gl := gl) (gs := gs) hn4 h0
  have hszle := Cd.size_le (d := d) (by omega) n
  obtain ⟨sz, hsz⟩ : ∃ sz, Cd.sizeN d n = sz := ⟨_, rfl⟩
  rw [hsz] at hso hszle
  have HF := Lib.hid (And.intro h0 (And.intro hb (And.intro hL (And.intro hpl hsz))))
  have HSO := Lib.hid hso
  have HML := Lib.hid hmL
  have hd1 : 1 ≤ d := by omega
  have hd16 : d ≤ 16 := by omega
  rw [hpl]
  clear hG hx0 hT h0 hP hpm hb hrl hL hmL hpl hso hsz
  go_enter Tryd.func23, Tryd.ntmps23
  go_wp2_with fail
  refine (cRows_any d gl gs _ _ HT.out HX.out.2).mono ?_
  rintro e w1 ⟨v, rfl, hv, hx1⟩
  obtain ⟨RA, cR, rfl, _⟩ := hv.form
  have hc0 : w1.cell? ⟨w.heap.size, 0, none⟩ = some (.int .i64 d) := hx1.cell (by go_simp)
  have hc1 : w1.cell? ⟨w.heap.size, 1, none⟩ = some (.slice A gs.length c) := hx1.cell (by go_simp)
  have hc2 : w1.cell? ⟨w.heap.size, 2, none⟩ = some (.int .i64 gl) := hx1.cell (by go_simp)
  have HC1 := Lib.hid (And.intro hc0 (And.intro hc1 hc2))
  have HX1 := Lib.hid (HX.out.1.trans hx1)
  have HT1 := Lib.hid (HT.out.ext hx1)
  have HG1 := Lib.hid (Rs.ext (Rs.ext RI.ext) _ _ _ _ hx1 HX.out.2)
  have HP1 := Lib.hid (Rs.ext RS.ext _ _ _ _ hx1 HP.out)
  have HV := Lib.hid hv
  rw [HF.out.2.2.1]
  clear hx1 hv
  go_wp2_with fail
  clear hc0 hc1 hc2
  refine (cSize_any d gl n gs _ _ HG1.out).mono ?_
  rintro e w2 ⟨rfl, hx2⟩
  rw [HSO.out]
  have HX2 := Lib.hid (HX1.out.trans hx2)
  have HX12 := Lib.hid hx2
  have HT2 := Lib.hid (HT1.out.ext hx2)
  have HP2 := Lib.hid (Rs.ext RS.ext _ _ _ _ hx2 HP1.out)
  have HV2 := Lib.hid (Rs.ext (Rs.ext RB.ext) _ _ _ _ hx2 HV.out)
  clear hx2
  go_wp2_with fail
  go_loop [60] (fun vk => ∃ k : Nat, k ≤ L ∧ vk = .int .i64 k ∧ Hid (∀ j, j < k → Cd.bitAt m j = 1 → (pieces.getD j []).length = sz)) (fun vk => L - (intOf vk).toNat)
  case atStart => exact ⟨0, Nat.zero_le _, rfl, fun j hj => absurd hj (by omega)⟩
  case round =>
    obtain ⟨k, hk2, rfl, HI⟩ := hrel
    by_cases hlt : k < L
    · obtain ⟨pd, u, rfl, hpc, hu⟩ := HP2.out.at (i := k) (by rw [HF.out.2.2.2.1]; exact hlt)
      have hu' : u = sv (pieces[k]'(by rw [HF.out.2.2.2.1]; exact hlt)) := hu
      subst hu'
      have hgp : pieces.getD k [] = pieces[k]'(by rw [HF.out.2.2.2.1]; exact hlt) := by rw [List.getD_eq_getElem?_getD, List.getElem?_eq_getElem (by rw [HF.out.2.2.2.1]; exact hlt)]; rfl
      have hpk := HPM.out _ (List.getElem_mem (show k < pieces.length by rw [HF.out.2.2.2.1]; exact hlt))
      have hmm : bits .and .i64 ((m : Int) / 2 ^ k) 1 = ((Cd.bitAt m k : Nat) : Int) := by
        have hle : m / 2 ^ k ≤ m := Nat.div_le_self _ _
        have := odd64 (m / 2 ^ k) (by omega)
        rw [Cd.bitAt, ← this]
        simp
      obtain ⟨p, hp⟩ : ∃ p, pieces[k]'(by rw [HF.out.2.2.2.1]; exact hlt) = p := ⟨_, rfl⟩
      rw [hp] at hpc hgp hpk
      have HGP := Lib.hid hgp
      clear hgp hp hu
      by_cases hb : Cd.bitAt m k = 1
      · have HB := Lib.hid hb
        rw [hb] at hmm
        by_cases hps : p.length = sz
        · have e5 : ((p.length : Int) != (sz : Int)) = false := by rw [hps]; simp
          have HPS := Lib.hid hps
          clear hb hps
          go_wp2_with fail
          go_round
          case rel => exact ⟨k + 1, by omega, by go_num, fun j hj hbj => by
            by_cases hjk : j = k
            · rw [hjk, HGP.out, HPS.out]
            · exact HI.out j (by omega) hbj⟩
          case measure => simp [intOf]; omega
        · have e5 : ((p.length : Int) != (sz : Int)) = true := by rw [bne_iff_ne]; omega
          have hbl : Cd.badLen (Cd.sizeN ((d : Int)).toNat ((n : Int)).toNat) ((m : Int)).toNat pieces = true := by
            rw [Int.toNat_natCast, Int.toNat_natCast, Int.toNat_natCast, Cd.badLen_iff]
            exact ⟨k, by rw [HF.out.2.2.2.1]; exact hlt, hb, by rw [HGP.out, HF.out.2.2.2.2]; exact hps⟩
          have he := Cd.decE_len HF.out.1 HF.out.2.1 hbl
          have hs := Cd.decS_no (d := (d : Int)) (gl := (gl : Int)) (gs := gs) (n := (n : Int)) (m := (m : Int)) (pieces := pieces) (by rw [he]; decide)
          have HE := Lib.hid (And.intro hs he)
          clear hb hps hbl he hs
          go_wp2_with fail
          go_ret2
          exact ⟨by rw [HE.out.1, HE.out.2]; rfl, HX2.out⟩
      · have eb : (((Cd.bitAt m k : Nat) : Int) == 1) = false := by rw [beq_eq_false_iff_ne]; omega
        have HB := Lib.hid hb
        clear hb
        go_wp2_with fail
        go_round
        case rel => exact ⟨k + 1, by omega, by go_num, fun j hj hbj => by
          by_cases hjk : j = k
          · rw [hjk] at hbj; exact absurd hbj HB.out
          · exact HI.out j (by omega) hbj⟩
        case measure => simp [intOf]; omega
    · obtain rfl : k = L := by omega
      have hbl : Cd.badLen (Cd.sizeN ((d : Int)).toNat ((n : Int)).toNat) ((m : Int)).toNat pieces = false := by
        rw [Int.toNat_natCast, Int.toNat_natCast, Int.toNat_natCast, ← Bool.not_eq_true, Cd.badLen_iff]
        rintro ⟨j, h1, h2, h3⟩
        rw [HF.out.2.2.2.2] at h3
        exact h3 (HI.out j (by rw [← HF.out.2.2.2.1]; exact h1) h2)
      have hcol := cCollect_pieces d m (Cd.rowsOf (d : Int) gs (gl : Int)) pieces _ PA cp w2 HT2.out HV2.out (fun r hr => Cd.rowsOf_width HF.out.1 hr) hd1 hd16 (by rw [HF.out.2.2.1]; exact hL0) (by rw [HF.out.2.2.1]; exact hL24) (by rw [HF.out.2.2.1]; exact HML.out) HP2.out (by rw [HF.out.2.2.1]; exact HF.out.2.2.2.1) HPM.out
      rw [HF.out.2.2.1, HF.out.2.2.2.1] at hcol
      have HCOL := Lib.hid hcol
      have HBL := Lib.hid hbl
      clear hcol hbl
      go_wp2_with fail
      refine HCOL.out.mono ?_
      rintro e w3 ⟨P, rfl, hS⟩
      have hgood := Cd.col_good HF.out.1 m pieces
      have hcd := Cd.can_def (d := (d : Int)) (gl := (gl : Int)) (gs := gs) (m := m)
      rw [Int.toNat_natCast] at hgood hcd
      have HX3 := Lib.hid (HX2.out.trans hS.ext)
      by_cases hc : Cd.can (d : Int) (gl : Int) gs (m : Int) = true
      · have hlen : (Cd.col d (Cd.rowsOf (d : Int) gs (gl : Int)) m pieces).1.length = d := by rw [hgood.2]; exact (hcd.1 hc).2.2
        rw [if_pos hlen]
        have hst : Gf.Stairs d (Cd.col d (Cd.rowsOf (d : Int) gs (gl : Int)) m pieces).1 := hgood.1
        have htri := Cd.col_tri HF.out.1 hc pieces
        rw [Int.toNat_natCast] at htri
        have hcl : (Cd.col d (Cd.rowsOf (d : Int) gs (gl : Int)) m pieces).2.length = d := by
          have h1 : (Cd.col d (Cd.rowsOf (d : Int) gs (gl : Int)) m pieces).2.length = (Cd.col d (Cd.rowsOf (d : Int) gs (gl : Int)) m pieces).1.length := Cd.colTo_len _ _ _
          rw [h1, hlen]
        have hev : Cd.Even sz (Cd.col d (Cd.rowsOf (d : Int) gs (gl : Int)) m pieces).2 := Cd.colTo_even m pieces (fun j hj hbj => HI.out j (by rw [← HF.out.2.2.1]; exact hj) hbj) _ (Nat.le_refl _)
        have hsv := fun j hj => Cd.solved_even (L := sz) HF.out.1 hc (pieces := pieces) (fun j hj hbj => HI.out j (by rw [← HF.out.2.2.1]; exact hj) hbj) (i := j) hj
        have hsl := Cd.solved_len (d : Int) (gl : Int) gs m pieces
        rw [Int.toNat_natCast] at hsv hsl
        have hsd : Cd.solved (d : Int) (gl : Int) gs m pieces = Cd.sol (Cd.byOrd (Cd.col d (Cd.rowsOf (d : Int) gs (gl : Int)) m pieces).1 (Cd.ordTo (Cd.col d (Cd.rowsOf (d : Int) gs (gl : Int)) m pieces).1 d)) (Cd.byOrd (Cd.col d (Cd.rowsOf (d : Int) gs (gl : Int)) m pieces).2 (Cd.ordTo (Cd.col d (Cd.rowsOf (d : Int) gs (gl : Int)) m pieces).1 d)) d := by
          rw [Cd.solved, Int.toNat_natCast]
        have hsorted := cSorted_any w3 P d _ _ (HT2.out.ext hS.ext) (hS.toRd (fun r hr => by rw [hst.len r hr]; omega) (by rw [hlen]; omega)) hd16 hst hlen hcl (fun q hq => by rw [hev q hq]; omega) htri
        rw [← hsd] at hsorted
        have HSORT := Lib.hid hsorted
        have HCAN := Lib.hid hc
        have HSV := Lib.hid (And.intro hsv hsl)
        have HS3 := Lib.hid hS.ext
        clear hgood hcd hc hlen hst htri hcl hev hsv hsl hsd hsorted hS
        go_wp2_with fail
        refine HSORT.out.mono ?_
        rintro e w4 ⟨sv4, rfl, hv4, hx4⟩
        obtain ⟨SA, cS, rfl, _⟩ := hv4.form
        rw [HSV.out.2]
        have HV4 := Lib.hid hv4
        have HX4 := Lib.hid (HX3.out.trans hx4)
        have HS4 := Lib.hid (HS3.out.trans hx4)
        clear hv4 hx4
        go_wp2_with fail
        obtain ⟨Z, hZ⟩ : ∃ Z, Cd.solved (d : Int) (gl : Int) gs m pieces = Z := ⟨_, rfl⟩
        have hsv := HSV.out
        rw [hZ] at hsv
        have hv5 := HV4.out
        rw [hZ] at hv5
        have HZ := Lib.hid hZ
        have HSZ := Lib.hid hsv
        have HV5 := Lib.hid hv5
        clear hsv hv5 hZ
        obtain ⟨i0, hi, hz0, hz1, hz2⟩ := info_parts info_u8
        have hszd : d * sz ≤ 65536 := by
          have := Nat.mul_le_mul hd16 (show sz ≤ 4096 by omega)
          omega
        go_loopw [16, 86] (fun vf vx wr => ∃ (i : Nat) (v : Value), i ≤ d ∧ vx = .int .i64 i ∧ vf = v ∧ Hid (wr.ownsRow w4.heap.size 5 1 v (i * sz) (((Z.take i).flatten).map bv) ∧ Ext w4 wr)) (fun _ vx _ => d - (intOf vx).toNat)
        case atStart => exact ⟨0, _, Nat.zero_le _, rfl, rfl, by rw [Nat.zero_mul]; exact ⟨World.ownsRow_nil _ _ _ _, Ext.refl _⟩⟩
        case round =>
          obtain ⟨i, v, hi2, rfl, rfl, HJ⟩ := hrel
          by_cases hli : i < d
          · obtain ⟨zd, u, rfl, hzc, hu⟩ := HV5.out.at (i := i) (by rw [HSZ.out.2]; exact hli)
            have hu' : u = sv (Z[i]'(by rw [HSZ.out.2]; exact hli)) := hu
            subst hu'
            have hzl := HSZ.out.1 i hli
            have hgz : Z.getD i [] = Z[i]'(by rw [HSZ.out.2]; exact hli) := by rw [List.getD_eq_getElem?_getD, List.getElem?_eq_getElem (by rw [HSZ.out.2]; exact hli)]; rfl
            rw [hgz] at hzl
            have hfl : ((Z.take (i + 1)).flatten).map bv = ((Z.take i).flatten).map bv ++ Lib.strCells (sb (Z[i]'(by rw [HSZ.out.2]; exact hli))) := by
              rw [List.take_succ_eq_append_getElem (by rw [HSZ.out.2]; exact hli), List.flatten_append, List.map_append, strCells_sb]
              simp
            have hzc2 := HJ.out.2.cell hzc
            obtain ⟨z, hz⟩ : ∃ z, Z[i]'(by rw [HSZ.out.2]; exact hli) = z := ⟨_, rfl⟩
            rw [hz] at hzl hfl hzc2
            have hss : (sb z).size = sz := by rw [size_sb, hzl]
            have him : (i + 1) * sz ≤ d * sz := Nat.mul_le_mul_right sz hli
            rw [Nat.succ_mul] at him
            have HFL := Lib.hid (And.intro hfl hss)
            clear hfl hss hgz hz hzc hu hzl
            go_wp2_with (refine Lib.wpList_append_own_string _ rfl (.tmp 90) (.tmp 91) 48 9 rfl w4.heap.size 5 i0 Tryd.underlying48 Tryd.underlying9 hi hz0 hz1 hz2 _ (i * sz) _ rfl HJ.out.1 (sb z) rfl (by rw [HFL.out.2]; unfold maxLen; omega) (by rw [HFL.out.2]; omega) HJ.out.2.size ?_; intro v' w' ho hg _)
            go_roundw
            case rel => exact ⟨i + 1, v', by omega, by go_num, rfl, by have h9 := ho; rw [HFL.out.2] at h9; rw [HFL.out.1, Nat.succ_mul]; exact ⟨h9, HJ.out.2.grown hg (fun k hk => own_ge HJ.out.1 k hk)⟩⟩
            case measure => simp [intOf]; omega
          · obtain rfl : i = d := by omega
            have hfull : (Z.take i).flatten = Z.flatten := by rw [← HSZ.out.2, List.take_length]
            have hown := HJ.out.1
            rw [hfull] at hown
            obtain ⟨FA, cF, rfl⟩ := own_form hown
            have hge := Cd.size_ge (d := i) (by omega) n
            rw [HF.out.2.2.2.2] at hge
            obtain ⟨N, hN⟩ : ∃ N, i * sz = N := ⟨_, rfl⟩
            rw [hN] at hown hge hszd
            rw [hN]
            have hNc : N ≤ cF := by
              rcases hown.2 with ⟨h1, h2⟩ | ⟨g, cap, cur, h1, _, _, h2, _⟩
              · injection h1 with _ h3 h4
                omega
              · injection h1 with _ _ h4
                omega
            have HOW := Lib.hid hown
            have HFU := Lib.hid hfull
            have HX5 := Lib.hid (HX4.out.trans HJ.out.2)
            clear hown hfull hN
            have hc0 : wr.cell? ⟨w.heap.size, 0, none⟩ = some (.int .i64 i) := HJ.out.2.cell (HS4.out.cell (HX12.out.cell HC1.out.1))
            have hc1 : wr.cell? ⟨w.heap.size, 1, none⟩ = some (.slice A gs.length c) := HJ.out.2.cell (HS4.out.cell (HX12.out.cell HC1.out.2.1))
            have hc2 : wr.cell? ⟨w.heap.size, 2, none⟩ = some (.int .i64 gl) := HJ.out.2.cell (HS4.out.cell (HX12.out.cell HC1.out.2.2))
            go_wp2_with fail
            have q1 : (n : Int) ≤ (cF : Int) := by omega
            have q2 : n ≤ cF := by omega
            have htk : (Z.flatten).length = N := by have h := HOW.out.1; rw [List.length_map, Nat.mul_one] at h; exact h
            have hcv := fun (A : Option Addr) (hA : A = FA) => str_u8 (w := wr.drew) (A := A) (c := cF) (n := n) (l := Z.flatten.take n) (by rw [List.length_take, htk]; omega) (by
              subst hA
              have h1 := (own_rd HOW.out).ext (Ext.refl wr).drew
              intro k x hx
              rw [List.map_take] at hx
              exact h1 k x (by rw [List.getElem?_take] at hx; split at hx; exact hx; cases hx))
            have hcv2 := hcv FA rfl
            have HTK := Lib.hid htk
            have HGW := Lib.hid (Rs.ext (Rs.ext RI.ext) _ _ _ _ (HX12.out.trans (HS4.out.trans HJ.out.2)) HG1.out)
            have HTW := Lib.hid (HT2.out.ext (HS4.out.trans HJ.out.2))
            clear hcv htk
            go_region_law (go_simp; refine (cEncode_any (i : Int) (gl : Int) gs (Z.flatten.take n) _ _ (HTW.out.ext (Ext.refl wr).drew) (Rs.ext (Rs.ext RI.ext) _ _ _ _ (Ext.refl wr).drew HGW.out) (by rw [List.length_take]; omega)).mono ?_; rintro e w6 ⟨v6, rfl, hv6, hx6⟩; dsimp only; have HV6 := Lib.hid hv6; have HX6 := Lib.hid hx6; clear hv6 hx6)
            all_goals
              obtain ⟨EA, cE, rfl, _⟩ := HV6.out.form
              have hE : Cd.encL (i : Int) (gl : Int) gs (Z.flatten.take n) = Cd.encode (i : Int) (gl : Int) gs (Z.flatten.take n) := Cd.encL_ok HF.out.1 (by rw [List.length_take]; omega)
              have hEl : (Cd.encode (i : Int) (gl : Int) gs (Z.flatten.take n)).length = k := by rw [Cd.encode_len]; exact HF.out.2.2.1
              have hv6 := HV6.out
              rw [hE] at hv6 ⊢
              obtain ⟨E, hEE⟩ : ∃ E, Cd.encode (i : Int) (gl : Int) gs (Z.flatten.take n) = E := ⟨_, rfl⟩
              rw [hEE] at hv6 hEl ⊢
              rw [hEl] at hv6 ⊢
              have HE6 := Lib.hid (And.intro hv6 (And.intro hEl hEE))
              have HX26 := Lib.hid (HS4.out.trans (HJ.out.2.drew.trans HX6.out))
              have HP6 := Lib.hid (Rs.ext RS.ext _ _ _ _ HX26.out HP2.out)
              clear hE hEl hv6 hEE hc0 hc1 hc2 hcv2 HV6
              go_wp2_with fail
              go_loop [105] (fun vk => ∃ j : Nat, j ≤ k ∧ vk = .int .i64 j ∧ Hid (∀ x, x < j → Cd.bitAt m x = 1 → E.getD x [] = pieces.getD x [])) (fun vk => k - (intOf vk).toNat)
              case atStart => exact ⟨0, Nat.zero_le _, rfl, fun j hj => absurd hj (by omega)⟩
              case round =>
                obtain ⟨j, hj2, rfl, HY⟩ := hrel
                by_cases hltj : j < k
                · obtain ⟨pd, u, rfl, hpc, hu⟩ := HP6.out.at (i := j) (by rw [HF.out.2.2.2.1]; exact hltj)
                  have hu' : u = sv (pieces[j]'(by rw [HF.out.2.2.2.1]; exact hltj)) := hu
                  subst hu'
                  have hgp : pieces.getD j [] = pieces[j]'(by rw [HF.out.2.2.2.1]; exact hltj) := by rw [List.getD_eq_getElem?_getD, List.getElem?_eq_getElem (by rw [HF.out.2.2.2.1]; exact hltj)]; rfl
                  obtain ⟨ed, u2, rfl, hec, hu2⟩ := HE6.out.1.at (i := j) (by rw [HE6.out.2.1]; exact hltj)
                  have hu2' : u2 = sv (E[j]'(by rw [HE6.out.2.1]; exact hltj)) := hu2
                  subst hu2'
                  have hge2 : E.getD j [] = E[j]'(by rw [HE6.out.2.1]; exact hltj) := by rw [List.getD_eq_getElem?_getD, List.getElem?_eq_getElem (by rw [HE6.out.2.1]; exact hltj)]; rfl
                  have hmm : bits .and .i64 ((m : Int) / 2 ^ j) 1 = ((Cd.bitAt m j : Nat) : Int) := by
                    have hle : m / 2 ^ j ≤ m := Nat.div_le_self _ _
                    have := odd64 (m / 2 ^ j) (by omega)
                    rw [Cd.bitAt, ← this]
                    simp
                  obtain ⟨p, hp⟩ : ∃ p, pieces[j]'(by rw [HF.out.2.2.2.1]; exact hltj) = p := ⟨_, rfl⟩
                  obtain ⟨e, he⟩ : ∃ e, E[j]'(by rw [HE6.out.2.1]; exact hltj) = e := ⟨_, rfl⟩
                  rw [hp] at hpc hgp
                  rw [he] at hec hge2
                  have HGP := Lib.hid (And.intro hgp hge2)
                  clear hgp hp hu he hge2 hu2
                  by_cases hb : Cd.bitAt m j = 1
                  · have HB := Lib.hid hb
                    rw [hb] at hmm
                    by_cases hep : e = p
                    · have HEP := Lib.hid hep
                      have hs := sb_same hep
                      clear hb hep
                      go_wp2_with fail
                      go_round
                      case rel => exact ⟨j + 1, by omega, by go_num, fun x hx hbx => by
                        by_cases hxj : x = j
                        · rw [hxj, HGP.out.1, HGP.out.2, HEP.out]
                        · exact HY.out x (by omega) hbx⟩
                      case measure => simp [intOf]; omega
                    · have hs := sb_other hep
                      have hbo : Cd.badOne ((m : Int)).toNat (Cd.encode (i : Int) (gl : Int) gs (Cd.chunkOf (i : Int) (gl : Int) gs ((n : Int)).toNat ((m : Int)).toNat pieces)) pieces = true := by
                        rw [Int.toNat_natCast, Int.toNat_natCast, Cd.chunkOf, HZ.out, HE6.out.2.2, Cd.badOne_iff]
                        exact ⟨j, by rw [HF.out.2.2.2.1]; exact hltj, hb, by rw [HGP.out.1, HGP.out.2]; exact hep⟩
                      have he := Cd.decE_bad HF.out.1 HF.out.2.1 HBL.out HCAN.out hbo
                      have hs2 := Cd.decS_no (d := (i : Int)) (gl := (gl : Int)) (gs := gs) (n := (n : Int)) (m := (m : Int)) (pieces := pieces) (by rw [he]; decide)
                      have HE := Lib.hid (And.intro hs2 he)
                      clear hb hep hbo he hs2
                      go_wp2_with fail
                      go_ret2
                      exact ⟨by rw [HE.out.1, HE.out.2]; rfl, HX5.out.drew.trans HX6.out⟩
                  · have eb : (((Cd.bitAt m j : Nat) : Int) == 1) = false := by rw [beq_eq_false_iff_ne]; omega
                    have HB := Lib.hid hb
                    clear hb
                    go_wp2_with fail
                    go_round
                    case rel => exact ⟨j + 1, by omega, by go_num, fun x hx hbx => by
                      by_cases hxj : x = j
                      · rw [hxj] at hbx; exact absurd hbx HB.out
                      · exact HY.out x (by omega) hbx⟩
                    case measure => simp [intOf]; omega
                · obtain rfl : j = k := by omega
                  have hbo : Cd.badOne ((m : Int)).toNat (Cd.encode (i : Int) (gl : Int) gs (Cd.chunkOf (i : Int) (gl : Int) gs ((n : Int)).toNat ((m : Int)).toNat pieces)) pieces = false := by
                    rw [Int.toNat_natCast, Int.toNat_natCast, Cd.chunkOf, HZ.out, HE6.out.2.2, ← Bool.not_eq_true, Cd.badOne_iff]
                    rintro ⟨x, h1, h2, h3⟩
                    exact h3 (HY.out x (by rw [← HF.out.2.2.2.1]; exact h1) h2)
                  have he := Cd.decE_ok HF.out.1 HF.out.2.1 HBL.out HCAN.out hbo
                  have hs2 := Cd.decS_ok he
                  rw [Int.toNat_natCast, Int.toNat_natCast, Cd.chunkOf, HZ.out] at hs2
                  have HE := Lib.hid (And.intro hs2 he)
                  have hcv6 := str_u8 (w := w6) (A := FA) (c := cF) (n := n) (l := Z.flatten.take n) (by rw [List.length_take, HTK.out]; omega) (by
                    have h1 := (own_rd HOW.out).ext ((Ext.refl wr).drew.trans HX6.out)
                    intro k x hx
                    rw [List.map_take] at hx
                    exact h1 k x (by rw [List.getElem?_take] at hx; split at hx; exact hx; cases hx))
                  clear hbo he hs2
                  go_wp2_with fail
                  go_ret2
                  exact ⟨by rw [HE.out.1, HE.out.2]; rfl, HX5.out.drew.trans HX6.out⟩
      · have hlen : ¬ (Cd.col d (Cd.rowsOf (d : Int) gs (gl : Int)) m pieces).1.length = d := fun h => hc (hcd.2 ⟨HF.out.1, by rw [HF.out.2.2.1]; exact HML.out, by rw [← hgood.2]; exact h⟩)
        rw [if_neg hlen]
        have hc2 : Cd.can (d : Int) (gl : Int) gs (m : Int) = false := by simpa using hc
        have he := Cd.decE_lost HF.out.1 HF.out.2.1 HBL.out hc2
        have hs := Cd.decS_no (d := (d : Int)) (gl := (gl : Int)) (gs := gs) (n := (n : Int)) (m := (m : Int)) (pieces := pieces) (by rw [he]; decide)
        have HE := Lib.hid (And.intro hs he)
        clear hS hgood hcd hc hlen hc2 he hs
        go_wp2_with fail
        go_ret2
        exact ⟨by rw [HE.out.1, HE.out.2]; rfl, HX3.out⟩
end Go.Proofs.YtggfkpalkdkbdaaDoor

/- `Decode`, whatever is given. -/
namespace Go.Proofs.YtggfkpalkdkbdaaDoor
open Go.RowKit
/-- `Decode`, whatever is given. -/
theorem cDecode_any (d gl n m : Int) (gs : List (List Int)) (pieces : List (List UInt8)) (G : Value) (PA : Option Addr) (cp : Nat) (w : World) (hT : Tab w) (hG : Rs (Rs RI) w G gs)
    (hP : Rs RS w (.slice PA pieces.length cp) pieces) (hpm : ∀ p ∈ pieces, p.length ≤ 140737488351232) :
    Calls Tryd.prog 23 #[.agg #[.int .i64 d, G, .int .i64 gl], .int .i64 n, .int .i64 m, .slice PA pieces.length cp] w fun e w' => e = .returned (.tuple #[.string (sb (Cd.decS d gl gs n m pieces)), .int .i64 (Cd.decE d gl gs n m pieces)]) ∧ Ext w w' := by
  by_cases h0 : Cd.check d gs gl = 0
  · cases hb : Cd.badArgs d gl gs n m pieces with
    | true =>
      have he := Cd.decE_arg h0 hb
      rw [Cd.decS_no (by rw [he]; decide), he]
      exact cDecode_arg d gl n m gs pieces G PA cp w hT hG h0 hb
    | false =>
      have hk := Cd.check_ok h0
      have hb2 := hb
      unfold Cd.badArgs at hb2
      rw [decide_eq_false_iff_not] at hb2
      obtain ⟨d', rfl⟩ : ∃ k : Nat, d = k := ⟨d.toNat, by omega⟩
      obtain ⟨gl', rfl⟩ : ∃ k : Nat, gl = k := ⟨gl.toNat, by omega⟩
      obtain ⟨n', rfl⟩ : ∃ k : Nat, n = k := ⟨n.toNat, by omega⟩
      obtain ⟨m', rfl⟩ : ∃ k : Nat, m = k := ⟨m.toNat, by omega⟩
      exact cDecode_in d' gl' n' m' gs pieces G PA cp w hT hG h0 hb hP hpm
  · have he := Cd.decE_no (n := n) (m := m) (pieces := pieces) h0
    rw [Cd.decS_no (by rw [he]; exact h0), he]
    exact cDecode_no d gl n m gs pieces G PA cp w hT hG h0
end Go.Proofs.YtggfkpalkdkbdaaDoor

/- THE WALK over Locate (package locate). -/
namespace Lo
open Gf Cd
/-- What Locate returns. -/
def locR (d gl : Int) (gs : List (List Int)) (n m : Int) (pieces : List (List UInt8)) (wrong : Int) : List UInt8 × Int × Int :=
  if givE d gl gs n m pieces ≠ 0 then ([], 0, givE d gl gs n m pieces)
  else if corE d gl gs m wrong ≠ 0 then ([], 0, corE d gl gs m wrong)
  else if corB d gl gs m wrong = false then ([], 0, 4)
  else match locP (decO d gl gs n.toNat pieces) m.toNat (rowsOf d gs gl).length wrong.toNat with
    | some (s, t) => (s, ((t : Nat) : Int), 0)
    | none => ([], 0, 17)
section
variable {d gl n m wrong : Int} {gs : List (List Int)} {pieces : List (List UInt8)}
theorem locR_bad (h : givE d gl gs n m pieces ≠ 0) : locR d gl gs n m pieces wrong = ([], 0, givE d gl gs n m pieces) := if_pos h
theorem locR_cor (h : givE d gl gs n m pieces = 0) (h2 : corE d gl gs m wrong ≠ 0) : locR d gl gs n m pieces wrong = ([], 0, corE d gl gs m wrong) := by unfold locR; rw [if_neg (by rw [h]; simp), if_pos h2]
theorem locR_state (h : givE d gl gs n m pieces = 0) (h2 : corE d gl gs m wrong = 0) (h3 : corB d gl gs m wrong = false) : locR d gl gs n m pieces wrong = ([], 0, 4) := by unfold locR; rw [if_neg (by rw [h]; simp), if_neg (by rw [h2]; simp), if_pos h3]
theorem locR_some (h : givE d gl gs n m pieces = 0) (h2 : corE d gl gs m wrong = 0) (h3 : corB d gl gs m wrong = true) {s : List UInt8} {t : Nat} (h4 : locP (decO d gl gs n.toNat pieces) m.toNat (rowsOf d gs gl).length wrong.toNat = some (s, t)) : locR d gl gs n m pieces wrong = (s, ((t : Nat) : Int), 0) := by
  unfold locR; rw [if_neg (by rw [h]; simp), if_neg (by rw [h2]; simp), if_neg (by rw [h3]; simp), h4]
theorem locR_none (h : givE d gl gs n m pieces = 0) (h2 : corE d gl gs m wrong = 0) (h3 : corB d gl gs m wrong = true) (h4 : locP (decO d gl gs n.toNat pieces) m.toNat (rowsOf d gs gl).length wrong.toNat = none) : locR d gl gs n m pieces wrong = ([], 0, 17) := by
  unfold locR; rw [if_neg (by rw [h]; simp), if_neg (by rw [h2]; simp), if_neg (by rw [h3]; simp), h4]
theorem locP_miss {α : Type} {dec : Nat → Option α} {m N w : Nat} (h : ∀ z ∈ parts m N w, dec (m - z) = none) : locP dec m N w = none := by
  unfold locP
  rw [List.findSome?_eq_none_iff]
  intro z hz
  rw [h z hz]; rfl
theorem locP_hit {α : Type} {dec : Nat → Option α} {m N w : Nat} {pre : List Nat} {t : Nat} {s : α} (hp : pre ++ [t] <+: parts m N w) (h : ∀ z ∈ pre, dec (m - z) = none) (h2 : dec (m - t) = some s) : locP dec m N w = some (s, t) := by
  unfold locP
  obtain ⟨r, hr⟩ := hp
  rw [← hr, List.findSome?_append, List.findSome?_append]
  have h1 : pre.findSome? (fun t => (dec (m - t)).map fun s => (s, t)) = none := by
    rw [List.findSome?_eq_none_iff]
    intro z hz
    rw [h z hz]; rfl
  rw [h1]
  simp [h2]
/-- A number of errors that Corrects lets by. -/
theorem cor_fine (h : corE d gl gs m wrong = 0) : ∃ k : Nat, wrong = k ∧ k ≤ 2 := by
  by_cases h1 : chkE d gl gs m = 0
  · by_cases h2 : wrong < 0 ∨ 2 < wrong
    · have := (cor_range h1 h2).2; omega
    · exact ⟨wrong.toNat, by omega, by omega⟩
  · have := (cor_bad (wrong := wrong) h1).2; omega
end
end Lo
namespace Go.Proofs.YtggfkpalkdkbdaaDoor
open Go.RowKit Go.Shelf
attribute [local go_sem] Oper.semAt_some
theorem results_cells3L {P : Program} {fn : Func} {a b c : Tmp} {t1 t2 t3 : TypeId} (h : fn.results = #[.cell a t1, .cell b t2, .cell c t3]) {tmps : Array Value} {p1 p2 p3 : Addr} {v1 v2 v3 : Value} {w : World} (ha : tmps.getD a undef = .pointer (some p1)) (hb : tmps.getD b undef = .pointer (some p2)) (hc : tmps.getD c undef = .pointer (some p3))
    (h1 : (loadVar t1 p1).run P w = .ok v1 w) (h2 : (loadVar t2 p2).run P w = .ok v2 w) (h3 : (loadVar t3 p3).run P w = .ok v3 w) : (results fn tmps).run P w = .ok (.tuple #[v1, v2, v3]) w := by
  rw [Array.getD_eq_getD_getElem?] at ha hb hc
  simp [results, h, asAddr, ha, hb, hc, h1, h2, h3]
set_option maxHeartbeats 16000000 in
set_option maxRecDepth 100000 in
theorem lLocate_any (d gl n m wrong : Int) (gs : List (List Int)) (pieces : List (List UInt8)) (G : Value) (PA : Option Addr) (cp : Nat) (w : World) (hT : Tab w) (hG : Rs (Rs RI) w G gs) (hP : Rs RS w (.slice PA pieces.length cp) pieces) (hpm : ∀ p ∈ pieces, p.length ≤ 140737488351232) (hN : Cd.check d gs gl = 0 → (Cd.rowsOf d gs gl).length ≤ 14) :
    Calls Tryd.prog 15 #[.agg #[.int .i64 d, G, .int .i64 gl], .int .i64 n, .int .i64 m, .slice PA pieces.length cp, .int .i64 wrong] w fun e w' => e = .returned (.tuple #[.string (sb (Lo.locR d gl gs n m pieces wrong).1), .int .i64 (Lo.locR d gl gs n m pieces wrong).2.1, .int .i64 (Lo.locR d gl gs n m pieces wrong).2.2]) ∧ Ext w w' := by
  obtain ⟨GA, Gc, rfl, _⟩ := hG.form
  obtain ⟨ng, hng⟩ : ∃ ng, gs.length = ng := ⟨_, rfl⟩
  rw [hng] at hG ⊢
  obtain ⟨pl, hpl⟩ : ∃ pl, pieces.length = pl := ⟨_, rfl⟩
  rw [hpl] at hP ⊢
  have hB : Owns w ((((((w.alloc (.cells #[.int .i64 d, .slice GA ng Gc, .int .i64 gl] 24)).alloc (.cells #[.int .i64 n] 3)).alloc (.cells #[.slice PA pl cp] 34)).alloc (.cells #[.string ⟨#[]⟩] 9)).alloc (.cells #[.int .i64 0] 3)).alloc (.cells #[.int .i64 0] 27)) [⟨.slice (some ⟨w.heap.size, 0, none⟩) 3 3, 24, 1, 3, [.int .i64 d, .slice GA ng Gc, .int .i64 gl]⟩, ⟨.slice (some ⟨(w.alloc (.cells #[.int .i64 d, .slice GA ng Gc, .int .i64 gl] 24)).heap.size, 0, none⟩) 1 1, 3, 1, 1, [.int .i64 n]⟩, ⟨.slice (some ⟨((w.alloc (.cells #[.int .i64 d, .slice GA ng Gc, .int .i64 gl] 24)).alloc (.cells #[.int .i64 n] 3)).heap.size, 0, none⟩) 1 1, 34, 1, 1, [.slice PA pl cp]⟩, ⟨.slice (some ⟨(((w.alloc (.cells #[.int .i64 d, .slice GA ng Gc, .int .i64 gl] 24)).alloc (.cells #[.int .i64 n] 3)).alloc (.cells #[.slice PA pl cp] 34)).heap.size, 0, none⟩) 1 1, 9, 1, 1, [.string ⟨#[]⟩]⟩, ⟨.slice (some ⟨((((w.alloc (.cells #[.int .i64 d, .slice GA ng Gc, .int .i64 gl] 24)).alloc (.cells #[.int .i64 n] 3)).alloc (.cells #[.slice PA pl cp] 34)).alloc (.cells #[.string ⟨#[]⟩] 9)).heap.size, 0, none⟩) 1 1, 3, 1, 1, [.int .i64 0]⟩, ⟨.slice (some ⟨(((((w.alloc (.cells #[.int .i64 d, .slice GA ng Gc, .int .i64 gl] 24)).alloc (.cells #[.int .i64 n] 3)).alloc (.cells #[.slice PA pl cp] 34)).alloc (.cells #[.string ⟨#[]⟩] 9)).alloc (.cells #[.int .i64 0] 3)).heap.size, 0, none⟩) 1 1, 27, 1, 1, [.int .i64 0]⟩] := (((((((Owns.start w (L := [no, no, no, no, no, no]) (by intro r hr; simp at hr; subst hr; exact ⟨rfl, rfl, rfl⟩)).new 0 #[.int .i64 d, .slice GA ng Gc, .int .i64 gl] 24 (by simp [maxLen])).new 1 #[.int .i64 n] 3 (by simp [maxLen])).new 2 #[.slice PA pl cp] 34 (by simp [maxLen])).new 3 #[.string ⟨#[]⟩] 9 (by simp [maxLen])).new 4 #[.int .i64 0] 3 (by simp [maxLen])).new 5 #[.int .i64 0] 27 (by simp [maxLen]))
  simp only [World.size_alloc] at hB
  have hgv := lGiven_any d gl n m gs pieces _ PA cp _ (Rs.ext (Rs.ext RI.ext) _ _ _ _ hB.ext hG) (by rw [hpl]; exact Rs.ext RS.ext _ _ _ _ hB.ext hP)
  rw [hpl] at hgv
  have HGV := Lib.hid hgv
  have HG := Lib.hid hG
  have HP := Lib.hid (And.intro hP (And.intro hpl hpm))
  have HT := Lib.hid hT
  have HB := Lib.hid hB
  have HN := Lib.hid hN
  clear hG hP hT hB hN hng hpl hgv hpm
  refine (callsIn_wide (n := 40)).1 ?_
  refine callsIn_of_wp_marks Tryd.func15 rfl trivial ?_ rfl
  simp only [Tryd.ntmps15, List.size_toArray, List.length_cons, List.length_nil, Nat.reduceAdd, Nat.reduceSub, Array.replicate_succ, Array.replicate_zero, List.push_toArray, List.append_toArray, List.nil_append, List.cons_append]
  gi_wp2_with fail
  refine ⟨trivial, (callsIn_wide.2 HGV.out).mono ?_⟩
  clear HGV
  rintro e w2 ⟨rfl, hx2⟩
  obtain ⟨C, hC⟩ : ∃ C, w.heap.size = C := ⟨_, rfl⟩
  obtain ⟨NB, hNB⟩ : ∃ B, C + 1 = B := ⟨_, rfl⟩
  obtain ⟨PB, hPB⟩ : ∃ B, NB + 1 = B := ⟨_, rfl⟩
  obtain ⟨SR, hSR⟩ : ∃ B, PB + 1 = B := ⟨_, rfl⟩
  obtain ⟨BR, hBR⟩ : ∃ B, SR + 1 = B := ⟨_, rfl⟩
  obtain ⟨ER, hER⟩ : ∃ B, BR + 1 = B := ⟨_, rfl⟩
  rw [hC, hNB, hPB, hSR, hBR, hER] at HB
  rw [hC, hNB, hPB, hSR, hBR, hER]
  have HSZ := Lib.hid (And.intro hC (And.intro hNB (And.intro hPB (And.intro hSR (And.intro hBR hER)))))
  have hHBS := HB.out.ext.size
  have HB2 := Lib.hid (HB.out.next hx2)
  have hw1 := Nat.lt_of_lt_of_le ((HB.out.row 5 rfl).lt ER rfl).2 hx2.size
  have HER2 := Lib.hid hw1
  clear hx2 HB hC hNB hPB hSR hBR hER hHBS hw1
  obtain ⟨er, her⟩ : ∃ er, Lo.givE d gl gs n m pieces = er := ⟨_, rfl⟩
  rw [her]
  have HGE := Lib.hid her
  clear her
  by_cases h0 : er = 0
  case neg =>
    have hne : (er == 0) = false := by rw [beq_eq_false_iff_ne]; exact h0
    have hne2 : (er != 0) = true := by rw [bne_iff_ne]; exact h0
    have HR : Hid (Lo.locR d gl gs n m pieces wrong = ([], 0, er)) := Lib.hid (by rw [Lo.locR_bad (by rw [HGE.out]; exact h0), HGE.out])
    clear h0
    have hS := (((HB2.out.store 3 rfl 0 (.string ⟨#[]⟩)).store 4 rfl 0 (.int .i64 0)).store 5 rfl 0 (.int .i64 er))
    have b30 : w2.cell? ⟨SR, 0, none⟩ = some (.string ⟨#[]⟩) := HB2.out.cell 3 rfl 0 rfl
    have b40 : w2.cell? ⟨BR, 0, none⟩ = some (.int .i64 0) := HB2.out.cell 4 rfl 0 rfl
    have b50 : w2.cell? ⟨ER, 0, none⟩ = some (.int .i64 0) := HB2.out.cell 5 rfl 0 rfl
    have f3 : w2.frozen? ⟨SR, 0, none⟩ = false := HB2.out.frozen 3 rfl 0
    have f4 : w2.frozen? ⟨BR, 0, none⟩ = false := HB2.out.frozen 4 rfl 0
    have f5 : w2.frozen? ⟨ER, 0, none⟩ = false := HB2.out.frozen 5 rfl 0
    have nSRBR : SR ≠ BR := by have := HSZ.out; omega
    have nSRER : SR ≠ ER := by have := HSZ.out; omega
    have nBRSR : BR ≠ SR := by have := HSZ.out; omega
    have nBRER : BR ≠ ER := by have := HSZ.out; omega
    have nERSR : ER ≠ SR := by have := HSZ.out; omega
    have nERBR : ER ≠ BR := by have := HSZ.out; omega
    have HS := Lib.hid hS
    clear hS
    gi_wp2_with fail
    try rw [Exit.noGoto_ret]
    have r3 := HS.out.cell 3 rfl 0 rfl
    have r4 := HS.out.cell 4 rfl 0 rfl
    have r5 := HS.out.cell 5 rfl 0 rfl
    refine ⟨_, results_cells3L (v1 := .string ⟨#[]⟩) (v2 := .int .i64 0) (v3 := .int .i64 er) rfl rfl rfl rfl ?_ ?_ ?_, ?_⟩
    · go_simp
    · go_simp
    · go_simp
    exact ⟨by rw [HR.out]; rfl, HS.out.ext⟩
  case pos =>
    subst h0
    have HCR := Lib.hid (lCorrects_any d gl gs m wrong _ w2 (HT.out.ext HB2.out.ext) (Rs.ext (Rs.ext RI.ext) _ _ _ _ HB2.out.ext HG.out) HN.out)
    have b00 : w2.cell? ⟨C, 0, none⟩ = some (.int .i64 d) := HB2.out.cell 0 rfl 0 rfl
    have b01 : w2.cell? ⟨C, 1, none⟩ = some (.slice GA ng Gc) := HB2.out.cell 0 rfl 1 rfl
    have b02 : w2.cell? ⟨C, 2, none⟩ = some (.int .i64 gl) := HB2.out.cell 0 rfl 2 rfl
    gi_wp2_with fail
    refine ⟨trivial, (callsIn_wide.2 HCR.out).mono ?_⟩
    clear HCR
    rintro e w3 ⟨rfl, hx3⟩
    have HER3 := Lib.hid (Nat.lt_of_lt_of_le HER2.out hx3.size)
    replace HB2 := Lib.hid (HB2.out.next hx3)
    clear b00 b01 b02 hx3
    obtain ⟨ce, hce⟩ : ∃ ce, Lo.corE d gl gs m wrong = ce := ⟨_, rfl⟩
    obtain ⟨cb, hcb⟩ : ∃ cb, Lo.corB d gl gs m wrong = cb := ⟨_, rfl⟩
    rw [hce, hcb]
    have HCE := Lib.hid (And.intro hce hcb)
    clear hce hcb
    by_cases h1 : ce = 0
    case neg =>
      have hne : (ce == 0) = false := by rw [beq_eq_false_iff_ne]; exact h1
      have hne2 : (ce != 0) = true := by rw [bne_iff_ne]; exact h1
      have HR : Hid (Lo.locR d gl gs n m pieces wrong = ([], 0, ce)) := Lib.hid (by rw [Lo.locR_cor HGE.out (by rw [HCE.out.1]; exact h1), HCE.out.1])
      clear h1
      have hS := (((HB2.out.store 3 rfl 0 (.string ⟨#[]⟩)).store 4 rfl 0 (.int .i64 0)).store 5 rfl 0 (.int .i64 ce))
      have b30 : w3.cell? ⟨SR, 0, none⟩ = some (.string ⟨#[]⟩) := HB2.out.cell 3 rfl 0 rfl
      have b40 : w3.cell? ⟨BR, 0, none⟩ = some (.int .i64 0) := HB2.out.cell 4 rfl 0 rfl
      have b50 : w3.cell? ⟨ER, 0, none⟩ = some (.int .i64 0) := HB2.out.cell 5 rfl 0 rfl
      have f3 : w3.frozen? ⟨SR, 0, none⟩ = false := HB2.out.frozen 3 rfl 0
      have f4 : w3.frozen? ⟨BR, 0, none⟩ = false := HB2.out.frozen 4 rfl 0
      have f5 : w3.frozen? ⟨ER, 0, none⟩ = false := HB2.out.frozen 5 rfl 0
      have nSRBR : SR ≠ BR := by have := HSZ.out; omega
      have nSRER : SR ≠ ER := by have := HSZ.out; omega
      have nBRSR : BR ≠ SR := by have := HSZ.out; omega
      have nBRER : BR ≠ ER := by have := HSZ.out; omega
      have nERSR : ER ≠ SR := by have := HSZ.out; omega
      have nERBR : ER ≠ BR := by have := HSZ.out; omega
      have HS := Lib.hid hS
      clear hS
      gi_wp2_with fail
      try rw [Exit.noGoto_ret]
      have r3 := HS.out.cell 3 rfl 0 rfl
      have r4 := HS.out.cell 4 rfl 0 rfl
      have r5 := HS.out.cell 5 rfl 0 rfl
      refine ⟨_, results_cells3L (v1 := .string ⟨#[]⟩) (v2 := .int .i64 0) (v3 := .int .i64 ce) rfl rfl rfl rfl ?_ ?_ ?_, ?_⟩
      · go_simp
      · go_simp
      · go_simp
      exact ⟨by rw [HR.out]; rfl, HS.out.ext⟩
    case pos =>
      subst h1
      cases cb with
      | false =>
        have HR : Hid (Lo.locR d gl gs n m pieces wrong = ([], 0, 4)) := Lib.hid (Lo.locR_state HGE.out HCE.out.1 HCE.out.2)
        have hS := (((HB2.out.store 3 rfl 0 (.string ⟨#[]⟩)).store 4 rfl 0 (.int .i64 0)).store 5 rfl 0 (.int .i64 4))
        have b30 : w3.cell? ⟨SR, 0, none⟩ = some (.string ⟨#[]⟩) := HB2.out.cell 3 rfl 0 rfl
        have b40 : w3.cell? ⟨BR, 0, none⟩ = some (.int .i64 0) := HB2.out.cell 4 rfl 0 rfl
        have b50 : w3.cell? ⟨ER, 0, none⟩ = some (.int .i64 0) := HB2.out.cell 5 rfl 0 rfl
        have f3 : w3.frozen? ⟨SR, 0, none⟩ = false := HB2.out.frozen 3 rfl 0
        have f4 : w3.frozen? ⟨BR, 0, none⟩ = false := HB2.out.frozen 4 rfl 0
        have f5 : w3.frozen? ⟨ER, 0, none⟩ = false := HB2.out.frozen 5 rfl 0
        have nSRBR : SR ≠ BR := by have := HSZ.out; omega
        have nSRER : SR ≠ ER := by have := HSZ.out; omega
        have nBRSR : BR ≠ SR := by have := HSZ.out; omega
        have nBRER : BR ≠ ER := by have := HSZ.out; omega
        have nERSR : ER ≠ SR := by have := HSZ.out; omega
        have nERBR : ER ≠ BR := by have := HSZ.out; omega
        have HS := Lib.hid hS
        clear hS
        gi_wp2_with fail
        try rw [Exit.noGoto_ret]
        have r3 := HS.out.cell 3 rfl 0 rfl
        have r4 := HS.out.cell 4 rfl 0 rfl
        have r5 := HS.out.cell 5 rfl 0 rfl
        refine ⟨_, results_cells3L (v1 := .string ⟨#[]⟩) (v2 := .int .i64 0) (v3 := .int .i64 4) rfl rfl rfl rfl ?_ ?_ ?_, ?_⟩
        · go_simp
        · go_simp
        · go_simp
        exact ⟨by rw [HR.out]; rfl, HS.out.ext⟩
      | true =>
        obtain ⟨K, rfl, hK2⟩ := Lo.cor_fine HCE.out.1
        obtain ⟨N, M, rfl, rfl, hwl⟩ := Lo.well HGE.out
        have hck := Cd.check_ok hwl.chk
        have hR14 := HN.out hwl.chk
        obtain ⟨rn, hrn⟩ : ∃ rn, (Cd.rowsOf d gs gl).length = rn := ⟨_, rfl⟩
        have hMrn := hwl.set
        rw [hrn] at hR14 hMrn
        have HW := Lib.hid (And.intro hwl (And.intro hck (And.intro hrn (And.intro hMrn hR14))))
        clear hwl hck hR14 hrn hMrn
        gi_wp2_with fail
        refine ⟨trivial, (callsIn_wide.2 (without_any (M : Int) (K : Int) w3)).mono ?_⟩
        rintro e w8 ⟨rfl, rfl⟩
        gi_wp2_with fail
        obtain ⟨W2, hW2⟩ : ∃ W2, (w3.alloc (.cells #[.int .i64 (M : Nat)] 3)).alloc (.cells #[.int .i64 (K : Nat)] 3) = W2 := ⟨_, rfl⟩
        have hx2 : Ext w3 W2 := by subst hW2; exact ((Ext.refl w3).alloc _).alloc _
        have hs2 : W2.heap.size = w3.heap.size + 2 := by subst hW2; simp
        have q1 : W2.cell? ⟨w3.heap.size, 0, none⟩ = some (.int .i64 (M : Nat)) := by subst hW2; go_simp
        have q2 : W2.cell? ⟨w3.heap.size + 1, 0, none⟩ = some (.int .i64 (K : Nat)) := by subst hW2; go_simp
        rw [hW2]
        have HX2 := Lib.hid hx2
        have hseq := without1_seq 39 w3.heap.size (w3.heap.size + 1) M rn K W2 HW.out.2.2.2.1 HW.out.2.2.2.2 q1 q2
        have hwz := HB2.out.ext.size
        have hsr : SR < w3.heap.size ∧ BR < w3.heap.size ∧ ER < w3.heap.size := by have := HSZ.out; have := HER3.out; omega
        clear hW2 hx2 q1 q2
        refine wpIn_rangeV rfl (by decide) (gf := 55) (lb := #[.pointer (some ⟨w3.heap.size, 0, none⟩), .pointer (some ⟨w3.heap.size + 1, 0, none⟩)]) rfl trivial (enters_of Tryd.func55 (by kernel_rfl) rfl) hseq K2.trans (fun W l o o' hl ho hc => ⟨by simp [World.putObj], fun a v e => cell_kept e (grownBy_putObj' W l o') (fun r er => by cases er; exact ⟨_, ho, hc⟩)⟩) (fun x W l o o' hl hv ho hc => hv) (fun _ => rfl)
          (fun pre W => (∀ x ∈ pre, Lo.decO d gl gs N pieces x.1 = none) ∧ Below W2.heap.size W2 W)
          (fun c pre W => ∃ (y : Nat × Nat) (s : List UInt8), (c = .ret ∧ (∃ pre', pre = pre' ++ [y] ∧ ∀ x ∈ pre', Lo.decO d gl gs N pieces x.1 = none) ∧ Lo.decO d gl gs N pieces y.1 = some s) ∧ W.cell? ⟨SR, 0, none⟩ = some (.string (sb s)) ∧ W.cell? ⟨BR, 0, none⟩ = some (.int .i64 (y.2 : Nat)) ∧ W.cell? ⟨ER, 0, none⟩ = some (.int .i64 0) ∧ Below w.heap.size w W)
          (fun _ _ _ => trivial)
          (OwnFrom.and (ownFrom_pure _ _) (ownFrom_below (Nat.le_refl _) (Nat.le_refl _)))
          (fun c s W W' row hs hg hr => by
            obtain ⟨y, s1, h1, h2, h3, h4, h5⟩ := hs
            exact ⟨y, s1, h1, cell_kept h2 hg (fun r e => (hr r e).2), cell_kept h3 hg (fun r e => (hr r e).2), cell_kept h4 hg (fun r e => (hr r e).2), h5.grown hg h5.size (fun k e => Nat.le_trans (by omega) (hr k e).1)⟩)
          ⟨by simp, Below.refl _ _⟩
          (fun x => { tmps := #[.agg #[.int .i64 d, .slice GA ng Gc, .int .i64 gl], .int .i64 (N : Nat), .int .i64 (M : Nat), .slice PA pl cp, .int .i64 (K : Nat), .pointer (some ⟨C, 0, none⟩), .pointer (some ⟨NB, 0, none⟩), undef, .pointer (some ⟨PB, 0, none⟩), undef, .pointer (some ⟨SR, 0, none⟩), .pointer (some ⟨BR, 0, none⟩), .pointer (some ⟨ER, 0, none⟩), .int .i64 0, .bool true, .int .i64 0, .int .i64 (x.1 : Nat), .int .i64 (x.2 : Nat), undef, undef, .agg #[.int .i64 d, .slice GA ng Gc, .int .i64 gl], .int .i64 (N : Nat), .int .i64 (M : Nat), .slice PA pl cp, .int .i64 0, .int .i64 0, .bool false, undef, .tuple #[.bool true, .int .i64 0], .agg #[.int .i64 d, .slice GA ng Gc, .int .i64 gl], .int .i64 (M : Nat), .int .i64 (K : Nat), .tuple #[.bool true, .int .i64 0], .bool true, .int .i64 0, .int .i64 0, .bool false, .bool false, .bool true, .bool false, .bool false, undef, undef, undef, .int .i64 (M : Nat), .int .i64 (K : Nat), .func (.func 55) #[] #[.pointer (some ⟨w3.heap.size, 0, none⟩), .pointer (some ⟨w3.heap.size + 1, 0, none⟩)], .int .i64 (x.1 : Nat), .int .i64 (x.2 : Nat), undef, undef, undef, undef, undef, undef, undef, undef, undef, undef, undef, undef], defers := [] }) ?assign ?body ?done ?stop
        case assign =>
          intro l x W K hK
          unfold encP
          gi_wp2
          exact hK
        case body =>
          rintro l pre ⟨x1, tt⟩ W ⟨hpre, hB⟩ hV _
          have hX : Ext w3 W := HX2.out.trans hB
          have hOW := HB2.out.next hX
          have hdc := cDecode_any d gl (N : Int) (x1 : Int) gs pieces _ PA cp W (HT.out.ext hOW.ext) (Rs.ext (Rs.ext RI.ext) _ _ _ _ hOW.ext HG.out) (Rs.ext RS.ext _ _ _ _ hOW.ext (by rw [HP.out.2.1]; exact HP.out.1)) HP.out.2.2
          rw [HP.out.2.1] at hdc
          have HDC := Lib.hid hdc
          have b00 : W.cell? ⟨C, 0, none⟩ = some (.int .i64 d) := hOW.cell 0 rfl 0 rfl
          have b01 : W.cell? ⟨C, 1, none⟩ = some (.slice GA ng Gc) := hOW.cell 0 rfl 1 rfl
          have b02 : W.cell? ⟨C, 2, none⟩ = some (.int .i64 gl) := hOW.cell 0 rfl 2 rfl
          have b10 : W.cell? ⟨NB, 0, none⟩ = some (.int .i64 N) := hOW.cell 1 rfl 0 rfl
          have b20 : W.cell? ⟨PB, 0, none⟩ = some (.slice PA pl cp) := hOW.cell 2 rfl 0 rfl
          have HI := Lib.hid (And.intro hpre (And.intro hB hOW))
          clear hpre hB hV hX hOW hdc
          gi_wp2_with fail
          refine ⟨trivial, (CallsIn.inRound l (callsIn_wide.2 HDC.out)).mono ?_⟩
          rintro e w9 ⟨rfl, hx9⟩
          have HX9 := Lib.hid hx9
          obtain ⟨de, hde⟩ : ∃ de, Cd.decE d gl gs (N : Int) (x1 : Int) pieces = de := ⟨_, rfl⟩
          obtain ⟨ds, hds⟩ : ∃ ds, Cd.decS d gl gs (N : Int) (x1 : Int) pieces = ds := ⟨_, rfl⟩
          rw [hde, hds]
          have HD := Lib.hid (And.intro hde hds)
          clear b00 b01 b02 b10 b20 hde hds HDC
          by_cases hd0 : de = 0
          · have hdo : Lo.decO d gl gs N pieces x1 = some ds := by unfold Lo.decO; rw [HD.out.1, HD.out.2, if_pos hd0]
            subst hd0
            have hO9 := HI.out.2.2.next hx9
            have hS := (((hO9.store 3 rfl 0 (.string (sb ds))).store 4 rfl 0 (.int .i64 (tt : Nat))).store 5 rfl 0 (.int .i64 0))
            have HS := Lib.hid (And.intro hS hdo)
            have hz : ((0 : Int) == 0) = true := rfl
            have b30 : w9.cell? ⟨SR, 0, none⟩ = some (.string ⟨#[]⟩) := hO9.cell 3 rfl 0 rfl
            have b40 : w9.cell? ⟨BR, 0, none⟩ = some (.int .i64 0) := hO9.cell 4 rfl 0 rfl
            have b50 : w9.cell? ⟨ER, 0, none⟩ = some (.int .i64 0) := hO9.cell 5 rfl 0 rfl
            have f3 : w9.frozen? ⟨SR, 0, none⟩ = false := hO9.frozen 3 rfl 0
            have f4 : w9.frozen? ⟨BR, 0, none⟩ = false := hO9.frozen 4 rfl 0
            have f5 : w9.frozen? ⟨ER, 0, none⟩ = false := hO9.frozen 5 rfl 0
            have nSRBR : SR ≠ BR := by have := HSZ.out; omega
            have nSRER : SR ≠ ER := by have := HSZ.out; omega
            have nBRSR : BR ≠ SR := by have := HSZ.out; omega
            have nBRER : BR ≠ ER := by have := HSZ.out; omega
            have nERSR : ER ≠ SR := by have := HSZ.out; omega
            have nERBR : ER ≠ BR := by have := HSZ.out; omega
            clear hx9 hO9 hS hdo
            gi_wp2_with fail
            exact ⟨HX9.out.keepsOthers.trans (((KeepsOthers.setCell _ _ _).trans (KeepsOthers.setCell _ _ _)).trans (KeepsOthers.setCell _ _ _)), (x1, tt), ds, ⟨rfl, ⟨pre, rfl, HI.out.1⟩, HS.out.2⟩, HS.out.1.cell 3 rfl 0 rfl, HS.out.1.cell 4 rfl 0 rfl, HS.out.1.cell 5 rfl 0 rfl, HS.out.1.ext⟩
          · have hdo : Lo.decO d gl gs N pieces x1 = none := by unfold Lo.decO; rw [HD.out.1, if_neg hd0]
            have HN0 := Lib.hid hdo
            have hz : (de == 0) = false := by rw [beq_eq_false_iff_ne]; exact hd0
            clear hx9 hdo hd0
            gi_wp2_with fail
            exact ⟨HX9.out.keepsOthers, K2.of_ext HX9.out, fun y hy => by
              rcases List.mem_append.1 hy with hy | hy
              · exact HI.out.1 y hy
              · rw [List.mem_singleton.1 hy]; exact HN0.out, HI.out.2.1.trans (Below.mono HX9.out HI.out.2.1.size)⟩
        case done =>
          rintro D xs W hD rfl ⟨hall, hB⟩ hK
          have hOW := HB2.out.next (HX2.out.trans hB)
          have HR : Hid (Lo.locR d gl gs (N : Int) (M : Int) pieces (K : Int) = ([], 0, 17)) := Lib.hid (Lo.locR_none HGE.out HCE.out.1 HCE.out.2 (by
            rw [Int.toNat_natCast, Int.toNat_natCast, Int.toNat_natCast, HW.out.2.2.1]
            exact Lo.locP_miss fun z hz => hall (M - z, z) (List.mem_map.2 ⟨z, hz, rfl⟩)))
          have HS := Lib.hid (((hOW.store 3 rfl 0 (.string ⟨#[]⟩)).store 4 rfl 0 (.int .i64 0)).store 5 rfl 0 (.int .i64 17))
          have HKK := Lib.hid hK
          have hDl := (Array.getElem?_eq_some_iff.1 hK).1
          have b30 : W.cell? ⟨SR, 0, none⟩ = some (.string ⟨#[]⟩) := hOW.cell 3 rfl 0 rfl
          have b40 : W.cell? ⟨BR, 0, none⟩ = some (.int .i64 0) := hOW.cell 4 rfl 0 rfl
          have b50 : W.cell? ⟨ER, 0, none⟩ = some (.int .i64 0) := hOW.cell 5 rfl 0 rfl
          have f3 : W.frozen? ⟨SR, 0, none⟩ = false := hOW.frozen 3 rfl 0
          have f4 : W.frozen? ⟨BR, 0, none⟩ = false := hOW.frozen 4 rfl 0
          have f5 : W.frozen? ⟨ER, 0, none⟩ = false := hOW.frozen 5 rfl 0
          have nSRBR : SR ≠ BR := by have := HSZ.out; omega
          have nSRER : SR ≠ ER := by have := HSZ.out; omega
          have nBRSR : BR ≠ SR := by have := HSZ.out; omega
          have nBRER : BR ≠ ER := by have := HSZ.out; omega
          have nERSR : ER ≠ SR := by have := HSZ.out; omega
          have nERBR : ER ≠ BR := by have := HSZ.out; omega
          clear hOW hB hall hK
          gi_wp2_with fail
          try rw [Exit.noGoto_ret]
          have hko : KeepsOthers W (((W.setCell ⟨SR, 0, none⟩ (.string ⟨#[]⟩)).setCell ⟨BR, 0, none⟩ (.int .i64 0)).setCell ⟨ER, 0, none⟩ (.int .i64 17)) := ((KeepsOthers.setCell _ _ _).trans (KeepsOthers.setCell _ _ _)).trans (KeepsOthers.setCell _ _ _)
          have hMk : MarksOk w3.heap.size (D + 1) (((W.setCell ⟨SR, 0, none⟩ (.string ⟨#[]⟩)).setCell ⟨BR, 0, none⟩ (.int .i64 0)).setCell ⟨ER, 0, none⟩ (.int .i64 17)) [{ target := .collected D, args := #[] }] := ⟨⟨D, rfl, by omega, Nat.lt_succ_self _, hko.same D _ HKK.out rfl, fun d' hd' => by cases hd'⟩, trivial⟩
          refine leaves_marks hMk fun w' hw' => ?_
          have r3 := (Below.cell hw' (p := ⟨SR, 0, none⟩) hsr.1).trans (HS.out.cell 3 rfl 0 rfl)
          have r4 := (Below.cell hw' (p := ⟨BR, 0, none⟩) hsr.2.1).trans (HS.out.cell 4 rfl 0 rfl)
          have r5 := (Below.cell hw' (p := ⟨ER, 0, none⟩) hsr.2.2).trans (HS.out.cell 5 rfl 0 rfl)
          refine ⟨_, results_cells3L (v1 := .string ⟨#[]⟩) (v2 := .int .i64 0) (v3 := .int .i64 17) rfl rfl rfl rfl ?_ ?_ ?_, ?_⟩
          · go_simp
          · go_simp
          · go_simp
          exact ⟨by rw [HR.out]; rfl, HS.out.ext.below.trans (Below.mono hw' hwz)⟩
        case stop =>
          rintro D c pre W hD hS ⟨y, s, ⟨rfl, ⟨pre', hpp, hpre⟩, hdy⟩, h3, h4, h5, hBw⟩ hK
          have hpx : pre'.map (·.2) ++ [y.2] <+: Lo.parts M rn K ∧ (∀ x ∈ pre' ++ [y], x.1 = M - x.2) := by
            have h := hS.map (·.2)
            rw [hpp, List.map_append] at h
            unfold Lo.pairs at h
            rw [List.map_map] at h
            have e : (fun x : Nat × Nat => x.2) ∘ (fun t => (M - t, t)) = id := rfl
            rw [e, List.map_id] at h
            refine ⟨h, fun x hx => ?_⟩
            rw [← hpp] at hx
            obtain ⟨t, _, rfl⟩ := List.mem_map.1 (hS.subset hx)
            rfl
          have HR : Hid (Lo.locR d gl gs (N : Int) (M : Int) pieces (K : Int) = (s, ((y.2 : Nat) : Int), 0)) := Lib.hid (Lo.locR_some HGE.out HCE.out.1 HCE.out.2 (by
            rw [Int.toNat_natCast, Int.toNat_natCast, Int.toNat_natCast, HW.out.2.2.1]
            exact Lo.locP_hit hpx.1 (fun z hz => by
              obtain ⟨q, hq, rfl⟩ := List.mem_map.1 hz
              rw [← hpx.2 q (List.mem_append_left _ hq)]
              exact hpre q hq) (by rw [← hpx.2 y (by simp)]; exact hdy)))
          have HE := Lib.hid (And.intro h3 (And.intro h4 (And.intro h5 (And.intro hBw hK))))
          have hDl := (Array.getElem?_eq_some_iff.1 hK).1
          clear hS hpp hpre hdy h3 h4 h5 hBw hK hpx
          gi_wp2_with fail
          try rw [Exit.noGoto_ret]
          have hMk : MarksOk w3.heap.size (D + 1) W [{ target := .collected D, args := #[] }] := ⟨⟨D, rfl, by omega, Nat.lt_succ_self _, HE.out.2.2.2.2, fun d' hd' => by cases hd'⟩, trivial⟩
          refine leaves_marks hMk fun w' hw' => ?_
          have r3 := (Below.cell hw' (p := ⟨SR, 0, none⟩) hsr.1).trans HE.out.1
          have r4 := (Below.cell hw' (p := ⟨BR, 0, none⟩) hsr.2.1).trans HE.out.2.1
          have r5 := (Below.cell hw' (p := ⟨ER, 0, none⟩) hsr.2.2).trans HE.out.2.2.1
          refine ⟨_, results_cells3L (v1 := .string (sb s)) (v2 := .int .i64 (y.2 : Nat)) (v3 := .int .i64 0) rfl rfl rfl rfl ?_ ?_ ?_, ?_⟩
          · go_simp
          · go_simp
          · go_simp
          exact ⟨by rw [HR.out], HE.out.2.2.2.1.trans (Below.mono hw' hwz)⟩
end Go.Proofs.YtggfkpalkdkbdaaDoor

/- THE WALKS over Few (quietusref09) and count (quietuslaw09). -/
namespace Lo
/-- What Few lets by. -/
structure FewOk (d gl : Int) (gs : List (List Int)) (most n : Int) (pl : Nat) : Prop where
  groups : gs.length ≤ 30
  pieces : pl ≤ 40
  bytes : n ≤ 60
  data : d ≤ 16
  globals : gl ≤ 8
  rows : Cd.check d gs gl = 0 → ((Cd.rowsOf d gs gl).length : Int) ≤ most
end Lo
namespace Go.Proofs.YtggfkpalkdkbdaaDoor
open Go.RowKit
/-- What Few returns. -/
def FewOut (d gl : Int) (gs : List (List Int)) (most n : Int) (pl : Nat) (w : World) (e : Ending) (w' : World) : Prop := ∃ b, e = .returned (.bool b) ∧ (b = true → Lo.FewOk d gl gs most n pl) ∧ Ext w w'
set_option maxHeartbeats 8000000 in
set_option maxRecDepth 100000 in
theorem lFew_any (d gl most n : Int) (gs : List (List Int)) (G : Value) (PA : Option Addr) (pl cp : Nat) (w : World) (hG : Rs (Rs RI) w G gs) (hgl : gs.length ≤ 4611686018427387904) :
    Calls Tryd.prog 9 #[.agg #[.int .i64 d, G, .int .i64 gl], .int .i64 most, .int .i64 n, .slice PA pl cp] w fun e w' => FewOut d gl gs most n pl w e w' := by
  have HGN := Lib.hid hgl
  clear hgl
  obtain ⟨GA, Gc, rfl, _⟩ := hG.form
  obtain ⟨ng, hng⟩ : ∃ ng, gs.length = ng := ⟨_, rfl⟩
  rw [hng] at hG ⊢
  have hB : Owns w (w.alloc (.cells #[.int .i64 d, .slice GA ng Gc, .int .i64 gl] 24)) [⟨.slice (some ⟨w.heap.size, 0, none⟩) 3 3, 24, 1, 3, [.int .i64 d, .slice GA ng Gc, .int .i64 gl]⟩] := (Owns.start w (L := [no]) (by intro r hr; simp at hr; subst hr; exact ⟨rfl, rfl, rfl⟩)).new 0 #[.int .i64 d, .slice GA ng Gc, .int .i64 gl] 24 (by simp [maxLen])
  have HG := Lib.hid hG
  have HB := Lib.hid hB
  have HNG := Lib.hid hng
  clear hG hB hng
  go_enter Tryd.func9, Tryd.ntmps9
  go_upto_region 1 with fail
  obtain ⟨C, hC⟩ : ∃ C, w.heap.size = C := ⟨_, rfl⟩
  rw [hC] at HB ⊢
  obtain ⟨w1, hw1⟩ : ∃ x, w.alloc (.cells #[.int .i64 d, .slice GA ng Gc, .int .i64 gl] 24) = x := ⟨_, rfl⟩
  rw [hw1] at HB ⊢
  clear hw1 hC
  have b0 : w1.cell? ⟨C, 0, none⟩ = some (.int .i64 d) := HB.out.cell 0 rfl 0 rfl
  have b1 : w1.cell? ⟨C, 1, none⟩ = some (.slice GA ng Gc) := HB.out.cell 0 rfl 1 rfl
  have b2 : w1.cell? ⟨C, 2, none⟩ = some (.int .i64 gl) := HB.out.cell 0 rfl 2 rfl
  obtain ⟨z, hz⟩ : ∃ z, wrap64 (wrap64 (d + (ng : Int)) + gl) = z := ⟨_, rfl⟩
  have HZ := Lib.hid hz
  by_cases h1 : (30 : Int) < (ng : Int)
  · clear hz
    go_wp2_with fail
    go_ret
    exact ⟨false, rfl, fun h => (by cases h), HB.out.ext⟩
  by_cases h2 : (40 : Int) < (pl : Int)
  · clear hz
    go_wp2_with fail
    go_ret
    exact ⟨false, rfl, fun h => (by cases h), HB.out.ext⟩
  by_cases h3 : 60 < n
  · clear hz
    go_wp2_with fail
    go_ret
    exact ⟨false, rfl, fun h => (by cases h), HB.out.ext⟩
  by_cases h4 : 16 < d
  · clear hz
    go_wp2_with fail
    go_ret
    exact ⟨false, rfl, fun h => (by cases h), HB.out.ext⟩
  by_cases h5 : 8 < gl
  · clear hz
    go_wp2_with fail
    go_ret
    exact ⟨false, rfl, fun h => (by cases h), HB.out.ext⟩
  by_cases h6 : most < z
  · go_wp2_with fail
    go_ret
    exact ⟨false, rfl, fun h => (by cases h), HB.out.ext⟩
  have HF : Hid (Lo.FewOk d gl gs most n pl) := Lib.hid ⟨by rw [HNG.out]; omega, by omega, by omega, by omega, by omega, fun h => by
    have h7 := Cd.rowsOf_len h
    have h8 := Cd.check_ok h
    rw [HNG.out] at h7
    have h9 := HZ.out
    unfold wrap64 at h9
    omega⟩
  go_wp2_with fail
  go_loopw [9] (fun vk wr => ∃ k : Nat, k ≤ ng ∧ vk = .int .i64 (k : Nat) ∧ wr = w1) (fun vk _ => ng - (intOf vk).toNat)
  case atStart => exact ⟨0, Nat.zero_le _, rfl, rfl⟩
  case round =>
    obtain ⟨k, hk2, rfl, rfl⟩ := hrel
    by_cases hlt : k < ng
    · obtain ⟨ad, u, rfl, hc, hu⟩ := (Rs.ext (Rs.ext RI.ext) _ _ _ _ HB.out.ext HG.out).at (i := k) (by rw [HNG.out]; exact hlt)
      obtain ⟨ga, gc, rfl, _⟩ := Rs.form hu
      obtain ⟨gn, hgn⟩ : ∃ gn, (gs[k]'(by rw [HNG.out]; exact hlt)).length = gn := ⟨_, rfl⟩
      rw [hgn] at hc
      clear hu hgn
      by_cases hgl2 : (30 : Int) < (gn : Int)
      · go_wp2_with fail
        go_ret
        exact ⟨false, rfl, fun h => (by cases h), HB.out.ext⟩
      · go_wp2_with fail
        go_roundw
        case rel => exact ⟨k + 1, by omega, by go_num, by trivial⟩
        case measure => simp [intOf]; omega
    · obtain rfl : k = ng := by omega
      go_wp2_with fail
      go_ret
      exact ⟨true, rfl, fun _ => HF.out, HB.out.ext⟩
set_option maxRecDepth 100000 in
/-- How many elements a number's set has. -/
theorem lCount_any (m : Nat) (w : World) (hm : m < 16384) :
    Calls Tryd.prog 22 #[.int .i64 (m : Nat)] w fun e w' => e = .returned (.int .i64 (Lo.num m : Nat)) ∧ w = w' := by
  have hcn := Lo.num_is (m := m) (N := 14) (Nat.lt_of_lt_of_le hm (by decide)) (by decide)
  have HM := Lib.hid hcn
  clear hcn
  go_enter Tryd.func22, Tryd.ntmps22
  go_wp2_with fail
  go_loopw [0, 3] (fun vm vc wr => ∃ k : Nat, k ≤ 14 ∧ vm = .int .i64 ((m / 2 ^ k : Nat)) ∧ vc = .int .i64 (((Lo.els m k 0).length : Nat)) ∧ wr = w) (fun vm _ _ => (intOf vm).toNat)
  case atStart => exact ⟨0, by omega, by rw [Nat.pow_zero, Nat.div_one], by rw [Lo.els_end (Nat.le_refl _)]; rfl, rfl⟩
  case round =>
    obtain ⟨k, hk, rfl, rfl, rfl⟩ := hrel
    have hel := Lo.els_snoc m k
    have hle := Lo.els_le m k
    obtain ⟨q, hq⟩ : ∃ q, m / 2 ^ k = q := ⟨_, rfl⟩
    have hq2 : m / 2 ^ (k + 1) = q / 2 := by rw [← hq, Nat.pow_succ, Nat.div_div_eq_div_mul]
    have hqm : q < 16384 := by rw [← hq]; exact Nat.lt_of_le_of_lt (Nat.div_le_self _ _) hm
    have hbt : Cd.bitAt m k = q % 2 := by rw [Cd.bitAt, hq]
    obtain ⟨c, hc⟩ : ∃ c, (Lo.els m k 0).length = c := ⟨_, rfl⟩
    rw [hc] at hle
    have hel2 : (Lo.els m (k + 1) 0).length = c + q % 2 := by
      rw [hel, List.length_append, hc]
      by_cases hb : Cd.bitAt m k = 1
      · rw [if_pos hb]; rw [hbt] at hb; rw [hb]; rfl
      · rw [if_neg hb]; rw [hbt] at hb; rw [show q % 2 = 0 by omega]; rfl
    rw [hq, hc]
    have HK := Lib.hid (And.intro hq (And.intro hq2 (And.intro hel2 hc)))
    clear hel hq hq2 hbt hel2 hc
    by_cases h0 : 0 < q
    · have h0i : (0 : Int) < (q : Int) := by omega
      have hk14 : k < 14 := by
        rcases Nat.lt_or_ge k 14 with h | h
        · exact h
        · have h1 := HK.out.1
          have h2 : k = 14 := by omega
          subst h2
          rw [Nat.div_eq_of_lt (by exact hm)] at h1
          omega
      have hmm : bits .and .i64 (q : Int) 1 = ((q % 2 : Nat) : Int) := odd64 q (by omega)
      have hlim : (c : Int) ≤ 14 := by omega
      go_wp2_with fail
      go_roundw
      case rel => exact ⟨k + 1, by omega, by rw [HK.out.2.1]; go_num, by rw [HK.out.2.2.1]; go_num, by trivial⟩
      case measure => simp [intOf]; omega
    · have h0i : ¬ (0 : Int) < (q : Int) := by omega
      have hcc : c = Lo.num m := by
        rw [← HM.out, ← HK.out.2.2.2]
        have h1 : q = 0 := by omega
        have h2 : m < 2 ^ k := by
          have h3 := HK.out.1
          rw [h1] at h3
          exact (Nat.div_eq_zero_iff_lt (Nat.two_pow_pos k)).1 h3
        exact congrArg List.length (Lo.els_wide h2 hk).symm
      have HCC := Lib.hid hcc
      clear hcc
      go_wp2_with fail
      go_ret
      exact ⟨by rw [HCC.out]; rfl, rfl⟩
end Go.Proofs.YtggfkpalkdkbdaaDoor

/- WHAT LocateNeeds SAYS, in plain terms. No program in sight. -/
namespace Lo
open Cd
theorem num_split {t m : Nat} (h : Sub t m) : num t + num (m - t) = num m := by
  unfold num els
  have hl : ∀ l : List Nat, (l.filter fun k => bitAt t k == 1).length + (l.filter fun k => bitAt (m - t) k == 1).length = (l.filter fun k => bitAt m k == 1).length := by
    intro l
    induction l with
    | nil => rfl
    | cons x l ih =>
      rw [List.filter_cons, List.filter_cons, List.filter_cons, minus_bit h]
      rcases bit_two t x with ht | ht
      · rw [ht]
        rcases bit_two m x with hm | hm
        · rw [hm]; simpa using ih
        · rw [hm]; simp; omega
      · rw [ht, h x ht]; simp; omega
  exact hl _
theorem and_bit (a b i : Nat) : bitAt (a &&& b) i = 1 ↔ bitAt a i = 1 ∧ bitAt b i = 1 := by
  have h1 : ∀ x, bitAt x i = 1 ↔ x.testBit i = true := fun x => by
    rw [Nat.testBit_eq_decide_div_mod_eq, decide_eq_true_iff]
    exact Iff.rfl
  rw [h1, h1, h1, Nat.testBit_and, Bool.and_eq_true]
theorem suff_more {f : Nat → Bool} {m m' e : Nat} (hm : Sub m m') (hmono : ∀ a b, Sub a b → b ≤ m' → f a = true → f b = true) (h : Suff f m e) : Suff f m' e := fun t ht hn => by
  have h1 : Sub (t &&& m) m := fun i hi => ((and_bit t m i).mp hi).2
  have h2 : Sub (t &&& m) t := fun i hi => ((and_bit t m i).mp hi).1
  have h3 := num_sub h2
  refine hmono (m - (t &&& m)) _ (fun i hi => ?_) (Nat.sub_le _ _) (h _ h1 (by omega))
  rw [minus_bit h1] at hi
  rw [minus_bit ht]
  rcases bit_two m i with a | a
  · omega
  · have b := hm i a
    rcases bit_two t i with c | c
    · omega
    · have := (and_bit t m i).mpr ⟨c, a⟩; omega
/-- Fewer missing pieces than the distance. -/
theorem suff_near {f : Nat → Bool} {m P D left : Nat} (hm : m < 2 ^ P) (hd : ∀ a, a < 2 ^ P → P - num a < D → f a = true) (hl : left + (P - num m) < D) : Suff f m left := fun t ht hn => by
  have h1 := num_split ht
  refine hd _ (by omega) ?_
  omega
end Lo

/- THE SPECIFICATION'S CHECK of codes, in plain terms: it is the program's. -/
namespace Cd
/-- Is a number in one of the first g groups? -/
def prevHas (gs : List (List Int)) (g : Nat) (x : Int) : Bool := (List.range g).any fun h => decide (x ∈ gs.getD h [])
def refBad (d : Int) (gs : List (List Int)) (g k : Nat) : Bool :=
  decide ((gs.getD g []).getD k 0 < 0) || decide (d ≤ (gs.getD g []).getD k 0) || (decide (0 < k) && decide ((gs.getD g []).getD k 0 ≤ (gs.getD g []).getD (k - 1) 0)) || prevHas gs g ((gs.getD g []).getD k 0)
/-- The error of one group. -/
def refGroup (d : Int) (gs : List (List Int)) (g : Nat) : Int :=
  if gs.getD g [] = [] then 8 else if (List.range (gs.getD g []).length).any (refBad d gs g) then 1 else 0
attribute [irreducible] refGroup refBad prevHas
end Cd

/- THE WALKS over the specification of codes: row, Rows, part. -/
namespace Cd
open Gf
/-- A coefficient of a piece's row. -/
def rowAt (d : Nat) (gs : List (List Int)) (k i : Nat) : UInt8 := if k < d then unitAt k i else if k < d + gs.length then inAt (setOf 0 (gs.getD (k - d) [])) i else gloAt (k - d - gs.length) i
theorem rowAt_unit {d k : Nat} (gs : List (List Int)) (i : Nat) (h : k < d) : rowAt d gs k i = unitAt k i := if_pos h
theorem rowAt_in {d k : Nat} {gs : List (List Int)} (i : Nat) (h : ¬ k < d) (h2 : k < d + gs.length) : rowAt d gs k i = inAt (setOf 0 (gs.getD (k - d) [])) i := by rw [rowAt, if_neg h, if_pos h2]
theorem rowAt_glo {d k : Nat} {gs : List (List Int)} (i : Nat) (h2 : ¬ k < d + gs.length) : rowAt d gs k i = gloAt (k - d - gs.length) i := by rw [rowAt, if_neg (by omega), if_neg h2]
theorem rows_get {d gl k : Nat} {gs : List (List Int)} (h : k < d + gs.length + gl) : (rows d gs gl).getD k [] = (List.range d).map (rowAt d gs k) := by
  have hr : ∀ g : Nat → UInt8, (∀ i, rowAt d gs k i = g i) → rowOf d g = (List.range d).map (rowAt d gs k) := fun g hg => by
    unfold rowOf
    congr 1
    funext i
    rw [hg i]
  rw [← rows_parts, List.getD_eq_getElem?_getD]
  by_cases h1 : k < d
  · rw [List.getElem?_append_left (by rw [List.length_append, rows1_length]; omega), List.getElem?_append_left (by rw [rows1_length]; exact h1)]
    unfold rows1
    rw [List.getElem?_map, List.getElem?_range h1]
    exact hr _ fun i => rowAt_unit gs i h1
  · by_cases h2 : k < d + gs.length
    · rw [List.getElem?_append_left (by rw [List.length_append, rows1_length, rows2_length]; exact h2), List.getElem?_append_right (by rw [rows1_length]; omega), rows1_length]
      unfold rows2
      rw [List.getElem?_map, List.getElem?_eq_getElem (by omega)]
      refine hr _ fun i => ?_
      rw [rowAt_in i h1 h2, List.getD_eq_getElem?_getD, List.getElem?_eq_getElem (by omega)]
      rfl
    · rw [List.getElem?_append_right (by rw [List.length_append, rows1_length, rows2_length]; omega), List.length_append, rows1_length, rows2_length]
      unfold rows3
      rw [List.getElem?_map, List.getElem?_range (by omega)]
      refine hr _ fun i => ?_
      rw [rowAt_glo i h2]
      show gloAt _ i = gloAt _ i
      rw [show k - d - gs.length = k - (d + gs.length) from by omega]
attribute [irreducible] rowAt
end Cd
namespace Go.Proofs.YtggfkpalkdkbdaaDoor
open Go.RowKit
theorem Rd.range {w : World} {A : Option Addr} {d : Nat} {g : Nat → UInt8} {l : List UInt8} (h : Rd w A (((List.range d).map g).map bv)) (hl : (List.range d).map g = l) : Rd w A (l.map bv) := hl ▸ h

end Go.Proofs.YtggfkpalkdkbdaaDoor

/- THE WALKS over the specification of codes: Rows, part, Encode, SameRows, SameTexts, Few. -/
namespace Cd
end Cd
namespace Go.Proofs.YtggfkpalkdkbdaaDoor
open Go.RowKit
/-- A row of bytes that a call has made. -/
def byteRow (A : Option Addr) (c : Nat) (r : List UInt8) : LRow := ⟨.slice A r.length c, 5, 1, r.length, r.map bv⟩
/-- Rows of bytes that a call has made, and the list of them. -/
def RowsOwn (w0 w : World) (A : Option Addr) (n c : Nat) (rs : List (List UInt8)) : Prop :=
  ∃ L : List LRow, n = rs.length ∧ L.length = rs.length ∧ (∀ (j : Nat) (r : List UInt8), rs[j]? = some r → ∃ A2 c2, L[j]? = some (byteRow A2 c2 r)) ∧ Owns w0 w (⟨.slice A n c, 48, 1, n, L.map (·.v)⟩ :: L)
/-- The same with one row more, that is not in the list yet. -/
def RowsMore (w0 w : World) (A : Option Addr) (n c : Nat) (rs : List (List UInt8)) (A2 : Option Addr) (c2 : Nat) (r : List UInt8) : Prop :=
  ∃ L : List LRow, n = rs.length ∧ L.length = rs.length ∧ (∀ (j : Nat) (r : List UInt8), rs[j]? = some r → ∃ A2 c2, L[j]? = some (byteRow A2 c2 r)) ∧ Owns w0 w ((⟨.slice A n c, 48, 1, n, L.map (·.v)⟩ :: L) ++ [byteRow A2 c2 r])
theorem RowsOwn.nil (w : World) : RowsOwn w w none 0 0 [] := ⟨[], rfl, rfl, fun j r h => by simp at h, Owns.start w (by intro r hr; simp at hr; subst hr; exact ⟨rfl, rfl, rfl⟩)⟩
theorem RowsOwn.next {w0 w w' : World} {A : Option Addr} {n c : Nat} {rs : List (List UInt8)} (h : RowsOwn w0 w A n c rs) (hx : Ext w w') : RowsOwn w0 w' A n c rs := by
  obtain ⟨L, h1, h2, h3, h4⟩ := h
  exact ⟨L, h1, h2, h3, h4.next hx⟩
theorem RowsOwn.ext {w0 w : World} {A : Option Addr} {n c : Nat} {rs : List (List UInt8)} (h : RowsOwn w0 w A n c rs) : Ext w0 w := by
  obtain ⟨L, h1, h2, h3, h4⟩ := h
  exact h4.ext
theorem RowsOwn.older {w wb wr : World} {A : Option Addr} {n c : Nat} {rs : List (List UInt8)} (h : RowsOwn wb wr A n c rs) (hx : Ext w wb) : RowsOwn w wr A n c rs := by
  obtain ⟨L, h1, h2, h3, h4⟩ := h
  exact ⟨L, h1, h2, h3, h4.older hx⟩
theorem RowsOwn.more {w0 w w2 : World} {A A2 : Option Addr} {n c c2 : Nat} {rs : List (List UInt8)} {r : List UInt8} (h : RowsOwn w0 w A n c rs) (hx : Ext w w2) (ho : w2.ownsRow w.heap.size 5 1 (.slice A2 r.length c2) r.length (r.map bv)) : RowsMore w0 w2 A n c rs A2 c2 r := by
  obtain ⟨L, h1, h2, h3, h4⟩ := h
  exact ⟨L, h1, h2, h3, h4.behind hx ho⟩
theorem RowsOwn.rs {w0 w : World} {A : Option Addr} {n c : Nat} {rs : List (List UInt8)} (h : RowsOwn w0 w A n c rs) (hl : rs.length ≤ 9223372036854775807) (hw : ∀ r ∈ rs, r.length ≤ 9223372036854775807) : Rs (Rs RB) w (.slice A n c) rs := by
  obtain ⟨L, rfl, h2, h3, h4⟩ := h
  refine ⟨A, c, rfl, hl, fun i r hi => ?_⟩
  obtain ⟨A2, c2, hL⟩ := h3 i r hi
  have hv : (L.map (·.v))[i]? = some (.slice A2 r.length c2) := by rw [List.getElem?_map, hL]; rfl
  obtain ⟨ad, e1, _, e3⟩ := h4.rd 0 rfl i _ hv
  exact ⟨ad, _, e1, e3, Rs.of_rd (h4.rd (i + 1) (n := r.length) hL) (hw r (List.mem_of_getElem? hi))⟩
end Go.Proofs.YtggfkpalkdkbdaaDoor

/- THE WALKS over the specification of codes: SameRows, SameTexts, Few. -/
namespace Cd
/-- At most n groups of at most 20 elements. -/
def few (gs : List (List Int)) (n : Nat) : Bool := decide (gs.length ≤ n) && gs.all fun g => decide (g.length ≤ 20)
end Cd
namespace Go.Proofs.YtggfkpalkdkbdaaDoor
open Go.RowKit
end Go.Proofs.YtggfkpalkdkbdaaDoor

/- THE WALK over the specification of codes: Rank. -/
namespace Go.Proofs.YtggfkpalkdkbdaaDoor
open Go.RowKit
/-- Values that are rows of bytes of a call's own. -/
def RowsIn (vs : List Value) (L : List LRow) (rs : List (List UInt8)) : Prop := vs.length = rs.length ∧ ∀ (j : Nat) (r : List UInt8), rs[j]? = some r → ∃ A2 c2, vs[j]? = some (.slice A2 r.length c2) ∧ byteRow A2 c2 r ∈ L
theorem RowsIn.nil (L : List LRow) : RowsIn [] L [] := ⟨rfl, fun j r h => by simp at h⟩
theorem RowsIn.mono {vs : List Value} {L M : List LRow} {rs : List (List UInt8)} (h : RowsIn vs L rs) (hm : ∀ x ∈ L, x ∈ M) : RowsIn vs M rs :=
  ⟨h.1, fun j r hj => by
    obtain ⟨A2, c2, h1, h2⟩ := h.2 j r hj
    exact ⟨A2, c2, h1, hm _ h2⟩⟩
theorem RowsIn.rs {w0 w : World} {M : List LRow} (hO : Owns w0 w M) {i n c : Nat} {A : Option Addr} {vs : List Value} {rs : List (List UInt8)} (hi : M[i]? = some ⟨.slice A n c, 48, 1, n, vs⟩) (h : RowsIn vs M rs) (hl : rs.length ≤ 9223372036854775807) (hw : ∀ r ∈ rs, r.length ≤ 9223372036854775807) : Rs (Rs RB) w (.slice A n c) rs := by
  have h1 : vs.length = n * 1 := (hO.row i hi).1
  have hn : n = rs.length := by rw [← h.1]; omega
  subst hn
  refine ⟨A, c, rfl, hl, fun j r hj => ?_⟩
  obtain ⟨A2, c2, e1, e2⟩ := h.2 j r hj
  obtain ⟨ad, a1, _, a3⟩ := hO.rd i hi j _ e1
  obtain ⟨k, hk, e3⟩ := List.getElem_of_mem e2
  have e4 : M[k]? = some (byteRow A2 c2 r) := by rw [List.getElem?_eq_getElem hk, e3]
  exact ⟨ad, _, a1, a3, Rs.of_rd (hO.rd k (n := r.length) e4) (hw r (List.mem_of_getElem? hj))⟩
end Go.Proofs.YtggfkpalkdkbdaaDoor

/- THE WALK over sets: its drawn region. -/
namespace Go.Proofs.YtggfkpalkdkbdaaDoor
open Go.RowKit Go.Shelf
abbrev SetN := { x : Nat // x < 16384 }
def encN (x : SetN) : Array Value := #[.int .i64 x.1]
theorem enters_ones : ∀ args w, (callFunc 44 args).run Tryd.prog w = .ok (.enter 44 args) w := enters_of Tryd.func44 (by kernel_rfl) rfl
noncomputable def sets_on_code : Code := ((Tryd.f84.body.bind (regionOf 3)).getD .skip)
def sets_on_dsts : List (Option Nat) := [some 10, some 11, some 12, some 13, some 14, some 15, some 16, some 17, some 18, some 19, some 20]
theorem sets_on_apart : apartD sets_on_dsts = true := by decide +kernel
set_option maxRecDepth 1000000 in
set_option maxHeartbeats 16000000 in
theorem sets_on (l m k sz Bs : Nat) (R : Bool → World → Prop) (wr : World) (hk : k < 16384) (hcnt : Ones.cnt k = sz) (hbs : wr.drew.cell? ⟨Bs, 0, none⟩ = some (.int .i64 sz)) (hy : YieldAt Fence.wide (m - 1) Tryd.prog l #[.int .i64 k] wr.drew fun e w' => ∃ b, e = .returned (.bool b) ∧ R b w') (c1 c3 c5 c6 c7 c8 c9 c10 c11 c12 c13 c14 c15 c16 c17 c18 c19 c20 c21 : Value) (df : List Deferred) (K : Act → World → Prop)
    (hK : ∀ (b : Bool) (u10 u11 u12 u13 u14 u15 u16 u17 u18 u19 : Value) (wx : World), R b wx → K ⟨#[.func (.yield l) #[] #[], c1, .pointer (some ⟨Bs, 0, none⟩), c3, .int .i64 k, c5, c6, c7, c8, c9, u10, u11, u12, u13, u14, u15, u16, u17, u18, u19, .bool (!b), c21], df⟩ wx) :
    Code.wpIn Fence.wide m Tryd.prog sets_on_code (AtEnd K) ⟨#[.func (.yield l) #[] #[], c1, .pointer (some ⟨Bs, 0, none⟩), c3, .int .i64 k, c5, c6, c7, c8, c9, c10, c11, c12, c13, c14, c15, c16, c17, c18, c19, c20, c21], df⟩ wr := by
  conv => arg 4; whnf
  refine region_invIn (by kernel_rfl) [[], [0], [1], [], [2, 3], [4, 2], [5], [5], [6, 7, 5, 5], [8, 5], [5, 9]] (by kernel_rfl) [0, 1, 2, 3, 4, 5, 6, 7, 8, 9, 10] (by decide +kernel) (by decide +kernel) (by decide +kernel) (fun L a wc => ∃ (b : Bool), Inv sets_on_dsts [.int .i64 k, .int .u64 k, .int .i64 (Ones.cnt k : Nat), .int .i64 sz, .bool true, .bool true, .func (.yield l) #[] #[], .int .i64 k, .bool b, .bool (!b), .bool (!b)] ⟨#[.func (.yield l) #[] #[], c1, .pointer (some ⟨Bs, 0, none⟩), c3, .int .i64 k, c5, c6, c7, c8, c9, c10, c11, c12, c13, c14, c15, c16, c17, c18, c19, c20, c21], df⟩ L a ∧ Hid (if L 8 = true then R b wc else wc = wr.drew)) ⟨false, Inv.start, Lib.hid rfl⟩ ?_ ?_
  · refine ⟨?_, ?_, ?_, ?_, ?_, ?_, ?_, ?_, ?_, ?_, ?_, trivial⟩
    ·
      rintro L a wc ⟨b, hv, HO⟩ hL hc hd
      exact wpOpIn_val (fun _ => trivial) rfl rfl (by intro c h; cases h) (ex_move rfl ((hv.fixed 4 (by decide)).trans rfl)) ⟨b, hv.put sets_on_apart 0 rfl (lb rfl) (lb rfl) rfl, HO⟩
    ·
      rintro L a wc ⟨b, hv, HO⟩ hL hc hd
      have hu : IntKind.u64.wrap (k : Int) = (k : Int) := by rw [IntKind.wrap_u64]; omega
      exact wpOpIn_val (fun _ => trivial) rfl rfl (by intro c h; cases h) (ex_convert rfl (hv.get 0 rfl rfl (hd 0 (by decide))) (by go_simp)) ⟨b, hv.put sets_on_apart 1 rfl (lb rfl) (lb rfl) rfl, HO⟩
    ·
      rintro L a wc ⟨b, hv, HO⟩ hL hc hd
      have n8 : L 8 = false := Bool.eq_false_iff.2 fun h => Bool.false_ne_true (hL.symm.trans (hc 5 (hc 8 (h) 5 (by decide)) 2 (by decide)))
      have hwc : wc = wr.drew := by have h := HO.out; rw [if_neg (by simp [n8])] at h; exact h
      refine wpOpIn_call (R := fun v w1 => v = .int .i64 (Ones.cnt k : Nat) ∧ wc = w1) (fun _ => trivial) rfl rfl rfl (by intro c h; cases h) (ex_call rfl rfl (map1c (hv.get 1 rfl rfl (hd 1 (by decide)))) (enters_ones _ _)) ((callsIn_wide.2 (ones_any k _ hk)).mono (fun e w' h => ⟨_, h.1, rfl, h.2⟩)) ?_
      rintro v w' ⟨rfl, rfl⟩
      exact ⟨b, hv.put sets_on_apart 2 rfl (lb rfl) (lb rfl) rfl, HO⟩
    ·
      rintro L a wc ⟨b, hv, HO⟩ hL hc hd
      have n8 : L 8 = false := Bool.eq_false_iff.2 fun h => Bool.false_ne_true (hL.symm.trans (hc 4 (hc 5 (hc 8 (h) 5 (by decide)) 4 (by decide)) 3 (by decide)))
      have hwc : wc = wr.drew := by have h := HO.out; rw [if_neg (by simp [n8])] at h; exact h
      have c2 : wc.cell? ⟨Bs, 0, none⟩ = some (.int .i64 sz) := by rw [hwc]; exact hbs
      exact wpOpIn_val (fun _ => trivial) rfl rfl (by intro c h; cases h) (ex_load rfl ((hv.fixed 2 (by decide)).trans rfl) (by go_simp)) ⟨b, hv.put sets_on_apart 3 rfl (lb rfl) (lb rfl) rfl, HO⟩
    ·
      rintro L a wc ⟨b, hv, HO⟩ hL hc hd
      have e : (((Ones.cnt k : Nat) : Int) == (sz : Int)) = true := by rw [hcnt]; simp
      exact wpOpIn_val (fun _ => trivial) rfl rfl (by intro c h; cases h) (ex_bin rfl (hv.get 2 rfl rfl (hd 2 (by decide))) (hv.get 3 rfl rfl (hd 3 (by decide))) (by go_simp)) ⟨b, hv.put sets_on_apart 4 rfl (lb rfl) (lb rfl) rfl, HO⟩
    ·
      rintro L a wc ⟨b, hv, HO⟩ hL hc hd
      exact wpOpIn_val (fun _ => trivial) rfl rfl (by intro c h; cases h) (ex_move rfl (hv.get 4 rfl rfl (hd 4 (by decide)))) ⟨b, hv.put sets_on_apart 5 rfl (lb rfl) (lb rfl) rfl, HO⟩
    ·
      rintro L a wc ⟨b, hv, HO⟩ hL hc hd
      exact wpOpIn_val (fun _ => trivial) rfl ((wanted_at rfl rfl (hv.get 5 rfl rfl (hd 5 (by decide)))).trans rfl) (by intro c h; cases h) (ex_move rfl ((hv.fixed 0 (by decide)).trans rfl)) ⟨b, hv.put sets_on_apart 6 rfl (lb rfl) (lb rfl) rfl, HO⟩
    ·
      rintro L a wc ⟨b, hv, HO⟩ hL hc hd
      exact wpOpIn_val (fun _ => trivial) rfl ((wanted_at rfl rfl (hv.get 5 rfl rfl (hd 5 (by decide)))).trans rfl) (by intro c h; cases h) (ex_move rfl ((hv.fixed 4 (by decide)).trans rfl)) ⟨b, hv.put sets_on_apart 7 rfl (lb rfl) (lb rfl) rfl, HO⟩
    ·
      rintro L a wc ⟨b, hv, HO⟩ hL hc hd
      have hwc : wc = wr.drew := by have h := HO.out; rw [if_neg (by simp [hL])] at h; exact h
      subst hwc
      refine wpOpIn_yield (fun _ => trivial) rfl rfl ((wanted_at rfl rfl (hv.get 5 rfl rfl (hd 5 (by decide)))).trans rfl) rfl (hv.get 6 rfl rfl (hd 6 (by decide))) (map1 (hv.get 7 rfl rfl (hd 7 (by decide)))) hy ?_
      rintro e w' ⟨b', rfl, hR⟩
      have n9 : L 9 = false := Bool.eq_false_iff.2 fun h => Bool.false_ne_true (hL.symm.trans (hc 9 h 8 (by decide)))
      have n10 : L 10 = false := Bool.eq_false_iff.2 fun h => Bool.false_ne_true (n9.symm.trans (hc 10 h 9 (by decide)))
      have hv := (hv.reset 9 n9 (.bool (!b'))).reset 10 n10 (.bool (!b'))
      exact ⟨_, rfl, b', hv.put sets_on_apart 8 rfl (lb rfl) (lb rfl) rfl, Lib.hid hR⟩
    ·
      rintro L a wc ⟨b, hv, HO⟩ hL hc hd
      exact wpOpIn_val (fun _ => trivial) rfl ((wanted_at rfl rfl (hv.get 5 rfl rfl (hd 5 (by decide)))).trans rfl) (by intro c h; cases h) (ex_un rfl (hv.get 8 rfl rfl (hd 8 (by decide))) (by go_simp)) ⟨b, hv.put sets_on_apart 9 rfl (lb rfl) (lb rfl) rfl, HO⟩
    ·
      rintro L a wc ⟨b, hv, HO⟩ hL hc hd
      exact wpOpIn_val (fun _ => trivial) rfl rfl (by intro c h; cases h) (ex_pick rfl (hv.get 5 rfl rfl (hd 5 (by decide))) (if_pos rfl |>.trans (hv.get 9 rfl rfl (hd 9 (by decide))))) ⟨b, hv.put sets_on_apart 10 rfl (lb rfl) (lb rfl) rfl, HO⟩
  · rintro L a wc ⟨b, hv, HO⟩ hall
    show K a wc
    have ha := act_lit a
    rw [hv.size, hv.defers] at ha
    have hl : ∀ f : Nat → Value, ((List.range (⟨#[.func (.yield l) #[] #[], c1, .pointer (some ⟨Bs, 0, none⟩), c3, .int .i64 k, c5, c6, c7, c8, c9, c10, c11, c12, c13, c14, c15, c16, c17, c18, c19, c20, c21], df⟩ : Act).tmps.size).map f).toArray = #[f 0, f 1, f 2, f 3, f 4, f 5, f 6, f 7, f 8, f 9, f 10, f 11, f 12, f 13, f 14, f 15, f 16, f 17, f 18, f 19, f 20, f 21] := fun _ => rfl
    rw [hl] at ha
    simp only [hv.fixed 0 (by decide), hv.fixed 1 (by decide), hv.fixed 2 (by decide), hv.fixed 3 (by decide), hv.fixed 4 (by decide), hv.fixed 5 (by decide), hv.fixed 6 (by decide), hv.fixed 7 (by decide), hv.fixed 8 (by decide), hv.fixed 9 (by decide), hv.fixed 21 (by decide), hv.get 10 (d := 20) rfl rfl (hall 10 (by decide))] at ha
    rw [ha]
    have h := HO.out
    rw [if_pos (hall 8 (by decide))] at h
    exact hK b _ _ _ _ _ _ _ _ _ _ wc h
noncomputable def sets_off_code : Code := ((Tryd.f84.body.bind (regionOf 3)).getD .skip)
def sets_off_dsts : List (Option Nat) := [some 10, some 11, some 12, some 13, some 14, some 15, some 16, some 17, some 18, some 19, some 20]
theorem sets_off_apart : apartD sets_off_dsts = true := by decide +kernel
set_option maxRecDepth 1000000 in
set_option maxHeartbeats 16000000 in
theorem sets_off (l m k sz Bs : Nat) (wr : World) (hk : k < 16384) (hcnt : Ones.cnt k ≠ sz) (hbs : wr.drew.cell? ⟨Bs, 0, none⟩ = some (.int .i64 sz)) (c1 c3 c5 c6 c7 c8 c9 c10 c11 c12 c13 c14 c15 c16 c17 c18 c19 c20 c21 : Value) (df : List Deferred) (K : Act → World → Prop)
    (hK : ∀  (u10 u11 u12 u13 u14 u15 u16 u17 u18 u19 : Value) (wx : World), wx = wr.drew → K ⟨#[.func (.yield l) #[] #[], c1, .pointer (some ⟨Bs, 0, none⟩), c3, .int .i64 k, c5, c6, c7, c8, c9, u10, u11, u12, u13, u14, u15, u16, u17, u18, u19, .bool false, c21], df⟩ wx) :
    Code.wpIn Fence.wide m Tryd.prog sets_off_code (AtEnd K) ⟨#[.func (.yield l) #[] #[], c1, .pointer (some ⟨Bs, 0, none⟩), c3, .int .i64 k, c5, c6, c7, c8, c9, c10, c11, c12, c13, c14, c15, c16, c17, c18, c19, c20, c21], df⟩ wr := by
  conv => arg 4; whnf
  refine region_invIn (by kernel_rfl) [[], [0], [1], [], [2, 3], [4, 2], [5], [5], [6, 7, 5, 5], [8, 5], [5, 9]] (by kernel_rfl) [0, 1, 2, 3, 4, 5, 6, 7, 8, 9, 10] (by decide +kernel) (by decide +kernel) (by decide +kernel) (fun L a wc => Inv sets_off_dsts [.int .i64 k, .int .u64 k, .int .i64 (Ones.cnt k : Nat), .int .i64 sz, .bool false, .bool false, undef, undef, undef, undef, .bool false] ⟨#[.func (.yield l) #[] #[], c1, .pointer (some ⟨Bs, 0, none⟩), c3, .int .i64 k, c5, c6, c7, c8, c9, c10, c11, c12, c13, c14, c15, c16, c17, c18, c19, c20, c21], df⟩ L a ∧ Hid (wc = wr.drew)) ⟨Inv.start, Lib.hid rfl⟩ ?_ ?_
  · refine ⟨?_, ?_, ?_, ?_, ?_, ?_, ?_, ?_, ?_, ?_, ?_, trivial⟩
    ·
      rintro L a wc ⟨hv, HO⟩ hL hc hd
      exact wpOpIn_val (fun _ => trivial) rfl rfl (by intro c h; cases h) (ex_move rfl ((hv.fixed 4 (by decide)).trans rfl)) ⟨hv.put sets_off_apart 0 rfl (lb rfl) (lb rfl) rfl, HO⟩
    ·
      rintro L a wc ⟨hv, HO⟩ hL hc hd
      have hu : IntKind.u64.wrap (k : Int) = (k : Int) := by rw [IntKind.wrap_u64]; omega
      exact wpOpIn_val (fun _ => trivial) rfl rfl (by intro c h; cases h) (ex_convert rfl (hv.get 0 rfl rfl (hd 0 (by decide))) (by go_simp)) ⟨hv.put sets_off_apart 1 rfl (lb rfl) (lb rfl) rfl, HO⟩
    ·
      rintro L a wc ⟨hv, HO⟩ hL hc hd
      have hwc : wc = wr.drew := HO.out
      refine wpOpIn_call (R := fun v w1 => v = .int .i64 (Ones.cnt k : Nat) ∧ wc = w1) (fun _ => trivial) rfl rfl rfl (by intro c h; cases h) (ex_call rfl rfl (map1c (hv.get 1 rfl rfl (hd 1 (by decide)))) (enters_ones _ _)) ((callsIn_wide.2 (ones_any k _ hk)).mono (fun e w' h => ⟨_, h.1, rfl, h.2⟩)) ?_
      rintro v w' ⟨rfl, rfl⟩
      exact ⟨hv.put sets_off_apart 2 rfl (lb rfl) (lb rfl) rfl, HO⟩
    ·
      rintro L a wc ⟨hv, HO⟩ hL hc hd
      have hwc : wc = wr.drew := HO.out
      have c2 : wc.cell? ⟨Bs, 0, none⟩ = some (.int .i64 sz) := by rw [hwc]; exact hbs
      exact wpOpIn_val (fun _ => trivial) rfl rfl (by intro c h; cases h) (ex_load rfl ((hv.fixed 2 (by decide)).trans rfl) (by go_simp)) ⟨hv.put sets_off_apart 3 rfl (lb rfl) (lb rfl) rfl, HO⟩
    ·
      rintro L a wc ⟨hv, HO⟩ hL hc hd
      have e : (((Ones.cnt k : Nat) : Int) == (sz : Int)) = false := by rw [beq_eq_false_iff_ne]; omega
      exact wpOpIn_val (fun _ => trivial) rfl rfl (by intro c h; cases h) (ex_bin rfl (hv.get 2 rfl rfl (hd 2 (by decide))) (hv.get 3 rfl rfl (hd 3 (by decide))) (by go_simp)) ⟨hv.put sets_off_apart 4 rfl (lb rfl) (lb rfl) rfl, HO⟩
    ·
      rintro L a wc ⟨hv, HO⟩ hL hc hd
      exact wpOpIn_val (fun _ => trivial) rfl rfl (by intro c h; cases h) (ex_move rfl (hv.get 4 rfl rfl (hd 4 (by decide)))) ⟨hv.put sets_off_apart 5 rfl (lb rfl) (lb rfl) rfl, HO⟩
    ·
      rintro L a wc ⟨hv, HO⟩ hL hc hd
      exact wpOpIn_off (fun _ => trivial) rfl ((wanted_at rfl rfl (hv.get 5 rfl rfl (hd 5 (by decide)))).trans rfl) ⟨hv.put sets_off_apart 6 rfl (lb rfl) (lb rfl) rfl, HO⟩
    ·
      rintro L a wc ⟨hv, HO⟩ hL hc hd
      exact wpOpIn_off (fun _ => trivial) rfl ((wanted_at rfl rfl (hv.get 5 rfl rfl (hd 5 (by decide)))).trans rfl) ⟨hv.put sets_off_apart 7 rfl (lb rfl) (lb rfl) rfl, HO⟩
    ·
      rintro L a wc ⟨hv, HO⟩ hL hc hd
      exact wpOpIn_off (fun _ => trivial) rfl ((wanted_at rfl rfl (hv.get 5 rfl rfl (hd 5 (by decide)))).trans rfl) ⟨hv.put sets_off_apart 8 rfl (lb rfl) (lb rfl) rfl, HO⟩
    ·
      rintro L a wc ⟨hv, HO⟩ hL hc hd
      exact wpOpIn_off (fun _ => trivial) rfl ((wanted_at rfl rfl (hv.get 5 rfl rfl (hd 5 (by decide)))).trans rfl) ⟨hv.put sets_off_apart 9 rfl (lb rfl) (lb rfl) rfl, HO⟩
    ·
      rintro L a wc ⟨hv, HO⟩ hL hc hd
      exact wpOpIn_val (fun _ => trivial) rfl rfl (by intro c h; cases h) (ex_pick rfl (hv.get 5 rfl rfl (hd 5 (by decide))) rfl) ⟨hv.put sets_off_apart 10 rfl (lb rfl) (lb rfl) rfl, HO⟩
  · rintro L a wc ⟨hv, HO⟩ hall
    show K a wc
    have ha := act_lit a
    rw [hv.size, hv.defers] at ha
    have hl : ∀ f : Nat → Value, ((List.range (⟨#[.func (.yield l) #[] #[], c1, .pointer (some ⟨Bs, 0, none⟩), c3, .int .i64 k, c5, c6, c7, c8, c9, c10, c11, c12, c13, c14, c15, c16, c17, c18, c19, c20, c21], df⟩ : Act).tmps.size).map f).toArray = #[f 0, f 1, f 2, f 3, f 4, f 5, f 6, f 7, f 8, f 9, f 10, f 11, f 12, f 13, f 14, f 15, f 16, f 17, f 18, f 19, f 20, f 21] := fun _ => rfl
    rw [hl] at ha
    simp only [hv.fixed 0 (by decide), hv.fixed 1 (by decide), hv.fixed 2 (by decide), hv.fixed 3 (by decide), hv.fixed 4 (by decide), hv.fixed 5 (by decide), hv.fixed 6 (by decide), hv.fixed 7 (by decide), hv.fixed 8 (by decide), hv.fixed 9 (by decide), hv.fixed 21 (by decide), hv.get 10 (d := 20) rfl rfl (hall 10 (by decide))] at ha
    rw [ha]
    exact hK _ _ _ _ _ _ _ _ _ _ wc HO.out
end Go.Proofs.YtggfkpalkdkbdaaDoor

/- THE WALK over sets: an iterator. -/
namespace Cd
/-- The sets below k with so many elements. -/
def setsTo (sz k : Nat) : List Nat := (List.range k).filter fun s => Ones.cnt s == sz
def setsL (n sz : Nat) : List Nat := setsTo sz (2 ^ n)
theorem setsTo_yes {sz k : Nat} (h : Ones.cnt k = sz) : setsTo sz (k + 1) = setsTo sz k ++ [k] := by
  simp [setsTo, List.range_succ, List.filter_append, h]
theorem setsTo_no {sz k : Nat} (h : Ones.cnt k ≠ sz) : setsTo sz (k + 1) = setsTo sz k := by
  simp [setsTo, List.range_succ, List.filter_append, h]
theorem setsTo_len {sz : Nat} {k m : Nat} (h : k ≤ m) : (setsTo sz k).length ≤ (setsTo sz m).length := by
  obtain ⟨d, rfl⟩ : ∃ d, m = k + d := ⟨m - k, by omega⟩
  clear h
  induction d with
  | zero => exact Nat.le_refl _
  | succ d ih =>
    by_cases hc : Ones.cnt (k + d) = sz
    · rw [← Nat.add_assoc, setsTo_yes hc, List.length_append]; omega
    · rw [← Nat.add_assoc, setsTo_no hc]; exact ih
end Cd
namespace Go.Proofs.YtggfkpalkdkbdaaDoor
open Go.RowKit Go.Shelf
attribute [local go_sem] Oper.semAt_some
theorem cSets_any (n sz : Int) (w : World) : Calls Tryd.prog 50 #[.int .i64 n, .int .i64 sz] w fun e w' => e = .returned (.func (.func 84) #[] #[.pointer (some ⟨w.heap.size, 0, none⟩), .pointer (some ⟨w.heap.size + 1, 0, none⟩)]) ∧ w' = (w.alloc (.cells #[.int .i64 n] 3)).alloc (.cells #[.int .i64 sz] 3) := by
  go_enter Tryd.func50, Tryd.ntmps50
  go_wp2_with fail
  go_ret
  exact ⟨rfl, rfl⟩
def SetsS (n sz : Nat) (xs : List SetN) : Prop := xs.map (·.1) = Cd.setsL n sz
def SetsSp (n sz : Nat) (pre : List SetN) : Prop := ∃ k, k < 2 ^ n ∧ pre.map (·.1) = Cd.setsTo sz (k + 1)
set_option maxRecDepth 100000 in
set_option maxHeartbeats 4000000 in
theorem sets1_stops (n sz Bn Bs m : Nat) (w : World) (hn : n ≤ 14) (h1 : w.cell? ⟨Bn, 0, none⟩ = some (.int .i64 n)) (h2 : w.cell? ⟨Bs, 0, none⟩ = some (.int .i64 sz)) :
    SeqStopsK Fence.wide m Tryd.prog 84 #[.pointer (some ⟨Bn, 0, none⟩), .pointer (some ⟨Bs, 0, none⟩)] encN (Below w.heap.size) (SetsS n sz) (SetsSp n sz) (Cd.setsL n sz).length w := by
  intro l J Jx W hW hJ hJx hY h0
  have hp : 2 ^ n ≤ 2 ^ 14 := Nat.pow_le_pow_right (by decide) hn
  have c1 : W.cell? ⟨Bn, 0, none⟩ = some (.int .i64 n) := (Below.cell hW (lt_of_cell h1)).trans h1
  have hwp := wrap_pow n (by omega)
  obtain ⟨N, hN⟩ : ∃ N, 2 ^ n = N := ⟨_, rfl⟩
  rw [hN] at hwp hp
  have HN := Lib.hid hN
  have HY := Lib.hid hY
  have HJ := Lib.hid hJ
  have HJX := Lib.hid hJx
  have H0 := Lib.hid h0
  have HW := Lib.hid hW
  have HC := Lib.hid (And.intro h1 h2)
  clear hJ hJx hY h0 hN h1 h2 hW
  refine callsIn_of_wp Tryd.func84 rfl trivial ?_ rfl
  simp only [Tryd.ntmps84, List.size_toArray, List.length_cons, List.length_nil, Nat.reduceAdd, Nat.reduceSub, Array.replicate_succ, Array.replicate_zero, List.push_toArray, List.append_toArray, List.nil_append, List.cons_append]
  gi_wp2
  rw [hwp]
  gi_loopw [7] (fun v wr => ∃ (k : Nat) (pre : List SetN), k ≤ N ∧ v = .int .i64 k ∧ Hid (pre.map (·.1) = Cd.setsTo sz k ∧ J pre wr ∧ Below w.heap.size w wr)) (fun v _ => N - (intOf v).toNat)
  case atStart => exact ⟨0, [], Nat.zero_le _, rfl, rfl, H0.out, HW.out⟩
  case round =>
    obtain ⟨k, pre, hk, rfl, HI⟩ := hrel
    by_cases hlt : k < N
    · have hk2 : k < 16384 := by omega
      have hbs : wr.drew.cell? ⟨Bs, 0, none⟩ = some (.int .i64 sz) := (Below.cell HI.out.2.2 (lt_of_cell HC.out.2)).trans HC.out.2
      have hJd : J pre wr.drew := HJ.out pre wr wr.drew none HI.out.2.1 ⟨rfl, rfl, rfl, Nat.le_refl _, fun _ _ _ => rfl⟩ (fun r e => by cases e)
      have HBS := Lib.hid hbs
      clear hbs
      by_cases hcnt : Ones.cnt k = sz
      · have hlen : pre.length < (Cd.setsL n sz).length := by
          have h1 : (Cd.setsTo sz (k + 1)).length ≤ (Cd.setsL n sz).length := Cd.setsTo_len (by rw [HN.out]; omega)
          rw [Cd.setsTo_yes hcnt, ← HI.out.1] at h1
          simp at h1
          omega
        have hy := HY.out pre ⟨k, hk2⟩ wr.drew hJd hlen
        have HYY := Lib.hid (hy.mono (R' := fun e w' => ∃ b, e = .returned (.bool b) ∧ ((b = true ∧ J (pre ++ [⟨k, hk2⟩]) w' ∧ Below w.heap.size wr.drew w') ∨ (b = false ∧ Jx (pre ++ [⟨k, hk2⟩]) w'))) (fun e w' h => by
          rcases h with ⟨h1, h2, h3⟩ | ⟨h1, h2⟩
          · exact ⟨true, h1, .inl ⟨rfl, h2, h3⟩⟩
          · exact ⟨false, h1, .inr ⟨rfl, h2⟩⟩))
        have hnext : (pre ++ [(⟨k, hk2⟩ : SetN)]).map (·.1) = Cd.setsTo sz (k + 1) := by
          rw [Cd.setsTo_yes hcnt, ← HI.out.1]; simp
        have HNX := Lib.hid hnext
        have HCN := Lib.hid hcnt
        clear hy hJd hlen hnext hcnt
        gi_wp2
        refine wpIn_atEnd' (sets_on l m k sz Bs _ wr hk2 HCN.out HBS.out HYY.out _ _ _ _ _ _ _ _ _ _ _ _ _ _ _ _ _ _ _ _ _ ?_)
        intro b u10 u11 u12 u13 u14 u15 u16 u17 u18 u19 wx hR
        rcases hR with ⟨rfl, hR1, hR2⟩ | ⟨rfl, hR1⟩
        · have HR := Lib.hid (And.intro hR1 hR2)
          clear hR1 hR2
          gi_wp2
          go_roundw
          case rel => exact ⟨k + 1, pre ++ [⟨k, hk2⟩], by omega, by go_num, HNX.out, HR.out.1, HI.out.2.2.drew.trans HR.out.2⟩
          case measure => simp [intOf]; omega
        · have HR := Lib.hid hR1
          clear hR1
          gi_wp2
          refine bodyPost_ret (results_none rfl _ _ _) rfl ?_
          exact ⟨⟨_, rfl⟩, .inr ⟨pre ++ [⟨k, hk2⟩], ⟨k, by rw [HN.out]; exact hlt, HNX.out⟩, HR.out⟩⟩
      · have HJD := Lib.hid hJd
        have hnext := HI.out.1
        rw [← Cd.setsTo_no hcnt] at hnext
        have HNX := Lib.hid hnext
        have HCN := Lib.hid hcnt
        clear hJd hnext hcnt
        gi_wp2
        refine wpIn_atEnd' (sets_off l m k sz Bs wr hk2 HCN.out HBS.out _ _ _ _ _ _ _ _ _ _ _ _ _ _ _ _ _ _ _ _ _ ?_)
        rintro u10 u11 u12 u13 u14 u15 u16 u17 u18 u19 wx rfl
        gi_wp2
        go_roundw
        case rel => exact ⟨k + 1, pre, by omega, by go_num, HNX.out, HJD.out, HI.out.2.2.drew⟩
        case measure => simp [intOf]; omega
    · obtain rfl : k = N := by omega
      gi_wp2
      go_end0
      exact ⟨⟨_, rfl⟩, .inl ⟨pre, by rw [SetsS, HI.out.1, Cd.setsL, HN.out], HI.out.2.1⟩⟩
end Go.Proofs.YtggfkpalkdkbdaaDoor

/- THE WALK over Distance: its drawn region; collect for any number. -/
namespace Go.Proofs.YtggfkpalkdkbdaaDoor
open Go.RowKit Go.Shelf
theorem enters_collect : ∀ args w, (callFunc 48 args).run Tryd.prog w = .ok (.enter 48 args) w := enters_of Tryd.func48 (by kernel_rfl) rfl
theorem cCollect_can (d gl m : Int) (gs : List (List Int)) (A : Option Addr) (n c : Nat) (w : World) (hT : Tab w) (h0 : Cd.check d gs gl = 0) (hV : Rs (Rs RB) w (.slice A n c) (Cd.rowsOf d gs gl)) (hn : (Cd.rowsOf d gs gl).length = n) :
    Calls Tryd.prog 48 #[.slice A n c, .int .i64 m, .slice none 0 0] w fun e w' => ∃ p, e = .returned (.pointer p) ∧ Cd.can d gl gs m = p.isSome ∧ Ext w w' := by
  have hk := Cd.check_ok h0
  have hr := Cd.rowsOf_ok h0
  have hlen := Cd.rows_len d.toNat gs gl.toNat
  have hwd : ∀ r ∈ Cd.rowsOf d gs gl, r.length = d.toNat := fun r h => Cd.rows_width (by rw [← hr]; exact h)
  rw [← hr] at hlen
  clear hr
  obtain ⟨R, hR⟩ : ∃ R, Cd.rowsOf d gs gl = R := ⟨_, rfl⟩
  have hcan : Cd.can d gl gs m = decide (0 ≤ m ∧ m < 2 ^ R.length ∧ (Gf.stairs d.toNat (Cd.pick R m.toNat)).length = d.toNat) := by
    unfold Cd.can
    rw [hR]
    simp only [h0, true_and]
  rw [hR] at hlen hwd hV hn
  subst hn
  by_cases hm0 : m < 0
  · refine (cCollect_neg m _ _ _ _ (by omega) hm0).mono ?_
    rintro e w2 ⟨rfl, hx2⟩
    exact ⟨none, rfl, by rw [hcan]; simp; omega, hx2⟩
  · obtain ⟨k, rfl⟩ : ∃ k : Nat, m = k := ⟨m.toNat, by omega⟩
    by_cases hm : k < 2 ^ R.length
    · refine (cCollect_in d.toNat k R _ _ hT hV hwd (by omega) (by omega) (by omega) (by omega) hm).mono ?_
      rintro e w2 ⟨p, rfl, hp, hx2⟩
      refine ⟨p, rfl, ?_, hx2⟩
      rw [hcan, Int.toNat_natCast]
      have hk2 : (k : Int) < 2 ^ R.length := by rw [nat_pow_cast]; omega
      cases p with
      | none =>
        have h1 := hp.1 rfl
        simp only [Option.isSome_none, decide_eq_false_iff_not]
        rintro ⟨_, _, h2⟩
        exact h1 h2
      | some q =>
        have h1 : (Gf.stairs d.toNat (Cd.pick R k)).length = d.toNat := Classical.byContradiction fun h => by cases hp.2 h
        simp only [Option.isSome_some, decide_eq_true_eq]
        exact ⟨by omega, hk2, h1⟩
    · refine (cCollect_big (k : Int) _ _ _ _ (by omega) (by omega) (by omega) (by omega)).mono ?_
      rintro e w2 ⟨rfl, hx2⟩
      refine ⟨none, rfl, ?_, hx2⟩
      rw [hcan, nat_pow_cast]
      simp only [Option.isSome_none, decide_eq_false_iff_not]
      omega
noncomputable def dist_region_code : Code := ((Tryd.f26.body.bind (regionOf 10)).getD .skip)
def dist_region_dsts : List (Option Nat) := [some 28, some 29, some 30, some 31, some 32, some 33, some 34, some 35]
theorem dist_region_apart : apartD dist_region_dsts = true := by decide +kernel
set_option maxRecDepth 1000000 in
set_option maxHeartbeats 16000000 in
theorem dist_region (l b4 b6 n M x cR : Nat) (d gl : Int) (gs : List (List Int)) (RA : Option Addr) (wr : World) (hn : n ≤ 14) (hMl : M ≤ 16384) (hM1 : 1 ≤ M) (hM : Hid (IntKind.i64.wrap (2 ^ n) = (M : Int))) (hx : x < 16384) (h4 : wr.cell? ⟨b4, 0, none⟩ = some (.slice RA n cR)) (h6 : wr.cell? ⟨b6, 0, none⟩ = some (.int .i64 n)) (HT : Hid (Tab wr)) (H0 : Hid (Cd.check d gs gl = 0)) (HV : Hid (Rs (Rs RB) wr (.slice RA n cR) (Cd.rowsOf d gs gl))) (HN : Hid ((Cd.rowsOf d gs gl).length = n)) (c0 c1 c2 c3 c5 c7 c9 c10 c11 c12 c13 c14 c15 c16 c17 c18 c19 c20 c21 c22 c23 c24 c25 c26 c27 c28 c29 c30 c31 c32 c33 c34 c35 c36 c37 c38 : Value) (df : List Deferred) (K : Act → World → Prop)
    (hK : ∀ (q : Option Addr) (u28 u29 u30 u31 u32 u33 u34 : Value) (wx : World), Cd.can d gl gs ((M : Int) - 1 - x) = q.isSome → Ext wr wx → K ⟨#[c0, c1, c2, c3, .pointer (some ⟨b4, 0, none⟩), c5, .pointer (some ⟨b6, 0, none⟩), c7, .int .i64 x, c9, c10, c11, c12, c13, c14, c15, c16, c17, c18, c19, c20, c21, c22, c23, c24, c25, c26, c27, u28, u29, u30, u31, u32, u33, u34, .bool q.isNone, c36, c37, c38], df⟩ wx) :
    Code.wpIn (Fence.wide.inRound l) 7 Tryd.prog dist_region_code (AtEnd K) ⟨#[c0, c1, c2, c3, .pointer (some ⟨b4, 0, none⟩), c5, .pointer (some ⟨b6, 0, none⟩), c7, .int .i64 x, c9, c10, c11, c12, c13, c14, c15, c16, c17, c18, c19, c20, c21, c22, c23, c24, c25, c26, c27, c28, c29, c30, c31, c32, c33, c34, c35, c36, c37, c38], df⟩ wr := by
  conv => arg 4; whnf
  refine region_invIn (by kernel_rfl) [[], [], [1], [2], [], [3, 4], [0, 5], [6]] (by kernel_rfl) [0, 1, 2, 3, 4, 5, 6, 7] (by decide +kernel) (by decide +kernel) (by decide +kernel) (fun L a wc => ∃ (q : Option Addr), Inv dist_region_dsts [.slice RA n cR, .int .i64 n, .int .i64 M, .int .i64 ((M : Int) - 1), .int .i64 x, .int .i64 ((M : Int) - 1 - x), .pointer q, .bool q.isNone] ⟨#[c0, c1, c2, c3, .pointer (some ⟨b4, 0, none⟩), c5, .pointer (some ⟨b6, 0, none⟩), c7, .int .i64 x, c9, c10, c11, c12, c13, c14, c15, c16, c17, c18, c19, c20, c21, c22, c23, c24, c25, c26, c27, c28, c29, c30, c31, c32, c33, c34, c35, c36, c37, c38], df⟩ L a ∧ Hid (if L 6 = true then Cd.can d gl gs ((M : Int) - 1 - x) = q.isSome ∧ Ext wr wc else wc = wr.drew)) ⟨none, Inv.start, Lib.hid rfl⟩ ?_ ?_
  · refine ⟨?_, ?_, ?_, ?_, ?_, ?_, ?_, ?_, trivial⟩
    ·
      rintro L a wc ⟨q, hv, HO⟩ hL hc hd
      have n6 : L 6 = false := Bool.eq_false_iff.2 fun h => Bool.false_ne_true (hL.symm.trans (hc 6 (h) 0 (by decide)))
      have hwc : wc = wr.drew := by have h := HO.out; rw [if_neg (by simp [n6])] at h; exact h
      have c4 : wc.cell? ⟨b4, 0, none⟩ = some (.slice RA n cR) := by rw [hwc]; exact h4
      exact wpOpIn_val (fun _ => trivial) rfl rfl (by intro c h; cases h) (ex_load rfl ((hv.fixed 4 (by decide)).trans rfl) (by go_simp)) ⟨q, hv.put dist_region_apart 0 rfl (lb rfl) (lb rfl) rfl, HO⟩
    ·
      rintro L a wc ⟨q, hv, HO⟩ hL hc hd
      have n6 : L 6 = false := Bool.eq_false_iff.2 fun h => Bool.false_ne_true (hL.symm.trans (hc 2 (hc 3 (hc 5 (hc 6 (h) 5 (by decide)) 3 (by decide)) 2 (by decide)) 1 (by decide)))
      have hwc : wc = wr.drew := by have h := HO.out; rw [if_neg (by simp [n6])] at h; exact h
      have c6 : wc.cell? ⟨b6, 0, none⟩ = some (.int .i64 n) := by rw [hwc]; exact h6
      exact wpOpIn_val (fun _ => trivial) rfl rfl (by intro c h; cases h) (ex_load rfl ((hv.fixed 6 (by decide)).trans rfl) (by go_simp)) ⟨q, hv.put dist_region_apart 1 rfl (lb rfl) (lb rfl) rfl, HO⟩
    ·
      rintro L a wc ⟨q, hv, HO⟩ hL hc hd
      have hw := hM.out
      exact wpOpIn_val (fun _ => trivial) rfl rfl (by intro c h; cases h) (ex_bin rfl rfl (hv.get 1 rfl rfl (hd 1 (by decide))) (by go_simp)) ⟨q, hv.put dist_region_apart 2 rfl (lb rfl) (lb rfl) rfl, HO⟩
    ·
      rintro L a wc ⟨q, hv, HO⟩ hL hc hd
      have hw : IntKind.i64.wrap ((M : Int) - 1) = (M : Int) - 1 := by rw [IntKind.wrap_i64]; omega
      exact wpOpIn_val (fun _ => trivial) rfl rfl (by intro c h; cases h) (ex_bin rfl (hv.get 2 rfl rfl (hd 2 (by decide))) rfl (by go_simp)) ⟨q, hv.put dist_region_apart 3 rfl (lb rfl) (lb rfl) rfl, HO⟩
    ·
      rintro L a wc ⟨q, hv, HO⟩ hL hc hd
      exact wpOpIn_val (fun _ => trivial) rfl rfl (by intro c h; cases h) (ex_move rfl ((hv.fixed 8 (by decide)).trans rfl)) ⟨q, hv.put dist_region_apart 4 rfl (lb rfl) (lb rfl) rfl, HO⟩
    ·
      rintro L a wc ⟨q, hv, HO⟩ hL hc hd
      have hw : IntKind.i64.wrap ((M : Int) - 1 - (x : Int)) = (M : Int) - 1 - (x : Int) := by rw [IntKind.wrap_i64]; omega
      exact wpOpIn_val (fun _ => trivial) rfl rfl (by intro c h; cases h) (ex_bin rfl (hv.get 3 rfl rfl (hd 3 (by decide))) (hv.get 4 rfl rfl (hd 4 (by decide))) (by go_simp)) ⟨q, hv.put dist_region_apart 5 rfl (lb rfl) (lb rfl) rfl, HO⟩
    ·
      rintro L a wc ⟨q, hv, HO⟩ hL hc hd
      have hwc : wc = wr.drew := by have h := HO.out; rw [if_neg (by simp [hL])] at h; exact h
      subst hwc
      have n7 : L 7 = false := Bool.eq_false_iff.2 fun h => Bool.false_ne_true (hL.symm.trans (hc 7 h 6 (by decide)))
      refine wpOpIn_call (R := fun v w1 => ∃ p : Option Addr, v = .pointer p ∧ Cd.can d gl gs ((M : Int) - 1 - x) = p.isSome ∧ Ext wr w1) (fun _ => trivial) rfl rfl rfl (by intro c h; cases h) (ex_call rfl rfl (map3c (hv.get 0 rfl rfl (hd 0 (by decide))) (hv.get 5 rfl rfl (hd 5 (by decide))) rfl) (enters_collect _ _)) (CallsIn.inRound l (callsIn_wide.2 ((cCollect_can d gl ((M : Int) - 1 - x) gs RA n cR wr.drew (HT.out.ext (Ext.refl wr).drew) H0.out (Rs.ext (Rs.ext RB.ext) _ _ _ _ (Ext.refl wr).drew HV.out) HN.out).mono (fun e w' h => by obtain ⟨p, h1, h2, h3⟩ := h; exact ⟨_, h1, p, rfl, h2, (Ext.refl wr).drew.trans h3⟩)))) ?_
      rintro v w' ⟨p, rfl, hcan, hx⟩
      have hv := hv.reset 7 n7 (.bool p.isNone)
      exact ⟨p, hv.put dist_region_apart 6 rfl (lb rfl) (lb rfl) rfl, Lib.hid ⟨hcan, hx⟩⟩
    ·
      rintro L a wc ⟨q, hv, HO⟩ hL hc hd
      exact wpOpIn_val (fun _ => trivial) rfl rfl (by intro c h; cases h) (ex_bin rfl (hv.get 6 rfl rfl (hd 6 (by decide))) rfl (by cases q <;> first | rfl | go_simp)) ⟨q, hv.put dist_region_apart 7 rfl (lb rfl) (lb rfl) rfl, HO⟩
  · rintro L a wc ⟨q, hv, HO⟩ hall
    show K a wc
    have ha := act_lit a
    rw [hv.size, hv.defers] at ha
    have hl : ∀ f : Nat → Value, ((List.range (⟨#[c0, c1, c2, c3, .pointer (some ⟨b4, 0, none⟩), c5, .pointer (some ⟨b6, 0, none⟩), c7, .int .i64 x, c9, c10, c11, c12, c13, c14, c15, c16, c17, c18, c19, c20, c21, c22, c23, c24, c25, c26, c27, c28, c29, c30, c31, c32, c33, c34, c35, c36, c37, c38], df⟩ : Act).tmps.size).map f).toArray = #[f 0, f 1, f 2, f 3, f 4, f 5, f 6, f 7, f 8, f 9, f 10, f 11, f 12, f 13, f 14, f 15, f 16, f 17, f 18, f 19, f 20, f 21, f 22, f 23, f 24, f 25, f 26, f 27, f 28, f 29, f 30, f 31, f 32, f 33, f 34, f 35, f 36, f 37, f 38] := fun _ => rfl
    rw [hl] at ha
    simp only [hv.fixed 0 (by decide), hv.fixed 1 (by decide), hv.fixed 2 (by decide), hv.fixed 3 (by decide), hv.fixed 4 (by decide), hv.fixed 5 (by decide), hv.fixed 6 (by decide), hv.fixed 7 (by decide), hv.fixed 8 (by decide), hv.fixed 9 (by decide), hv.fixed 10 (by decide), hv.fixed 11 (by decide), hv.fixed 12 (by decide), hv.fixed 13 (by decide), hv.fixed 14 (by decide), hv.fixed 15 (by decide), hv.fixed 16 (by decide), hv.fixed 17 (by decide), hv.fixed 18 (by decide), hv.fixed 19 (by decide), hv.fixed 20 (by decide), hv.fixed 21 (by decide), hv.fixed 22 (by decide), hv.fixed 23 (by decide), hv.fixed 24 (by decide), hv.fixed 25 (by decide), hv.fixed 26 (by decide), hv.fixed 27 (by decide), hv.fixed 36 (by decide), hv.fixed 37 (by decide), hv.fixed 38 (by decide), hv.get 7 (d := 35) rfl rfl (hall 7 (by decide))] at ha
    rw [ha]
    have h := HO.out
    rw [if_pos (hall 6 (by decide))] at h
    exact hK q _ _ _ _ _ _ _ wc h.1 h.2
end Go.Proofs.YtggfkpalkdkbdaaDoor

/- THE WALK over Distance. -/
namespace Cd
open Go.Proofs.YtggfkpalkdkbdaaDoor
/-- Is each loss of so many pieces recoverable? -/
def lossOk (d gl : Int) (gs : List (List Int)) (s : Nat) : Bool := (setsL (rowsOf d gs gl).length s).all fun x => can d gl gs (((2 ^ (rowsOf d gs gl).length : Nat) : Int) - 1 - x)
def dist (d gl : Int) (gs : List (List Int)) : Nat := ((List.range (rowsOf d gs gl).length).find? fun s => decide (1 ≤ s) && !lossOk d gl gs s).getD (rowsOf d gs gl).length
def distI (d gl : Int) (gs : List (List Int)) : Int := if check d gs gl = 0 then dist d gl gs else 0
theorem dist_found {d gl : Int} {gs : List (List Int)} {s : Nat} (hs : s < (rowsOf d gs gl).length) (h1 : 1 ≤ s) (hb : ∀ t, 1 ≤ t → t < s → lossOk d gl gs t = true) (h : lossOk d gl gs s = false) : dist d gl gs = s := by
  have : (List.range (rowsOf d gs gl).length).find? (fun s => decide (1 ≤ s) && !lossOk d gl gs s) = some s := by
    rw [List.find?_range_eq_some]
    refine ⟨by simp [h1, h], by simpa using hs, fun j hj => ?_⟩
    by_cases h0 : 1 ≤ j
    · simp [hb j h0 hj]
    · simp [h0]
  rw [dist, this]
  rfl
theorem dist_none {d gl : Int} {gs : List (List Int)} (hb : ∀ t, 1 ≤ t → t < (rowsOf d gs gl).length → lossOk d gl gs t = true) : dist d gl gs = (rowsOf d gs gl).length := by
  have : (List.range (rowsOf d gs gl).length).find? (fun s => decide (1 ≤ s) && !lossOk d gl gs s) = none := by
    rw [List.find?_eq_none]
    intro j hj
    have hj := List.mem_range.1 hj
    by_cases h0 : 1 ≤ j
    · simp [hb j h0 hj]
    · simp [h0]
  rw [dist, this]
  rfl
end Cd
namespace Go.Proofs.YtggfkpalkdkbdaaDoor
open Go.RowKit Go.Shelf
attribute [local go_sem] Oper.semAt_some
theorem cDist_no (d gl : Int) (gs : List (List Int)) (G : Value) (w : World) (hT : Tab w) (hG : Rs (Rs RI) w G gs) (h0 : Cd.check d gs gl ≠ 0) :
    Calls Tryd.prog 26 #[.agg #[.int .i64 d, G, .int .i64 gl]] w fun e w' => e = .returned (.tuple #[.int .i64 (Cd.distI d gl gs), .int .i64 (Cd.check d gs gl)]) ∧ Ext w w' := by
  obtain ⟨A, c, rfl, hl⟩ := hG.form
  have hG1 : Rs (Rs RI) (((w.alloc (.cells #[.int .i64 d, .slice A gs.length c, .int .i64 gl] 24)).alloc (.cells #[.int .i64 0] 3)).alloc (.cells #[.int .i64 0] 27)) (.slice A gs.length c) gs := Rs.ext (Rs.ext RI.ext) _ _ _ _ ((((Ext.refl w).alloc _).alloc _).alloc _) hG
  have HT := Lib.hid hT
  have HG := Lib.hid hG1
  have e1 : (Cd.check d gs gl != 0) = true := by rw [bne_iff_ne]; exact h0
  have H0 := Lib.hid h0
  clear hT hG hG1 h0
  refine (callsIn_wide (n := 9)).1 ?_
  refine callsIn_of_wp_marks Tryd.func26 rfl trivial ?_ rfl
  simp only [Tryd.ntmps26, List.size_toArray, List.length_cons, List.length_nil, Nat.reduceAdd, Nat.reduceSub, Array.replicate_succ, Array.replicate_zero, List.push_toArray, List.append_toArray, List.nil_append, List.cons_append]
  gi_wp2_with fail
  refine ⟨trivial, (callsIn_wide.2 (cRows_any d gl gs _ _ (HT.out.ext ((((Ext.refl w).alloc _).alloc _).alloc _)) HG.out)).mono ?_⟩
  rintro e w1 ⟨v, rfl, hv, hx1⟩
  obtain ⟨RA, cR, rfl, _⟩ := hv.form
  have hc1 : w1.cell? ⟨w.heap.size + 1, 0, none⟩ = some (.int .i64 0) := hx1.cell (by go_simp)
  have hc2 : w1.cell? ⟨w.heap.size + 1 + 1, 0, none⟩ = some (.int .i64 0) := hx1.cell (by go_simp)
  have hf1 : w1.frozen? ⟨w.heap.size + 1, 0, none⟩ = false := by rw [Below.frozen hx1 (by simp)]; go_simp
  have hf2 : w1.frozen? ⟨w.heap.size + 1 + 1, 0, none⟩ = false := by rw [Below.frozen hx1 (by simp)]; go_simp
  have hsz1 : w.heap.size + 1 + 1 < w1.heap.size := by have := hx1.size; simp at this; omega
  have HX1 := Lib.hid (((((Ext.refl w).alloc _).alloc _).alloc _).trans hx1)
  have hxa : Ext w1 (w1.alloc (Obj.cells #[Value.slice RA (Cd.rowsOf d gs gl).length cR] 76)) := (Ext.refl w1).alloc _
  have hca1 := hxa.cell hc1
  have hca2 := hxa.cell hc2
  have hfa1 := (Below.frozen hxa (p := ⟨w.heap.size + 1, 0, none⟩) (by simp; omega)).trans hf1
  have hfa2 := (Below.frozen hxa (p := ⟨w.heap.size + 1 + 1, 0, none⟩) (by simp; omega)).trans hf2
  clear hv hx1 hxa
  gi_wp2_with fail
  obtain ⟨wq, hwq⟩ : ∃ wq, w1.alloc (Obj.cells #[Value.slice RA (Cd.rowsOf d gs gl).length cR] 76) = wq := ⟨_, rfl⟩
  have g1 : ((wq.setCell ⟨w.heap.size + 1, 0, none⟩ (.int .i64 0)).setCell ⟨w.heap.size + 1 + 1, 0, none⟩ (.int .i64 (Cd.check d gs gl))).cell? ⟨w.heap.size + 1, 0, none⟩ = some (.int .i64 0) := by subst hwq; go_simp
  have g2 : ((wq.setCell ⟨w.heap.size + 1, 0, none⟩ (.int .i64 0)).setCell ⟨w.heap.size + 1 + 1, 0, none⟩ (.int .i64 (Cd.check d gs gl))).cell? ⟨w.heap.size + 1 + 1, 0, none⟩ = some (.int .i64 (Cd.check d gs gl)) := by subst hwq; go_simp
  have hxq : Ext w wq := by subst hwq; exact HX1.out.alloc _
  rw [hwq]
  refine ⟨.tuple #[.int .i64 0, .int .i64 (Cd.check d gs gl)], by simp [results, Tryd.f26, go_sem, g1, g2], ?_, (hxq.below.setCell (p := ⟨w.heap.size + 1, 0, none⟩) (by simp) _).setCell (p := ⟨w.heap.size + 1 + 1, 0, none⟩) (by simp; omega) _⟩
  rw [Cd.distI, if_neg H0.out]
/-- The size that Distance has come to, read in its box. -/
def sizeAt (a : Act) (w : World) : Nat := match a.tmps.getD 7 undef with
  | .pointer (some p) => match w.cell? p with
    | some (.int _ s) => s.toNat
    | _ => 0
  | _ => 0
theorem sizeAt_eq {a : Act} {w : World} {p : Addr} {s : Nat} (h : a.tmps.getD 7 undef = .pointer (some p)) (hc : w.cell? p = some (.int .i64 s)) : sizeAt a w = s := by
  unfold sizeAt
  rw [h]
  dsimp only
  rw [hc]
  simp
set_option maxRecDepth 100000 in
set_option maxHeartbeats 8000000 in
theorem cDist_ok (d gl : Nat) (gs : List (List Int)) (G : Value) (w : World) (hT : Tab w) (hG : Rs (Rs RI) w G gs) (h0 : Cd.check d gs gl = 0) (hn : (Cd.rowsOf (d : Int) gs (gl : Int)).length ≤ 14) :
    Calls Tryd.prog 26 #[.agg #[.int .i64 d, G, .int .i64 gl]] w fun e w' => e = .returned (.tuple #[.int .i64 (Cd.distI d gl gs), .int .i64 (Cd.check d gs gl)]) ∧ Ext w w' := by
  obtain ⟨A, c, rfl, hl⟩ := hG.form
  have hG1 : Rs (Rs RI) (((w.alloc (.cells #[.int .i64 d, .slice A gs.length c, .int .i64 gl] 24)).alloc (.cells #[.int .i64 0] 3)).alloc (.cells #[.int .i64 0] 27)) (.slice A gs.length c) gs := Rs.ext (Rs.ext RI.ext) _ _ _ _ ((((Ext.refl w).alloc _).alloc _).alloc _) hG
  have HT := Lib.hid hT
  have HG := Lib.hid hG1
  have e1 : (Cd.check (d : Int) gs (gl : Int) != 0) = false := by rw [h0]; rfl
  have hk := Cd.check_ok h0
  have hrl := Cd.rowsOf_len h0
  have H0 := Lib.hid h0
  clear hT hG hG1 h0
  refine (callsIn_wide (n := 9)).1 ?_
  refine callsIn_of_wp_marks Tryd.func26 rfl trivial ?_ rfl
  simp only [Tryd.ntmps26, List.size_toArray, List.length_cons, List.length_nil, Nat.reduceAdd, Nat.reduceSub, Array.replicate_succ, Array.replicate_zero, List.push_toArray, List.append_toArray, List.nil_append, List.cons_append]
  gi_wp2_with fail
  refine ⟨trivial, (callsIn_wide.2 (cRows_any d gl gs _ _ (HT.out.ext ((((Ext.refl w).alloc _).alloc _).alloc _)) HG.out)).mono ?_⟩
  rintro e w1 ⟨v, rfl, hv, hx1⟩
  obtain ⟨RA, cR, rfl, _⟩ := hv.form
  have hc1 : w1.cell? ⟨w.heap.size + 1, 0, none⟩ = some (.int .i64 0) := hx1.cell (by go_simp)
  have hc2 : w1.cell? ⟨w.heap.size + 1 + 1, 0, none⟩ = some (.int .i64 0) := hx1.cell (by go_simp)
  have hf1 : w1.frozen? ⟨w.heap.size + 1, 0, none⟩ = false := by rw [Below.frozen hx1 (by simp)]; go_simp
  have hf2 : w1.frozen? ⟨w.heap.size + 1 + 1, 0, none⟩ = false := by rw [Below.frozen hx1 (by simp)]; go_simp
  have hsz1 : w.heap.size + 1 + 1 < w1.heap.size := by have := hx1.size; simp at this; omega
  have HX1 := Lib.hid (((((Ext.refl w).alloc _).alloc _).alloc _).trans hx1)
  have HV := Lib.hid hv
  have HC := Lib.hid (And.intro hc1 (And.intro hc2 (And.intro hf1 hf2)))
  obtain ⟨n, hnn⟩ : ∃ n, (Cd.rowsOf (d : Int) gs (gl : Int)).length = n := ⟨_, rfl⟩
  rw [hnn] at hn hrl
  rw [hnn]
  have hn1 : 1 ≤ n := by omega
  have HN := Lib.hid hnn
  have HK := Lib.hid hk
  clear hv hx1 hnn hc1 hc2 hf1 hf2 hk hrl
  gi_wp2_with fail
  obtain ⟨wp, hwp⟩ : ∃ wp, ((w1.alloc (Obj.cells #[Value.slice RA n cR] 76)).alloc (Obj.cells #[Value.int IntKind.i64 ↑n] 3)).alloc (Obj.cells #[Value.int IntKind.i64 1] 3) = wp := ⟨_, rfl⟩
  have hxp : Ext w1 wp := by rw [← hwp]; exact (((Ext.refl w1).alloc _).alloc _).alloc _
  have hszp : w1.heap.size + 1 + 1 < wp.heap.size := by rw [← hwp]; simp
  have p4 : wp.cell? ⟨w1.heap.size, 0, none⟩ = some (.slice RA n cR) := by subst hwp; go_simp
  have p6 : wp.cell? ⟨w1.heap.size + 1, 0, none⟩ = some (.int .i64 n) := by subst hwp; go_simp
  have p7 : wp.cell? ⟨w1.heap.size + 1 + 1, 0, none⟩ = some (.int .i64 1) := by subst hwp; go_simp
  rw [hwp]
  have HP := Lib.hid (And.intro hxp (And.intro p4 (And.intro p6 p7)))
  clear hwp hxp p4 p6 p7
  refine wpIn_loop (fun a w' => ∃ (s B7 hi : Nat) (u8 u19 u20 u21 u22 u23 u24 u25 u26 u27 u28 u29 u30 u31 u32 u33 u34 u35 u36 u37 : Value) (ds : List Deferred), 1 ≤ s ∧ s ≤ n ∧ B7 < w'.heap.size ∧ hi ≤ w'.heap.size ∧ a = ⟨#[Value.agg #[Value.int IntKind.i64 ↑d, Value.slice A gs.length c, Value.int IntKind.i64 ↑gl],
          Value.pointer (some { block := w.heap.size, off := 0 }),
          Value.pointer (some { block := w.heap.size + 1, off := 0 }),
          Value.pointer (some { block := w.heap.size + 1 + 1, off := 0 }),
          Value.pointer (some { block := w1.heap.size, off := 0 }), Value.int IntKind.i64 (Cd.check (↑d) gs ↑gl),
          Value.pointer (some { block := w1.heap.size + 1, off := 0 }),
          Value.pointer (some { block := B7, off := 0 }), u8,
          Value.tuple #[Value.slice RA n cR, Value.int IntKind.i64 (Cd.check (↑d) gs ↑gl)],
          Value.agg #[Value.int IntKind.i64 ↑d, Value.slice A gs.length c, Value.int IntKind.i64 ↑gl],
          Value.tuple #[Value.slice RA n cR, Value.int IntKind.i64 (Cd.check (↑d) gs ↑gl)], Value.slice RA n cR,
          Value.int IntKind.i64 (Cd.check (↑d) gs ↑gl), Value.int IntKind.i64 (Cd.check (↑d) gs ↑gl), Value.bool false,
          undef, Value.slice RA n cR, Value.int IntKind.i64 ↑n, u19, u20, u21, u22, u23, u24, u25, u26, u27, u28, u29, u30, u31, u32, u33, u34, u35, u36, u37, undef], ds⟩ ∧ w'.cell? ⟨B7, 0, none⟩ = some (.int .i64 s) ∧ Hid ((∀ t, 1 ≤ t → t < s → Cd.lossOk d gl gs t = true) ∧ Ext wp w' ∧ MarksOk wp.heap.size hi w' ds)) (fun a w' => n - sizeAt a w') ?_ ?_
  · exact ⟨1, w1.heap.size + 1 + 1, wp.heap.size, _, _, _, _, _, _, _, _, _, _, _, _, _, _, _, _, _, _, _, _, [], Nat.le_refl _, hn1, hszp, Nat.le_refl _, rfl, HP.out.2.2.2, fun t h1 h2 => by omega, Ext.refl _, trivial⟩
  · rintro a wr ⟨s, B7, hi, u8, u19, u20, u21, u22, u23, u24, u25, u26, u27, u28, u29, u30, u31, u32, u33, u34, u35, u36, u37, ds, hs1, hsn, hB7, hhi, rfl, c7, HI⟩
    have c4 : wr.cell? ⟨w1.heap.size, 0, none⟩ = some (.slice RA n cR) := HI.out.2.1.cell HP.out.2.1
    have c6 : wr.cell? ⟨w1.heap.size + 1, 0, none⟩ = some (.int .i64 n) := HI.out.2.1.cell HP.out.2.2.1
    have hszw := HI.out.2.1.size
    by_cases hlt : s < n
    · gi_wp2_with fail
      refine ⟨trivial, (callsIn_wide.2 (cSets_any n s wr)).mono ?_⟩
      rintro e w2 ⟨rfl, rfl⟩
      gi_wp2_with fail
      have hMle : 2 ^ n ≤ 16384 := show 2 ^ n ≤ 2 ^ 14 from Nat.pow_le_pow_right (by decide) hn
      have hM1 : 1 ≤ 2 ^ n := Nat.one_le_two_pow
      have hMw : IntKind.i64.wrap (2 ^ n) = ((2 ^ n : Nat) : Int) := by
        have h := wrap_pow n (by omega)
        rw [IntKind.wrap_i64]
        unfold wrap64 at h
        exact h
      obtain ⟨M, hM⟩ : ∃ M, 2 ^ n = M := ⟨_, rfl⟩
      rw [hM] at hMle hM1 hMw
      have HMM := Lib.hid hM
      have HMW := Lib.hid hMw
      have HC7 := Lib.hid (And.intro c4 (And.intro c6 c7))
      clear hM hMw c4 c6 c7
      obtain ⟨W2, hW2⟩ : ∃ W2, (wr.alloc (Obj.cells #[Value.int IntKind.i64 ↑n] 3)).alloc (Obj.cells #[Value.int IntKind.i64 ↑s] 3) = W2 := ⟨_, rfl⟩
      have hx2 : Ext wr W2 := by subst hW2; exact ((Ext.refl wr).alloc _).alloc _
      have hs2 : W2.heap.size = wr.heap.size + 2 := by subst hW2; simp
      have q1 : W2.cell? ⟨wr.heap.size, 0, none⟩ = some (.int .i64 n) := by subst hW2; go_simp
      have q2 : W2.cell? ⟨wr.heap.size + 1, 0, none⟩ = some (.int .i64 s) := by subst hW2; go_simp
      rw [hW2]
      have HX2 := Lib.hid hx2
      clear hW2 hx2
      refine wpIn_rangeFunc_ownF rfl (by decide) (gf := 84) (lb := #[.pointer (some ⟨wr.heap.size, 0, none⟩), .pointer (some ⟨wr.heap.size + 1, 0, none⟩)]) rfl trivial (enters_of Tryd.func84 (by kernel_rfl) rfl) (sets1_stops n s _ _ 8 _ hn q1 q2) belowK_t (belowK_b (Nat.le_refl _)) (Below.refl _ _) (fun _ => rfl)
        (fun pre W => (∀ x ∈ pre, Cd.can d gl gs ((M : Int) - 1 - x.1) = true) ∧ Below W2.heap.size W2 W)
        (fun c pre W => (c = .ret ∧ ∃ x ∈ pre, Cd.can d gl gs ((M : Int) - 1 - x.1) = false) ∧ (W.cell? ⟨w.heap.size + 1, 0, none⟩ = some (.int .i64 s) ∧ W.cell? ⟨w.heap.size + 1 + 1, 0, none⟩ = some (.int .i64 0)) ∧ Below w.heap.size w W ∧ MarksOk wp.heap.size hi W ds)
        (OwnFrom.and (ownFrom_pure _ _) (ownFrom_below (Nat.le_refl _) (Nat.le_refl _)))
        (fun c => OwnFrom.and (ownFrom_pure _ _) (OwnFrom.and (Own.from (fun s A B row hs hg hr => ⟨cell_kept hs.1 hg hr, cell_kept hs.2 hg hr⟩) _) (OwnFrom.and (ownFrom_below (Nat.le_refl _) (by omega)) (ownFrom_marks (by omega)))))
        ⟨by simp, Below.refl _ _⟩
        (fun x => { tmps := #[Value.agg #[Value.int IntKind.i64 ↑d, Value.slice A gs.length c, Value.int IntKind.i64 ↑gl],
          Value.pointer (some { block := w.heap.size, off := 0 }),
          Value.pointer (some { block := w.heap.size + 1, off := 0 }),
          Value.pointer (some { block := w.heap.size + 1 + 1, off := 0 }),
          Value.pointer (some { block := w1.heap.size, off := 0 }), Value.int IntKind.i64 (Cd.check (↑d) gs ↑gl),
          Value.pointer (some { block := w1.heap.size + 1, off := 0 }),
          Value.pointer (some { block := B7, off := 0 }), .int .i64 x.1,
          Value.tuple #[Value.slice RA n cR, Value.int IntKind.i64 (Cd.check (↑d) gs ↑gl)],
          Value.agg #[Value.int IntKind.i64 ↑d, Value.slice A gs.length c, Value.int IntKind.i64 ↑gl],
          Value.tuple #[Value.slice RA n cR, Value.int IntKind.i64 (Cd.check (↑d) gs ↑gl)], Value.slice RA n cR,
          Value.int IntKind.i64 (Cd.check (↑d) gs ↑gl), Value.int IntKind.i64 (Cd.check (↑d) gs ↑gl), Value.bool false,
          undef, Value.slice RA n cR, Value.int IntKind.i64 ↑n, .int .i64 s, .int .i64 n, .bool true, u22, u23, .int .i64 n, .int .i64 s, .func (.func 84) #[] #[.pointer (some ⟨wr.heap.size, 0, none⟩), .pointer (some ⟨wr.heap.size + 1, 0, none⟩)], .int .i64 x.1, u28, u29, u30, u31, u32, u33, u34, u35, u36, u37, undef], defers := [] }) ?assign ?body ?done ?stop
      case assign =>
        intro l x W K hK
        unfold encN
        gi_wp2
        exact hK
      case body =>
        rintro l pre x W ⟨hcan, hB⟩ _
        have hX : Ext wr W := HX2.out.trans hB
        have c4 := hX.cell HC7.out.1
        have c6 := hX.cell HC7.out.2.1
        have HI2 := Lib.hid (And.intro hcan hX)
        have HB := Lib.hid hB
        clear hcan hB hX
        gi_wp2_with fail
        refine wpIn_atEnd' (dist_region l w1.heap.size (w1.heap.size + 1) n M x.1 cR d gl gs RA W hn hMle hM1 HMW.out x.2 c4 c6 (Lib.hid (HT.out.ext (HX1.out.trans (HP.out.1.trans (HI.out.2.1.trans HI2.out.2))))) H0 (Lib.hid (Rs.ext (Rs.ext RB.ext) _ _ _ _ (HP.out.1.trans (HI.out.2.1.trans HI2.out.2)) (by have h := HV.out; rw [HN.out] at h; exact h))) HN _ _ _ _ _ _ _ _ _ _ _ _ _ _ _ _ _ _ _ _ _ _ _ _ _ _ _ _ _ _ _ _ _ _ _ _ _ _ ?_)
        intro q u28 u29 u30 u31 u32 u33 u34 wx hq hxx
        have hxx1 : Ext w1 wx := HP.out.1.trans (HI.out.2.1.trans (HI2.out.2.trans hxx))
        have HXX := Lib.hid hxx
        have HXX1 := Lib.hid hxx1
        cases q with
        | none =>
          have c7 := hxx.cell (HI2.out.2.cell HC7.out.2.2)
          have r1 := hxx1.cell HC.out.1
          have r2 := hxx1.cell HC.out.2.1
          have f1 : wx.frozen? ⟨w.heap.size + 1, 0, none⟩ = false := (Below.frozen hxx1 (by simp; omega)).trans HC.out.2.2.1
          have f2 : wx.frozen? ⟨w.heap.size + 1 + 1, 0, none⟩ = false := (Below.frozen hxx1 (by simp; omega)).trans HC.out.2.2.2
          have HQ := Lib.hid hq
          clear hxx hxx1 hq
          gi_wp2_with fail
          exact ⟨HXX.out.keepsOthers.trans ((KeepsOthers.setCell _ _ _).trans (KeepsOthers.setCell _ _ _)), ⟨rfl, x, by simp, HQ.out⟩, ⟨by go_simp, by go_simp⟩, ((HX1.out.trans HXX1.out).setCell (p := ⟨w.heap.size + 1, 0, none⟩) (by simp) _).setCell (p := ⟨w.heap.size + 1 + 1, 0, none⟩) (by simp; omega) _, (HI.out.2.2.ext (HI2.out.2.trans HXX.out)).kept (Nat.le_refl _) (fun D _ _ h => ((KeepsOthers.setCell _ _ _).trans (KeepsOthers.setCell _ _ _)).same D _ h rfl)⟩
        | some q =>
          have HQ := Lib.hid hq
          clear hxx hxx1 hq
          gi_wp2_with fail
          exact ⟨HXX.out.keepsOthers, Below.mono HXX.out HB.out.size, fun y hy => by
            rcases List.mem_append.1 hy with hy | hy
            · exact HI2.out.1 y hy
            · rw [List.mem_singleton.1 hy]; exact HQ.out, HB.out.trans (Below.mono HXX.out HB.out.size)⟩
      case done =>
        rintro D xs W hD hS ⟨hcan, hB⟩ hK
        have hX : Ext wr W := HX2.out.trans hB
        have c7 := hX.cell HC7.out.2.2
        have hDl := (Array.getElem?_eq_some_iff.1 hK).1
        have hloss : Cd.lossOk d gl gs s = true := by
          unfold Cd.lossOk
          rw [HN.out, HMM.out, List.all_eq_true]
          intro y hy
          rw [← hS] at hy
          obtain ⟨x, hx, rfl⟩ := List.mem_map.1 hy
          exact hcan x hx
        have HX := Lib.hid hX
        have HL := Lib.hid (And.intro hloss hK)
        clear hcan hB hX hloss hS hK
        gi_wp2_with fail
        have cn : (W.alloc (Obj.cells #[Value.int IntKind.i64 ((s : Int) + 1)] 3)).cell? ⟨W.heap.size, 0, none⟩ = some (.int .i64 ((s : Int) + 1)) := by go_simp
        have cn2 := cn.trans (congrArg some (show Value.int .i64 ((s : Int) + 1) = .int .i64 ((s + 1 : Nat) : Int) from rfl))
        have hxa : Ext W (W.alloc (Obj.cells #[Value.int IntKind.i64 ((s : Int) + 1)] 3)) := (Ext.refl W).alloc _
        refine ⟨⟨s + 1, W.heap.size, D + 1, _, _, _, _, _, _, _, _, _, _, _, _, _, _, _, _, _, _, _, _, _, by omega, by omega, by simp, by simp; omega, rfl, cn2, fun t h1 h2 => ?_, HI.out.2.1.trans (HX.out.trans hxa), (HI.out.2.2.ext (HX.out.trans hxa)).push (fun _ _ _ h => h) (by omega) (by omega) (hxa.heap HL.out.2)⟩, ?_⟩
        · by_cases hts : t = s
          · rw [hts]; exact HL.out.1
          · exact HI.out.1 t h1 (by omega)
        · rw [sizeAt_eq rfl cn2, sizeAt_eq rfl HC7.out.2.2]
          omega
      case stop =>
        rintro D c pre W hD hS ⟨⟨rfl, x, hx, hcan⟩, hcells, hBw, hMk⟩ hK
        have hloss : Cd.lossOk d gl gs s = false := by
          obtain ⟨k, hk, hS⟩ := hS
          unfold Cd.lossOk
          rw [HN.out, HMM.out, List.all_eq_false]
          have hin : x.1 ∈ Cd.setsTo s (k + 1) := by rw [← hS]; exact List.mem_map.2 ⟨x, hx, rfl⟩
          have hin2 : x.1 ∈ Cd.setsL n s := by
            unfold Cd.setsTo at hin
            unfold Cd.setsL Cd.setsTo
            rw [List.mem_filter, List.mem_range] at hin ⊢
            exact ⟨by omega, hin.2⟩
          exact ⟨x.1, hin2, by rw [hcan]; simp⟩
        have hdist := Cd.dist_found (by rw [HN.out]; exact hlt) hs1 HI.out.1 hloss
        gi_wp2_with fail
        refine leaves_marks (hMk.push (fun _ _ _ h => h) (by omega) (by omega) hK) fun w' hw' => ?_
        have hr1 := (Below.cell hw' (p := ⟨w.heap.size + 1, 0, none⟩) (by simp; omega)).trans hcells.1
        have hr2 := (Below.cell hw' (p := ⟨w.heap.size + 1 + 1, 0, none⟩) (by simp; omega)).trans hcells.2
        refine ⟨.tuple #[.int .i64 s, .int .i64 0], by simp [results, Tryd.f26, go_sem, hr1, hr2], ?_, hBw.trans (Below.mono hw' (by omega))⟩
        rw [Cd.distI, if_pos H0.out, hdist, H0.out]
    · obtain rfl : s = n := by omega
      have hdist := Cd.dist_none (fun t h1 h2 => HI.out.1 t h1 (by rw [HN.out] at h2; exact h2))
      have hx1 : Ext w1 wr := HP.out.1.trans HI.out.2.1
      have r1 := hx1.cell HC.out.1
      have r2 := hx1.cell HC.out.2.1
      have f1 : wr.frozen? ⟨w.heap.size + 1, 0, none⟩ = false := (Below.frozen hx1 (by simp; omega)).trans HC.out.2.2.1
      have f2 : wr.frozen? ⟨w.heap.size + 1 + 1, 0, none⟩ = false := (Below.frozen hx1 (by simp; omega)).trans HC.out.2.2.2
      have HD := Lib.hid hdist
      have HX := Lib.hid (HX1.out.trans hx1)
      clear hdist hx1
      gi_wp2_with fail
      have hM : MarksOk wp.heap.size hi ((wr.setCell ⟨w.heap.size + 1, 0, none⟩ (.int .i64 s)).setCell ⟨w.heap.size + 1 + 1, 0, none⟩ (.int .i64 0)) ds := HI.out.2.2.kept (Nat.le_refl _) (fun D _ _ h => ((KeepsOthers.setCell _ _ _).trans (KeepsOthers.setCell _ _ _)).same D _ h rfl)
      refine leaves_marks hM fun w' hw' => ?_
      have g1 : ((wr.setCell ⟨w.heap.size + 1, 0, none⟩ (.int .i64 s)).setCell ⟨w.heap.size + 1 + 1, 0, none⟩ (.int .i64 0)).cell? ⟨w.heap.size + 1, 0, none⟩ = some (.int .i64 s) := by go_simp
      have g2 : ((wr.setCell ⟨w.heap.size + 1, 0, none⟩ (.int .i64 s)).setCell ⟨w.heap.size + 1 + 1, 0, none⟩ (.int .i64 0)).cell? ⟨w.heap.size + 1 + 1, 0, none⟩ = some (.int .i64 0) := by go_simp
      have hr1 := (Below.cell hw' (p := ⟨w.heap.size + 1, 0, none⟩) (by simp; omega)).trans g1
      have hr2 := (Below.cell hw' (p := ⟨w.heap.size + 1 + 1, 0, none⟩) (by simp; omega)).trans g2
      refine ⟨.tuple #[.int .i64 s, .int .i64 0], by simp [results, Tryd.f26, go_sem, hr1, hr2], ?_, ((HX.out.below.setCell (p := ⟨w.heap.size + 1, 0, none⟩) (by simp) _).setCell (p := ⟨w.heap.size + 1 + 1, 0, none⟩) (by simp; omega) _).trans (Below.mono hw' (by omega))⟩
      rw [Cd.distI, if_pos H0.out, HD.out, HN.out, H0.out]
/-- DISTANCE: what the plain text says, for codes of at most 14 pieces. -/
theorem cDist_any (d gl : Int) (gs : List (List Int)) (G : Value) (w : World) (hT : Tab w) (hG : Rs (Rs RI) w G gs) (hn : (Cd.rowsOf d gs gl).length ≤ 14) :
    Calls Tryd.prog 26 #[.agg #[.int .i64 d, G, .int .i64 gl]] w fun e w' => e = .returned (.tuple #[.int .i64 (Cd.distI d gl gs), .int .i64 (Cd.check d gs gl)]) ∧ Ext w w' := by
  by_cases h0 : Cd.check d gs gl = 0
  · have hk := Cd.check_ok h0
    obtain ⟨d', rfl⟩ : ∃ k : Nat, d = k := ⟨d.toNat, by omega⟩
    obtain ⟨gl', rfl⟩ : ∃ k : Nat, gl = k := ⟨gl.toNat, by omega⟩
    exact cDist_ok d' gl' gs G w hT hG h0 hn
  · exact cDist_no d gl gs G w hT hG h0
end Go.Proofs.YtggfkpalkdkbdaaDoor

/- DISTANCE of the specification, in plain terms: it is the program's. -/
namespace Cd
open Gf
/-- Every element of one set is in the other. -/
def SubS (a b : Nat) : Prop := ∀ i, bitAt a i = 1 → bitAt b i = 1
theorem pickTo_subS {rows : List (List UInt8)} {a b : Nat} (h : SubS a b) {k : Nat} {r : List UInt8} (hr : r ∈ pickTo rows a k) : r ∈ pickTo rows b k := by
  simp only [pickTo, List.mem_filterMap] at hr ⊢
  obtain ⟨i, hi, h2⟩ := hr
  refine ⟨i, hi, ?_⟩
  split at h2
  · rename_i h3
    rw [if_pos (h i h3)]
    exact h2
  · cases h2
/-- With more pieces a chunk can still be made again. -/
theorem can_monoS {d gl : Int} {gs : List (List Int)} {a b : Nat} (h : SubS a b) (hb : b < 2 ^ (rowsOf d gs gl).length) (hc : can d gl gs (a : Int) = true) : can d gl gs (b : Int) = true := by
  rw [can_def] at hc ⊢
  obtain ⟨h0, _, h3⟩ := hc
  refine ⟨h0, hb, ?_⟩
  have hw : ∀ (m : Nat), ∀ r ∈ pick (rowsOf d gs gl) m, r.length = d.toNat := fun m r hr => rowsOf_width h0 (pickTo_mem hr)
  rw [Gf.stairs_iff (hw b)]
  rw [Gf.stairs_iff (hw a)] at h3
  exact fun v => (h3 v).mono fun x hx => pickTo_subS h hx
theorem cntF_zero : ∀ k, Ones.cntF k 0 = 0
  | 0 => rfl
  | k + 1 => by rw [Ones.cntF, show 0 / 2 = 0 from rfl, cntF_zero k]
theorem cntF_more (e : Nat) : ∀ (k x : Nat), x < 2 ^ k → Ones.cntF (k + e) x = Ones.cntF k x
  | 0, x, h => by
    obtain rfl : x = 0 := by simp at h; exact h
    rw [cntF_zero]; rfl
  | k + 1, x, h => by
    have h2 : x / 2 < 2 ^ k := by rw [Nat.pow_succ] at h; omega
    rw [show k + 1 + e = (k + e) + 1 from by omega, Ones.cntF, Ones.cntF, cntF_more e k (x / 2) h2]
theorem cnt_small {P x : Nat} (hP : P ≤ 16) (h : x < 2 ^ P) : Ones.cnt x = Ones.cntF P x := by
  unfold Ones.cnt
  rw [show (16 : Nat) = P + (16 - P) from by omega]
  exact cntF_more (16 - P) P x h
theorem cntF_compl : ∀ (k x : Nat), x < 2 ^ k → Ones.cntF k (2 ^ k - 1 - x) + Ones.cntF k x = k
  | 0, x, h => rfl
  | k + 1, x, h => by
    obtain ⟨M, hM⟩ : ∃ M, 2 ^ k = M := ⟨_, rfl⟩
    have hp : 2 ^ (k + 1) = 2 * M := by rw [Nat.pow_succ, hM]; omega
    rw [hp] at h ⊢
    have ih := cntF_compl k (x / 2) (by rw [hM]; omega)
    rw [hM] at ih
    rw [Ones.cntF, Ones.cntF, show (2 * M - 1 - x) / 2 = M - 1 - x / 2 from by omega]
    omega
theorem cnt_compl {P x : Nat} (hP : P ≤ 16) (h : x < 2 ^ P) : Ones.cnt (2 ^ P - 1 - x) + Ones.cnt x = P := by
  rw [cnt_small hP h, cnt_small hP (by omega), cntF_compl P x h]
/-- The least loss that is not recoverable, of the first k sets. -/
def distTo (P : Nat) (f : Nat → Bool) : Nat → Nat
  | 0 => P
  | k + 1 => if P - Ones.cnt k < distTo P f k ∧ f k = false then P - Ones.cnt k else distTo P f k
/-- D is the least loss that is not recoverable. -/
structure IsDist (P : Nat) (f : Nat → Bool) (n D : Nat) : Prop where
  le : D ≤ P
  least : ∀ m, m < n → f m = false → D ≤ P - Ones.cnt m
  hit : D = P ∨ ∃ m, m < n ∧ f m = false ∧ D = P - Ones.cnt m
theorem IsDist.one {P n D E : Nat} {f : Nat → Bool} (h : IsDist P f n D) (k : IsDist P f n E) : D = E := by
  have h1 : D ≤ E := by
    rcases k.hit with e | ⟨m, m1, m2, e⟩
    · rw [e]; exact h.le
    · rw [e]; exact h.least m m1 m2
  have h2 : E ≤ D := by
    rcases h.hit with e | ⟨m, m1, m2, e⟩
    · rw [e]; exact k.le
    · rw [e]; exact k.least m m1 m2
  omega
/-- Without a loss every chunk is made again. -/
theorem can_full {d gl : Nat} {gs : List (List Int)} (h0 : check d gs gl = 0) : can d gl gs ((2 ^ (rowsOf (d : Int) gs (gl : Int)).length - 1 : Nat) : Int) = true := by
  obtain ⟨L, hL⟩ : ∃ L, (rowsOf (d : Int) gs (gl : Int)).length = L := ⟨_, rfl⟩
  rw [hL, can_def]
  have hpos : 0 < 2 ^ L := Nat.pow_pos (by omega)
  refine ⟨h0, by rw [hL]; omega, ?_⟩
  have hw : ∀ r ∈ pick (rowsOf (d : Int) gs (gl : Int)) (2 ^ L - 1), r.length = d := fun r hr => by have := rowsOf_width h0 (pickTo_mem hr); simpa using this
  rw [Int.toNat_natCast, Gf.stairs_iff hw, ← UF_all]
  intro q _ hq
  have hlen := rowsOf_len h0
  rw [hL] at hlen
  have hqL : q < L := by omega
  have hrow : (rowsOf (d : Int) gs (gl : Int)).getD q [] = (List.range d).map (rowAt d gs q) := by
    rw [rowsOf_ok h0]
    exact rows_get (by show q < d + gs.length + gl; omega)
  have hmem : (List.range d).map (rowAt d gs q) ∈ pick (rowsOf (d : Int) gs (gl : Int)) (2 ^ L - 1) := by
    unfold pick pickTo
    refine List.mem_filterMap.2 ⟨q, List.mem_range.2 (by rw [hL]; exact hqL), ?_⟩
    have hb : bitAt (2 ^ L - 1) q = 1 := by
      rw [bit_test, Nat.testBit_two_pow_sub_one]
      simpa using hqL
    rw [if_pos hb, List.getElem?_eq_getElem (by rw [hL]; exact hqL), ← hrow, List.getD_eq_getElem?_getD, List.getElem?_eq_getElem (by rw [hL]; exact hqL)]
    rfl
  refine (SpanL.mem hmem).congr fun i hi => ?_
  show unit q i = ((List.range d).map (rowAt d gs q)).getD i 0
  rw [getD_map_range _ _ hi, rowAt_unit gs i hq, unit]
  by_cases hiq : i = q
  · subst hiq; rw [if_pos rfl, unitAt_eq]
  · rw [if_neg hiq, unitAt_ne hiq]
theorem dist_is {d gl : Nat} {gs : List (List Int)} {P : Nat} (h0 : check d gs gl = 0) (hP : (rowsOf (d : Int) gs (gl : Int)).length = P) (hP16 : P ≤ 16) : IsDist P (fun m => can d gl gs (m : Int)) (2 ^ P) (dist d gl gs) := by
  have hpos : 0 < 2 ^ P := Nat.pow_pos (by omega)
  have hfull := can_full h0
  rw [hP] at hfull
  have hcast : ∀ x : Nat, x < 2 ^ P → ((2 ^ P : Nat) : Int) - 1 - (x : Int) = ((2 ^ P - 1 - x : Nat) : Int) := fun x hx => by omega
  have hok : ∀ s, lossOk d gl gs s = true ↔ ∀ x : Nat, x < 2 ^ P → Ones.cnt x = s → can d gl gs ((2 ^ P - 1 - x : Nat) : Int) = true := fun s => by
    unfold lossOk
    rw [hP, List.all_eq_true]
    unfold setsL setsTo
    constructor
    · intro h x hx hs
      have := h x (List.mem_filter.2 ⟨List.mem_range.2 hx, by simpa using hs⟩)
      rwa [hcast x hx] at this
    · intro h x hx
      obtain ⟨h1, h2⟩ := List.mem_filter.1 hx
      have h1 := List.mem_range.1 h1
      rw [hcast x h1]
      exact h x h1 (by simpa using h2)
  have hlow : ∀ s, (∀ t, 1 ≤ t → t < s → lossOk d gl gs t = true) → s ≤ P → ∀ m : Nat, m < 2 ^ P → can d gl gs (m : Int) = false → s ≤ P - Ones.cnt m := fun s hs hsP m hm hf => by
    have hc := cnt_compl hP16 hm
    have hx : 2 ^ P - 1 - (2 ^ P - 1 - m) = m := by omega
    by_cases h1 : s ≤ P - Ones.cnt m
    · exact h1
    · exfalso
      by_cases ht : Ones.cnt (2 ^ P - 1 - m) = 0
      · have hz : 2 ^ P - 1 - m = 0 := by
          rw [cnt_small hP16 (by omega)] at ht
          have hall : ∀ (k x : Nat), x < 2 ^ k → Ones.cntF k x = 0 → x = 0 := by
            intro k
            induction k with
            | zero => intro x hx _; simp at hx; exact hx
            | succ k ih =>
              intro x hx hc
              rw [Ones.cntF] at hc
              have := ih (x / 2) (by rw [Nat.pow_succ] at hx; omega) (by omega)
              omega
          exact hall P _ (by omega) ht
        rw [show m = 2 ^ P - 1 from by omega, hfull] at hf
        cases hf
      · have := (hok (Ones.cnt (2 ^ P - 1 - m))).1 (hs _ (by omega) (by omega)) (2 ^ P - 1 - m) (by omega) rfl
        rw [hx, hf] at this
        cases this
  by_cases hex : ∃ s, 1 ≤ s ∧ s < P ∧ lossOk d gl gs s = false
  · obtain ⟨s, hs1, hs2, hs3, hs4⟩ : ∃ s, 1 ≤ s ∧ s < P ∧ lossOk d gl gs s = false ∧ ∀ t, 1 ≤ t → t < s → lossOk d gl gs t = true := by
      obtain ⟨s, h1, h2, h3⟩ := hex
      induction s using Nat.strongRecOn with
      | ind s ih =>
        by_cases hb : ∀ t, 1 ≤ t → t < s → lossOk d gl gs t = true
        · exact ⟨s, h1, h2, h3, hb⟩
        · have : ∃ t, 1 ≤ t ∧ t < s ∧ lossOk d gl gs t = false := by
            apply Classical.byContradiction
            intro hn
            apply hb
            intro t t1 t2
            cases hl : lossOk d gl gs t with
            | true => rfl
            | false => exact absurd ⟨t, t1, t2, hl⟩ hn
          obtain ⟨t, t1, t2, t3⟩ := this
          exact ih t t2 t1 (by omega) t3
    rw [dist_found (by rw [hP]; exact hs2) hs1 hs4 hs3]
    refine ⟨by omega, hlow s hs4 (by omega), .inr ?_⟩
    have : ∃ x : Nat, x < 2 ^ P ∧ Ones.cnt x = s ∧ can d gl gs ((2 ^ P - 1 - x : Nat) : Int) = false := by
      apply Classical.byContradiction
      intro hn
      have h := (hok s).2 fun x hx hc => by
        cases hl : can d gl gs ((2 ^ P - 1 - x : Nat) : Int) with
        | true => rfl
        | false => exact absurd ⟨x, hx, hc, hl⟩ hn
      rw [h] at hs3
      cases hs3
    obtain ⟨x, x1, x2, x3⟩ := this
    refine ⟨2 ^ P - 1 - x, by omega, x3, ?_⟩
    have := cnt_compl hP16 x1
    omega
  · have hall : ∀ t, 1 ≤ t → t < P → lossOk d gl gs t = true := fun t t1 t2 => by
      cases hl : lossOk d gl gs t with
      | true => rfl
      | false => exact absurd ⟨t, t1, t2, hl⟩ hex
    rw [dist_none (by rw [hP]; exact hall), hP]
    exact ⟨Nat.le_refl _, hlow P hall (Nat.le_refl _), .inl rfl⟩
attribute [irreducible] distTo
end Cd

/- THE PLAIN LAW behind LocateNeeds; detB in terms of Suff. -/
namespace Lo
open Gf Cd
section
variable {d gl : Int} {gs : List (List Int)} {P : Nat}
theorem can_none (h : check d gs gl = 0) : can d gl gs 0 = false := by
  have hk := check_ok h
  have h1 : ¬ can d gl gs ((0 : Nat) : Int) = true := by
    rw [can_def]
    rintro ⟨_, _, h2⟩
    have h3 : pick (rowsOf d gs gl) 0 = [] := by
      unfold pick pickTo
      rw [List.filterMap_eq_nil_iff]
      intro i _
      rw [if_neg (by simp [bitAt])]
    rw [h3] at h2
    unfold Gf.stairs at h2
    simp at h2
    omega
  cases hc : can d gl gs 0 with
  | false => rfl
  | true => exact absurd hc h1
theorem chk_fine (h : check d gs gl = 0) (hP : (rowsOf d gs gl).length = P) {M : Nat} (hM : M < 2 ^ P) : chkE d gl gs (M : Int) = 0 := chkE_fine h (by rw [hP]; omega)
theorem det_suff (h : check d gs gl = 0) (hP : (rowsOf d gs gl).length = P) (hP14 : P ≤ 14) {M k : Nat} (hM : M < 2 ^ P) (hk : k ≤ 4) : detE d gl gs (M : Int) (k : Int) = 0 ∧ (detB d gl gs (M : Int) (k : Int) = true ↔ Suff (fun t => can d gl gs (t : Int)) M k) := by
  have hr := det_ok (chk_fine h hP hM) (wrong := (k : Int)) (by omega)
  rw [Int.toNat_natCast, Int.toNat_natCast, hP] at hr
  refine ⟨hr.2, ?_⟩
  rw [hr.1]
  exact suff_iff hM (by omega) (can_none h) k
theorem cor_suff (h : check d gs gl = 0) (hP : (rowsOf d gs gl).length = P) (hP14 : P ≤ 14) {M k : Nat} (hM : M < 2 ^ P) (hk : k ≤ 2) : corE d gl gs (M : Int) (k : Int) = 0 ∧ (corB d gl gs (M : Int) (k : Int) = true ↔ Suff (fun t => can d gl gs (t : Int)) M (2 * k)) := by
  have hr := cor_ok (chk_fine h hP hM) (wrong := (k : Int)) (by omega)
  rw [Int.toNat_natCast, Int.toNat_natCast, hP] at hr
  refine ⟨hr.2, ?_⟩
  rw [hr.1]
  exact suff_iff hM (by omega) (can_none h) (2 * k)
theorem det_cor (h : check d gs gl = 0) (hP : (rowsOf d gs gl).length = P) (hP14 : P ≤ 14) {M k : Nat} (hM : M < 2 ^ P) (hk : k ≤ 2) : detB d gl gs (M : Int) ((2 * k : Nat) : Int) = corB d gl gs (M : Int) (k : Int) := by
  rw [Bool.eq_iff_iff, (det_suff h hP hP14 hM (show 2 * k ≤ 4 by omega)).2, (cor_suff h hP hP14 hM hk).2]
theorem can_up (hP : (rowsOf d gs gl).length = P) {Q : Nat} (hQ : Q < 2 ^ P) : ∀ a b, Sub a b → b ≤ Q → (fun t : Nat => can d gl gs (t : Int)) a = true → (fun t : Nat => can d gl gs (t : Int)) b = true := fun a b hs hb h => can_monoS hs (by rw [hP]; omega) h
theorem det_wide (h : check d gs gl = 0) (hP : (rowsOf d gs gl).length = P) (hP14 : P ≤ 14) {M Q k : Nat} (hQ : Q < 2 ^ P) (hs : Sub M Q) (hk : k ≤ 4) (hd : detB d gl gs (M : Int) (k : Int) = true) : detB d gl gs (Q : Int) (k : Int) = true := by
  have hM : M < 2 ^ P := Nat.lt_of_le_of_lt (sub_le hs) hQ
  rw [(det_suff h hP hP14 hM hk).2] at hd
  rw [(det_suff h hP hP14 hQ hk).2]
  exact suff_more hs (can_up hP hQ) hd
theorem det_fewer (h : check d gs gl = 0) (hP : (rowsOf d gs gl).length = P) (hP14 : P ≤ 14) {M j k : Nat} (hM : M < 2 ^ P) (hj : j ≤ k) (hk : k ≤ 4) (hd : detB d gl gs (M : Int) (k : Int) = true) : detB d gl gs (M : Int) (j : Int) = true := by
  rw [(det_suff h hP hP14 hM hk).2] at hd
  rw [(det_suff h hP hP14 hM (by omega)).2]
  exact suff_less hd hj
end
theorem sub_or {M x : Nat} : Sub M (M ||| x) := fun i hi => (or_bit M x i).2 (.inl hi)
theorem cnt_is (m : Nat) : Ones.cnt m = num m := Go.Proofs.YtggfkpalkdkbdaaDoor.cnt_num m
theorem det_near {d gl : Nat} {gs : List (List Int)} {P : Nat} (h : check d gs gl = 0) (hP : (rowsOf (d : Int) gs (gl : Int)).length = P) (hP14 : P ≤ 14) {M k : Nat} (hM : M < 2 ^ P) (hk : k ≤ 4) (hl : k + (P - num M) < dist d gl gs) : detB d gl gs (M : Int) (k : Int) = true := by
  rw [(det_suff h hP hP14 hM hk).2]
  refine suff_near (P := P) (D := dist d gl gs) hM (fun a ha hn => ?_) hl
  have hI := dist_is h hP (by omega)
  cases hc : can (d : Int) (gl : Int) gs (a : Int) with
  | true => rfl
  | false =>
    have h1 := hI.least a ha hc
    rw [cnt_is] at h1
    omega
end Lo

/- THE EXAMPLES of the document's chapter on locating, worked out. -/
namespace Lo
open Gf Cd
def exG : List (List Int) := [[0, 1], [2, 3]]
def exL : List (List UInt8) := [[1, 2], [3, 4], [5, 6], [7, 0], [2, 6], [2, 6], [43, 18]]
def exOne : List (List UInt8) := exL.set 2 [9, 9]
def exTwo : List (List UInt8) := exOne.set 3 [9, 9]
def exA : List (List UInt8) := exL.set 4 [2, 7]
def exB : List (List UInt8) := exL.set 6 [0, 0]
theorem ex_det2 : detB 4 1 exG 127 2 = true ∧ detE 4 1 exG 127 2 = 0 := by decide +kernel
theorem ex_det3 : detB 4 1 exG 127 3 = false ∧ detE 4 1 exG 127 3 = 0 := by decide +kernel
theorem ex_cor1 : corB 4 1 exG 127 1 = true ∧ corE 4 1 exG 127 1 = 0 := by decide +kernel
theorem ex_cor63 : corB 4 1 exG 63 1 = false ∧ corE 4 1 exG 63 1 = 0 := by decide +kernel
theorem ex_fit : fitB 4 1 exG 7 19 exL = true ∧ givE 4 1 exG 7 19 exL = 0 := by decide +kernel
theorem ex_fitA : fitB 4 1 exG 7 19 exA = false ∧ givE 4 1 exG 7 19 exA = 0 := by decide +kernel
theorem ex_one : locR 4 1 exG 7 127 exOne 1 = ([1, 2, 3, 4, 5, 6, 7], 4, 0) := by decide +kernel
theorem ex_two : (locR 4 1 exG 7 127 exTwo 1).2.2 = 17 := by decide +kernel
end Lo

/- THE EXAMPLES of Clash, worked out. -/
namespace Lo
open Gf Cd
def ltB (a b : Nat) : Bool := decide (num a < num b) || (num a == num b && befF 16 a b)
theorem ltB_iff {a b : Nat} (ha : a < 2 ^ 16) (hb : b < 2 ^ 16) : ltB a b = true ↔ Lt a b := by
  unfold ltB Lt
  rw [Bool.or_eq_true, Bool.and_eq_true, decide_eq_true_iff, beq_iff_eq, befF_iff 16 a b ha hb]
def leastB (bad : Nat → Bool) (x : Nat) : Bool := x != 0 && decide (x < 128) && bad x && (List.range 128).all fun z => z == 0 || !bad z || z == x || ltB x z
theorem sub127 {z : Nat} (h : z < 128) : Sub z 127 := by
  rw [← and_sub]
  have := Nat.and_two_pow_sub_one_eq_mod z 7
  rw [show (2 : Nat) ^ 7 - 1 = 127 from rfl, show (2 : Nat) ^ 7 = 128 from rfl] at this
  rw [this]; exact Nat.mod_eq_of_lt h
theorem leastB_least {bad : Nat → Bool} {x : Nat} (h : leastB bad x = true) : Least bad 127 x := by
  unfold leastB at h
  rw [Bool.and_eq_true, Bool.and_eq_true, Bool.and_eq_true, bne_iff_ne, decide_eq_true_iff, List.all_eq_true] at h
  obtain ⟨⟨⟨h1, h2⟩, h3⟩, h4⟩ := h
  refine ⟨h1, sub127 h2, h3, fun z hz hs hb => ?_⟩
  have hz2 : z < 128 := by have := sub_le hs; omega
  have h5 := h4 z (List.mem_range.2 hz2)
  rw [Bool.or_eq_true, Bool.or_eq_true, Bool.or_eq_true, beq_iff_eq, beq_iff_eq, hb] at h5
  rcases h5 with ((h5 | h5) | h5) | h5
  · exact absurd h5 hz
  · cases h5
  · exact .inl h5
  · exact .inr ((ltB_iff (by omega) (by omega)).1 h5)
theorem cl_ex {d gl : Int} {gs : List (List Int)} {pieces : List (List UInt8)} {x E : Int} {X : Nat} (hg : givE d gl gs 7 127 pieces = 0) (h : leastB (badSet d gl gs pieces) X = true) (hc : ClashOut d gl gs 7 127 pieces x E) : x = X ∧ E = 0 := by
  have hl := leastB_least h
  rcases hc with ⟨h1, _⟩ | ⟨_, h1, _⟩ | ⟨_, _, h1 | ⟨Y, rfl, rfl, h1⟩⟩
  · exact absurd hg h1
  · exact absurd h1 (by decide +kernel)
  · have := h1.2.2 X hl.1 hl.2.1
    rw [hl.2.2.1] at this
    cases this
  · rw [Least.one h1 hl]; exact ⟨rfl, rfl⟩
theorem cl_exN {d gl : Int} {gs : List (List Int)} {pieces : List (List UInt8)} {x E : Int} (hg : givE d gl gs 7 127 pieces = 0) (h : ((List.range 128).all fun z => z == 0 || !badSet d gl gs pieces z) = true) (hc : ClashOut d gl gs 7 127 pieces x E) : E = 8 := by
  rcases hc with ⟨h1, _⟩ | ⟨_, h1, _⟩ | ⟨_, _, h1 | ⟨Y, rfl, rfl, h1⟩⟩
  · exact absurd hg h1
  · exact absurd h1 (by decide +kernel)
  · exact h1.2.1
  · rw [List.all_eq_true] at h
    have hy : Y < 128 := by have := sub_le h1.2.1; have e : (127 : Int).toNat = 127 := rfl; rw [e] at this; omega
    have h2 := h Y (List.mem_range.2 hy)
    rw [Bool.or_eq_true, beq_iff_eq, h1.2.2.1] at h2
    rcases h2 with h2 | h2
    · exact absurd h2 h1.1
    · cases h2
theorem ex_givA : givE 4 1 exG 7 127 exA = 0 := by decide +kernel
theorem ex_givB : givE 4 1 exG 7 127 exB = 0 := by decide +kernel
theorem ex_givL : givE 4 1 exG 7 127 exL = 0 := by decide +kernel
theorem ex_clA : leastB (badSet 4 1 exG exA) 19 = true := by decide +kernel
theorem ex_clB : leastB (badSet 4 1 exG exB) 79 = true := by decide +kernel
theorem ex_clL : ((List.range 128).all fun z => z == 0 || !badSet 4 1 exG exL z) = true := by decide +kernel
end Lo

/- example, with, and the drawn regions of sanity (quietuslaw09). -/
namespace Go.Proofs.YtggfkpalkdkbdaaDoor
open Go.RowKit
theorem ex_extract9 {P : Program} {o : Oper} {a : Act} {w : World} {i : Nat} {x : Operand} {vs : Array Value} {v : Value} (ho : o.op = .extract x i) (hx : a.eval x = .tuple vs) (hi : vs[i]? = some v) : (execOp a.eval o).run P w = .ok (.value v) w := by
  unfold execOp
  simp only [ho, hx, Instr.extract, hi, Sem.run_bind, Sem.run_pure, Result.andThen_ok]
/-- The cells of a block. -/
def Cells (w : World) (B : Nat) (cs : List Value) : Prop := ∀ (i : Nat) v, cs[i]? = some v → w.cell? ⟨B, i, none⟩ = some v
theorem Cells.ext {w w' : World} {B : Nat} {cs : List Value} (h : Cells w B cs) (hx : Ext w w') : Cells w' B cs := fun i v hi => hx.cell (h i v hi)
theorem cells_new (w : World) (cs : Array Value) (t : TypeId) : Cells (w.alloc (.cells cs t)) w.heap.size cs.toList := fun i v hi => cell_of_row _ _ i cs t (0, 0) (heap_new _ _) |>.trans (by simpa using hi)
theorem Rs.two {α : Type} {R : World → Value → α → Prop} {w : World} {g c : Nat} {u0 u1 : Value} {x0 x1 : α} (h0 : w.cell? ⟨g, 0, none⟩ = some u0) (r0 : R w u0 x0) (h1 : w.cell? ⟨g, 1, none⟩ = some u1) (r1 : R w u1 x1) : Rs R w (.slice (some ⟨g, 0, none⟩) 2 c) [x0, x1] :=
  ⟨some ⟨g, 0, none⟩, c, rfl, by simp, fun i x hi => by
    match i, hi with
    | 0, hi => simp at hi; subst hi; exact ⟨_, u0, rfl, h0, r0⟩
    | 1, hi => simp at hi; subst hi; exact ⟨_, u1, rfl, h1, r1⟩
    | i + 2, hi => simp at hi⟩
theorem rt_lit {W : World} {g c : Nat} {l : List (List UInt8)} (h : Cells W g (l.map sv)) (hl : l.length ≤ 1000) : Rs RS W (.slice (some ⟨g, 0, none⟩) l.length c) l :=
  ⟨some ⟨g, 0, none⟩, c, rfl, by omega, fun i x hi => ⟨⟨g, 0, none⟩, sv x, rfl, by rw [Addr.add_lit, Nat.zero_add]; exact h i _ (by rw [List.getElem?_map, hi]; rfl), rfl⟩⟩
theorem results_cell_tmp9 {P : Program} {fn : Func} {a b : Tmp} {t : TypeId} (h : fn.results = #[.cell a t, .tmp b]) {tmps : Array Value} {ad : Addr} {v : Value} {w : World} (ha : tmps.getD a undef = .pointer (some ad)) (hl : (loadVar t ad).run P w = .ok v w) :
    (results fn tmps).run P w = .ok (.tuple #[v, tmps.getD b undef]) w := by
  rw [Array.getD_eq_getD_getElem?] at ha
  simp [results, h, asAddr, ha, hl]
set_option maxRecDepth 100000 in
theorem example9_any (w : World) :
    Calls Tryd.prog 27 #[] w fun e w' => ∃ GA gc LA lc, e = .returned (.tuple #[.agg #[.int .i64 4, .slice GA 2 gc, .int .i64 1], .slice LA 7 lc]) ∧ Rs (Rs RI) w' (.slice GA 2 gc) Lo.exG ∧ Rs RS w' (.slice LA 7 lc) Lo.exL ∧ Ext w w' := by
  go_enter Tryd.func27, Tryd.ntmps27
  go_wp2_with fail
  refine bodyPost_ret (results_cell_tmp9 (v := .agg #[.int .i64 4, .slice (some ⟨w.heap.size + 1 + 1 + 1, 0, none⟩) 2 2, .int .i64 1]) rfl rfl ?_) rfl ?_
  · go_simp
  refine ⟨some ⟨w.heap.size + 1 + 1 + 1, 0, none⟩, 2, some ⟨w.heap.size + 1 + 1 + 1 + 1 + 1, 0, none⟩, 7, rfl, ?_, ?_, (((((Ext.refl w).alloc _).alloc _).alloc _).alloc _).alloc _ |>.alloc _⟩
  · refine Rs.two (u0 := .slice (some ⟨w.heap.size + 1, 0, none⟩) 2 2) (u1 := .slice (some ⟨w.heap.size + 1 + 1, 0, none⟩) 2 2) (by go_simp) ?_ (by go_simp) ?_
    · exact Rs.two (u0 := .int .i64 0) (u1 := .int .i64 1) (by go_simp) ⟨rfl, by decide, by decide⟩ (by go_simp) ⟨rfl, by decide, by decide⟩
    · exact Rs.two (u0 := .int .i64 2) (u1 := .int .i64 3) (by go_simp) ⟨rfl, by decide, by decide⟩ (by go_simp) ⟨rfl, by decide, by decide⟩
  · refine rt_lit (l := Lo.exL) ?_ (by decide)
    have h := cells_new (((((w.alloc (.cells #[.int .i64 4, .slice (some ⟨w.heap.size + 1 + 1 + 1, 0, none⟩) 2 2, .int .i64 1] 24)).alloc (.cells #[.int .i64 0, .int .i64 1] 3)).alloc (.cells #[.int .i64 2, .int .i64 3] 3)).alloc (.cells #[.slice (some ⟨w.heap.size + 1, 0, none⟩) 2 2, .slice (some ⟨w.heap.size + 1 + 1, 0, none⟩) 2 2] 63)).alloc (.cells #[.int .i64 4, .slice (some ⟨w.heap.size + 1 + 1 + 1, 0, none⟩) 2 2, .int .i64 1] 24)) #[.string ⟨#[1, 2]⟩, .string ⟨#[3, 4]⟩, .string ⟨#[5, 6]⟩, .string ⟨#[7, 0]⟩, .string ⟨#[2, 6]⟩, .string ⟨#[2, 6]⟩, .string ⟨#[43, 18]⟩] 9
    simp only [World.size_alloc] at h
    exact h
set_option maxRecDepth 100000 in
theorem with9_any (l : List (List UInt8)) (A : Addr) (n c k : Nat) (s : List UInt8) (w : World) (hA : Rs RS w (.slice (some A) n c) l) (hl : l.length = n) (hk : k < n) (hn : n ≤ 1000) :
    Calls Tryd.prog 28 #[.slice (some A) n c, .int .i64 (k : Nat), .string (sb s)] w fun e w' => ∃ A' c', e = .returned (.slice A' n c') ∧ Rs RS w' (.slice A' n c') (l.set k s) ∧ Ext w w' := by
  have hO0 : Owns w (w.alloc (.cells #[] 9)) [⟨.slice (some ⟨w.heap.size, 0, none⟩) 0 0, 9, 1, 0, []⟩] := (Owns.start w (L := [no]) (by intro r hr; simp at hr; subst hr; exact ⟨rfl, rfl, rfl⟩)).new 0 #[] 9 (by simp [maxLen])
  have hnews : ∀ (j : Nat) (u : Value), (l.map sv)[j]? = some u → (w.alloc (.cells #[] 9)).cell? (A.add j) = some u := fun j u hj => by
    rw [List.getElem?_map] at hj
    obtain ⟨x, hx, rfl⟩ := Option.map_eq_some_iff.1 hj
    obtain ⟨hjl, rfl⟩ := List.getElem?_eq_some_iff.1 hx
    obtain ⟨ad, u, e, hc, hu⟩ := hA.at (i := j) hjl
    injection e with e
    subst e
    have hu : u = sv _ := hu
    subst hu
    exact hO0.ext.cell hc
  have hone : ∀ u ∈ l.map sv, u.oneCell' = true := by intro u hu; obtain ⟨b, _, rfl⟩ := List.mem_map.1 hu; rfl
  have HN := Lib.hid (And.intro hnews hone)
  have HO0 := Lib.hid hO0
  have HL := Lib.hid hl
  have v1 : (0 : Int) ≤ (k : Int) := by omega
  have v2 : (k : Int) < (n : Int) := by omega
  clear hnews hone hO0 hA hl
  go_enter Tryd.func28, Tryd.ntmps28
  go_wp2_with (refine wpl_append_all 34 9 rfl (.tmp 8) (.tmp 9) rfl Tryd.underlying34 info_str rfl HO0.out 0 rfl rfl rfl ((List.length_map _).trans HL.out) HN.out.1 HN.out.2 (by omega) (by omega) (by decide) ?_; intro g1 c1 w3 hO3 _; have h1 : Owns w w3 [⟨.slice (some ⟨g1, 0, none⟩) n c1, 9, 1, n, l.map sv⟩] := (by simpa using hO3); have b0 : w3.cell? ⟨g1, k, none⟩ = some (sv (l.getD k [])) := h1.cell 0 rfl k (by rw [List.getElem?_map, List.getD_eq_getElem?_getD, List.getElem?_eq_getElem (by rw [HL.out]; exact hk)]; rfl); have f0 : w3.frozen? ⟨g1, k, none⟩ = false := h1.frozen 0 rfl k)
  go_ret
  have h2 := h1.store 0 rfl k (.string (sb s))
  have h3 : Rd (w3.setCell ⟨g1, k, none⟩ (.string (sb s))) (some ⟨g1, 0, none⟩) ((l.set k s).map sv) := by rw [List.map_set]; exact h2.rd 0 rfl
  have h4 := Rs.of_rdS (c := c1) h3 (by rw [List.length_set, HL.out]; omega)
  rw [List.length_set, HL.out] at h4
  exact ⟨some ⟨g1, 0, none⟩, c1, rfl, h4, h2.ext⟩
noncomputable def sn11_code : Code := ((Tryd.f10.body.bind (regionOf 11)).getD .skip)
def sn11_dsts : List (Option Nat) := [some 78, some 79, some 80, some 81, some 77, some 82, some 83, some 21, some 22]
theorem sn11_apart : apartD sn11_dsts = true := by decide +kernel
set_option maxRecDepth 1000000 in
set_option maxHeartbeats 16000000 in
theorem sn11 (wr : World) (C lc gc : Nat) (GA LA : Option Addr) (l2 : List (List UInt8)) (k0 : wr.cell? ⟨C, 0, none⟩ = some (.int .i64 4)) (k1 : wr.cell? ⟨C, 1, none⟩ = some (.slice GA 2 gc)) (k2 : wr.cell? ⟨C, 2, none⟩ = some (.int .i64 1))
  (HW : Hid (∀ w1 : World, Ext wr w1 → Calls Tryd.prog 28 #[.slice LA 7 lc, .int .i64 4, .string ⟨#[2, 7]⟩] w1 fun e w' => ∃ A c, e = .returned (.slice A 7 c) ∧ Rs RS w' (.slice A 7 c) l2 ∧ Ext w1 w'))
  (HC : Hid (∀ (w1 : World) (A : Option Addr) (c : Nat), Ext wr w1 → Rs RS w1 (.slice A 7 c) l2 → Calls Tryd.prog 17 #[.agg #[.int .i64 4, .slice GA 2 gc, .int .i64 1], .int .i64 7, .int .i64 19, .slice A 7 c] w1 fun e w' => e = .returned (.tuple #[.bool false, .int .i64 0]) ∧ Ext w1 w')) (c0 c3 c4 c5 c6 c7 c8 c9 c10 c11 c12 c13 c14 c15 c16 c17 c18 c19 c20 c21 c22 c23 c24 c25 c26 c27 c28 c29 c30 c31 c32 c33 c34 c35 c36 c37 c38 c39 c40 c41 c42 c43 c44 c45 c46 c47 c48 c49 c50 c51 c52 c53 c54 c55 c56 c57 c58 c59 c60 c61 c62 c63 c64 c65 c66 c67 c68 c69 c70 c71 c72 c73 c74 c75 c76 c77 c78 c79 c80 c81 c82 c83 c84 c85 c86 c87 c88 c89 c90 c91 c92 c93 c94 c95 c96 c97 c98 c99 c100 c101 c102 c103 c104 c105 c106 c107 c108 c109 c110 c111 c112 c113 c114 c115 c116 c117 c118 c119 c120 c121 c122 c123 c124 c125 c126 c127 c128 c129 c130 c131 c132 c133 c134 c135 c136 c137 c138 c139 c140 c141 c142 c143 c144 c145 c146 c147 c148 c149 c150 c151 c152 c153 c154 c155 c156 c157 c158 c159 c160 c161 c162 c163 c164 c165 c166 c167 c168 c169 c170 c171 c172 c173 c174 c175 c176 c177 c178 c179 c180 : Value) (df : List Deferred) (K : Act → World → Prop)
    (hK : ∀  (u77 u78 u79 u80 u81 u82 u83 : Value) (wx : World), Ext wr wx → K ⟨#[c0, .pointer (some ⟨C, 0, none⟩), .slice LA 7 lc, c3, c4, c5, c6, c7, c8, c9, c10, c11, c12, c13, c14, c15, c16, c17, c18, c19, c20, .bool false, .int .i64 0, c23, c24, c25, c26, c27, c28, c29, c30, c31, c32, c33, c34, c35, c36, c37, c38, c39, c40, c41, c42, c43, c44, c45, c46, c47, c48, c49, c50, c51, c52, c53, c54, c55, c56, c57, c58, c59, c60, c61, c62, c63, c64, c65, c66, c67, c68, c69, c70, c71, c72, c73, c74, c75, c76, u77, u78, u79, u80, u81, u82, u83, c84, c85, c86, c87, c88, c89, c90, c91, c92, c93, c94, c95, c96, c97, c98, c99, c100, c101, c102, c103, c104, c105, c106, c107, c108, c109, c110, c111, c112, c113, c114, c115, c116, c117, c118, c119, c120, c121, c122, c123, c124, c125, c126, c127, c128, c129, c130, c131, c132, c133, c134, c135, c136, c137, c138, c139, c140, c141, c142, c143, c144, c145, c146, c147, c148, c149, c150, c151, c152, c153, c154, c155, c156, c157, c158, c159, c160, c161, c162, c163, c164, c165, c166, c167, c168, c169, c170, c171, c172, c173, c174, c175, c176, c177, c178, c179, c180], df⟩ wx) :
    Code.wp Tryd.prog sn11_code (AtEnd K) ⟨#[c0, .pointer (some ⟨C, 0, none⟩), .slice LA 7 lc, c3, c4, c5, c6, c7, c8, c9, c10, c11, c12, c13, c14, c15, c16, c17, c18, c19, c20, c21, c22, c23, c24, c25, c26, c27, c28, c29, c30, c31, c32, c33, c34, c35, c36, c37, c38, c39, c40, c41, c42, c43, c44, c45, c46, c47, c48, c49, c50, c51, c52, c53, c54, c55, c56, c57, c58, c59, c60, c61, c62, c63, c64, c65, c66, c67, c68, c69, c70, c71, c72, c73, c74, c75, c76, c77, c78, c79, c80, c81, c82, c83, c84, c85, c86, c87, c88, c89, c90, c91, c92, c93, c94, c95, c96, c97, c98, c99, c100, c101, c102, c103, c104, c105, c106, c107, c108, c109, c110, c111, c112, c113, c114, c115, c116, c117, c118, c119, c120, c121, c122, c123, c124, c125, c126, c127, c128, c129, c130, c131, c132, c133, c134, c135, c136, c137, c138, c139, c140, c141, c142, c143, c144, c145, c146, c147, c148, c149, c150, c151, c152, c153, c154, c155, c156, c157, c158, c159, c160, c161, c162, c163, c164, c165, c166, c167, c168, c169, c170, c171, c172, c173, c174, c175, c176, c177, c178, c179, c180], df⟩ wr := by
  conv => arg 2; whnf
  refine region_inv (by kernel_rfl) [[], [], [1], [0, 2, 2], [3], [4], [4], [5, 3, 0, 1, 2, 3, 4, 5], [6, 7, 0, 1, 2, 3, 4, 5, 6, 7]] (by kernel_rfl) [0, 1, 2, 3, 4, 5, 6, 7, 8] (by decide +kernel) (by decide +kernel) (by decide +kernel) (fun L a wc => ∃ (VA : Option Addr) (vc : Nat), Inv sn11_dsts [.agg #[.int .i64 4, .slice GA 2 gc, .int .i64 1], .slice LA 7 lc, .slice VA 7 vc, .tuple #[.bool false, .int .i64 0], .tuple #[.bool false, .int .i64 0], .bool false, .int .i64 0, .bool false, .int .i64 0] ⟨#[c0, .pointer (some ⟨C, 0, none⟩), .slice LA 7 lc, c3, c4, c5, c6, c7, c8, c9, c10, c11, c12, c13, c14, c15, c16, c17, c18, c19, c20, c21, c22, c23, c24, c25, c26, c27, c28, c29, c30, c31, c32, c33, c34, c35, c36, c37, c38, c39, c40, c41, c42, c43, c44, c45, c46, c47, c48, c49, c50, c51, c52, c53, c54, c55, c56, c57, c58, c59, c60, c61, c62, c63, c64, c65, c66, c67, c68, c69, c70, c71, c72, c73, c74, c75, c76, c77, c78, c79, c80, c81, c82, c83, c84, c85, c86, c87, c88, c89, c90, c91, c92, c93, c94, c95, c96, c97, c98, c99, c100, c101, c102, c103, c104, c105, c106, c107, c108, c109, c110, c111, c112, c113, c114, c115, c116, c117, c118, c119, c120, c121, c122, c123, c124, c125, c126, c127, c128, c129, c130, c131, c132, c133, c134, c135, c136, c137, c138, c139, c140, c141, c142, c143, c144, c145, c146, c147, c148, c149, c150, c151, c152, c153, c154, c155, c156, c157, c158, c159, c160, c161, c162, c163, c164, c165, c166, c167, c168, c169, c170, c171, c172, c173, c174, c175, c176, c177, c178, c179, c180], df⟩ L a ∧ Hid (Ext wr wc ∧ (L 2 = true → Rs RS wc (.slice VA 7 vc) l2))) ⟨none, 0, Inv.start, Lib.hid ⟨(Ext.refl wr).drew, fun h => by cases h⟩⟩ ?_ ?_
  · refine ⟨?_, ?_, ?_, ?_, ?_, ?_, ?_, ?_, ?_, trivial⟩
    ·
      rintro L a wc ⟨VA, vc, hv, HO⟩ hL hc hd
      have h0 : wc.cell? ⟨C, 0, none⟩ = some (.int .i64 4) := HO.out.1.cell k0
      have h1 : wc.cell? ⟨C, 1, none⟩ = some (.slice GA 2 gc) := HO.out.1.cell k1
      have h2 : wc.cell? ⟨C, 2, none⟩ = some (.int .i64 1) := HO.out.1.cell k2
      exact wpOp_val rfl rfl (ex_load rfl ((hv.fixed 1 (by decide)).trans rfl) (by go_simp)) ⟨VA, vc, hv.put sn11_apart 0 rfl (lb rfl) (lb rfl) rfl, HO⟩
    ·
      rintro L a wc ⟨VA, vc, hv, HO⟩ hL hc hd
      exact wpOp_val rfl rfl (ex_move rfl ((hv.fixed 2 (by decide)).trans rfl)) ⟨VA, vc, hv.put sn11_apart 1 rfl (lb rfl) (lb rfl) rfl, HO⟩
    ·
      rintro L a wc ⟨VA, vc, hv, HO⟩ hL hc hd
      refine wpOp_call (R := fun v w1 => ∃ A c, v = .slice A 7 c ∧ Rs RS w1 (.slice A 7 c) l2 ∧ Ext wc w1) rfl rfl (ex_call rfl rfl (by simp only [List.map_toArray, List.map_cons, List.map_nil, (hv.get 1 rfl rfl (hd 1 (by decide)))]; rfl) (enters_of Tryd.func28 (by kernel_rfl) rfl _ _)) ((HW.out wc HO.out.1).mono (fun e w' h => by obtain ⟨A, c, rfl, h1, h2⟩ := h; exact ⟨_, rfl, A, c, rfl, h1, h2⟩)) ?_
      rintro v w' ⟨A2, c2, rfl, hr, hx⟩
      exact ⟨A2, c2, hv.put sn11_apart 2 rfl (lb rfl) (lb rfl) rfl, Lib.hid ⟨HO.out.1.trans hx, fun _ => hr⟩⟩
    ·
      rintro L a wc ⟨VA, vc, hv, HO⟩ hL hc hd
      refine wpOp_call (R := fun v w1 => v = .tuple #[.bool false, .int .i64 0] ∧ Ext wc w1) rfl rfl (ex_call rfl rfl (by simp only [List.map_toArray, List.map_cons, List.map_nil, (hv.get 0 rfl rfl (hd 0 (by decide))), (hv.get 2 rfl rfl (hd 2 (by decide)))]; rfl) (enters_of Tryd.func17 (by kernel_rfl) rfl _ _)) ((HC.out wc VA vc HO.out.1 (HO.out.2 (hd 2 (by decide)))).mono (fun e w' h => ⟨_, h.1, rfl, h.2⟩)) ?_
      rintro v w' ⟨rfl, hx⟩
      exact ⟨VA, vc, hv.put sn11_apart 3 rfl (lb rfl) (lb rfl) rfl, Lib.hid ⟨HO.out.1.trans hx, fun h => Rs.ext RS.ext _ _ _ _ hx (HO.out.2 h)⟩⟩
    ·
      rintro L a wc ⟨VA, vc, hv, HO⟩ hL hc hd
      exact wpOp_val rfl rfl (ex_move rfl (hv.get 3 rfl rfl (hd 3 (by decide)))) ⟨VA, vc, hv.put sn11_apart 4 rfl (lb rfl) (lb rfl) rfl, HO⟩
    ·
      rintro L a wc ⟨VA, vc, hv, HO⟩ hL hc hd
      exact wpOp_val rfl rfl (ex_extract9 rfl (hv.get 4 rfl rfl (hd 4 (by decide))) rfl) ⟨VA, vc, hv.put sn11_apart 5 rfl (lb rfl) (lb rfl) rfl, HO⟩
    ·
      rintro L a wc ⟨VA, vc, hv, HO⟩ hL hc hd
      exact wpOp_val rfl rfl (ex_extract9 rfl (hv.get 4 rfl rfl (hd 4 (by decide))) rfl) ⟨VA, vc, hv.put sn11_apart 6 rfl (lb rfl) (lb rfl) rfl, HO⟩
    ·
      rintro L a wc ⟨VA, vc, hv, HO⟩ hL hc hd
      exact wpOp_val rfl rfl (ex_assign rfl (hv.get 5 rfl rfl (hd 5 (by decide)))) ⟨VA, vc, hv.put sn11_apart 7 rfl (lb rfl) (lb rfl) rfl, HO⟩
    ·
      rintro L a wc ⟨VA, vc, hv, HO⟩ hL hc hd
      exact wpOp_val rfl rfl (ex_assign rfl (hv.get 6 rfl rfl (hd 6 (by decide)))) ⟨VA, vc, hv.put sn11_apart 8 rfl (lb rfl) (lb rfl) rfl, HO⟩
  · rintro L a wc ⟨VA, vc, hv, HO⟩ hall
    show K a wc
    have ha := act_lit a
    rw [hv.size, hv.defers] at ha
    have hl : ∀ f : Nat → Value, ((List.range (⟨#[c0, .pointer (some ⟨C, 0, none⟩), .slice LA 7 lc, c3, c4, c5, c6, c7, c8, c9, c10, c11, c12, c13, c14, c15, c16, c17, c18, c19, c20, c21, c22, c23, c24, c25, c26, c27, c28, c29, c30, c31, c32, c33, c34, c35, c36, c37, c38, c39, c40, c41, c42, c43, c44, c45, c46, c47, c48, c49, c50, c51, c52, c53, c54, c55, c56, c57, c58, c59, c60, c61, c62, c63, c64, c65, c66, c67, c68, c69, c70, c71, c72, c73, c74, c75, c76, c77, c78, c79, c80, c81, c82, c83, c84, c85, c86, c87, c88, c89, c90, c91, c92, c93, c94, c95, c96, c97, c98, c99, c100, c101, c102, c103, c104, c105, c106, c107, c108, c109, c110, c111, c112, c113, c114, c115, c116, c117, c118, c119, c120, c121, c122, c123, c124, c125, c126, c127, c128, c129, c130, c131, c132, c133, c134, c135, c136, c137, c138, c139, c140, c141, c142, c143, c144, c145, c146, c147, c148, c149, c150, c151, c152, c153, c154, c155, c156, c157, c158, c159, c160, c161, c162, c163, c164, c165, c166, c167, c168, c169, c170, c171, c172, c173, c174, c175, c176, c177, c178, c179, c180], df⟩ : Act).tmps.size).map f).toArray = #[f 0, f 1, f 2, f 3, f 4, f 5, f 6, f 7, f 8, f 9, f 10, f 11, f 12, f 13, f 14, f 15, f 16, f 17, f 18, f 19, f 20, f 21, f 22, f 23, f 24, f 25, f 26, f 27, f 28, f 29, f 30, f 31, f 32, f 33, f 34, f 35, f 36, f 37, f 38, f 39, f 40, f 41, f 42, f 43, f 44, f 45, f 46, f 47, f 48, f 49, f 50, f 51, f 52, f 53, f 54, f 55, f 56, f 57, f 58, f 59, f 60, f 61, f 62, f 63, f 64, f 65, f 66, f 67, f 68, f 69, f 70, f 71, f 72, f 73, f 74, f 75, f 76, f 77, f 78, f 79, f 80, f 81, f 82, f 83, f 84, f 85, f 86, f 87, f 88, f 89, f 90, f 91, f 92, f 93, f 94, f 95, f 96, f 97, f 98, f 99, f 100, f 101, f 102, f 103, f 104, f 105, f 106, f 107, f 108, f 109, f 110, f 111, f 112, f 113, f 114, f 115, f 116, f 117, f 118, f 119, f 120, f 121, f 122, f 123, f 124, f 125, f 126, f 127, f 128, f 129, f 130, f 131, f 132, f 133, f 134, f 135, f 136, f 137, f 138, f 139, f 140, f 141, f 142, f 143, f 144, f 145, f 146, f 147, f 148, f 149, f 150, f 151, f 152, f 153, f 154, f 155, f 156, f 157, f 158, f 159, f 160, f 161, f 162, f 163, f 164, f 165, f 166, f 167, f 168, f 169, f 170, f 171, f 172, f 173, f 174, f 175, f 176, f 177, f 178, f 179, f 180] := fun _ => rfl
    rw [hl] at ha
    simp only [hv.fixed 0 (by decide), hv.fixed 1 (by decide), hv.fixed 2 (by decide), hv.fixed 3 (by decide), hv.fixed 4 (by decide), hv.fixed 5 (by decide), hv.fixed 6 (by decide), hv.fixed 7 (by decide), hv.fixed 8 (by decide), hv.fixed 9 (by decide), hv.fixed 10 (by decide), hv.fixed 11 (by decide), hv.fixed 12 (by decide), hv.fixed 13 (by decide), hv.fixed 14 (by decide), hv.fixed 15 (by decide), hv.fixed 16 (by decide), hv.fixed 17 (by decide), hv.fixed 18 (by decide), hv.fixed 19 (by decide), hv.fixed 20 (by decide), hv.fixed 23 (by decide), hv.fixed 24 (by decide), hv.fixed 25 (by decide), hv.fixed 26 (by decide), hv.fixed 27 (by decide), hv.fixed 28 (by decide), hv.fixed 29 (by decide), hv.fixed 30 (by decide), hv.fixed 31 (by decide), hv.fixed 32 (by decide), hv.fixed 33 (by decide), hv.fixed 34 (by decide), hv.fixed 35 (by decide), hv.fixed 36 (by decide), hv.fixed 37 (by decide), hv.fixed 38 (by decide), hv.fixed 39 (by decide), hv.fixed 40 (by decide), hv.fixed 41 (by decide), hv.fixed 42 (by decide), hv.fixed 43 (by decide), hv.fixed 44 (by decide), hv.fixed 45 (by decide), hv.fixed 46 (by decide), hv.fixed 47 (by decide), hv.fixed 48 (by decide), hv.fixed 49 (by decide), hv.fixed 50 (by decide), hv.fixed 51 (by decide), hv.fixed 52 (by decide), hv.fixed 53 (by decide), hv.fixed 54 (by decide), hv.fixed 55 (by decide), hv.fixed 56 (by decide), hv.fixed 57 (by decide), hv.fixed 58 (by decide), hv.fixed 59 (by decide), hv.fixed 60 (by decide), hv.fixed 61 (by decide), hv.fixed 62 (by decide), hv.fixed 63 (by decide), hv.fixed 64 (by decide), hv.fixed 65 (by decide), hv.fixed 66 (by decide), hv.fixed 67 (by decide), hv.fixed 68 (by decide), hv.fixed 69 (by decide), hv.fixed 70 (by decide), hv.fixed 71 (by decide), hv.fixed 72 (by decide), hv.fixed 73 (by decide), hv.fixed 74 (by decide), hv.fixed 75 (by decide), hv.fixed 76 (by decide), hv.fixed 84 (by decide), hv.fixed 85 (by decide), hv.fixed 86 (by decide), hv.fixed 87 (by decide), hv.fixed 88 (by decide), hv.fixed 89 (by decide), hv.fixed 90 (by decide), hv.fixed 91 (by decide), hv.fixed 92 (by decide), hv.fixed 93 (by decide), hv.fixed 94 (by decide), hv.fixed 95 (by decide), hv.fixed 96 (by decide), hv.fixed 97 (by decide), hv.fixed 98 (by decide), hv.fixed 99 (by decide), hv.fixed 100 (by decide), hv.fixed 101 (by decide), hv.fixed 102 (by decide), hv.fixed 103 (by decide), hv.fixed 104 (by decide), hv.fixed 105 (by decide), hv.fixed 106 (by decide), hv.fixed 107 (by decide), hv.fixed 108 (by decide), hv.fixed 109 (by decide), hv.fixed 110 (by decide), hv.fixed 111 (by decide), hv.fixed 112 (by decide), hv.fixed 113 (by decide), hv.fixed 114 (by decide), hv.fixed 115 (by decide), hv.fixed 116 (by decide), hv.fixed 117 (by decide), hv.fixed 118 (by decide), hv.fixed 119 (by decide), hv.fixed 120 (by decide), hv.fixed 121 (by decide), hv.fixed 122 (by decide), hv.fixed 123 (by decide), hv.fixed 124 (by decide), hv.fixed 125 (by decide), hv.fixed 126 (by decide), hv.fixed 127 (by decide), hv.fixed 128 (by decide), hv.fixed 129 (by decide), hv.fixed 130 (by decide), hv.fixed 131 (by decide), hv.fixed 132 (by decide), hv.fixed 133 (by decide), hv.fixed 134 (by decide), hv.fixed 135 (by decide), hv.fixed 136 (by decide), hv.fixed 137 (by decide), hv.fixed 138 (by decide), hv.fixed 139 (by decide), hv.fixed 140 (by decide), hv.fixed 141 (by decide), hv.fixed 142 (by decide), hv.fixed 143 (by decide), hv.fixed 144 (by decide), hv.fixed 145 (by decide), hv.fixed 146 (by decide), hv.fixed 147 (by decide), hv.fixed 148 (by decide), hv.fixed 149 (by decide), hv.fixed 150 (by decide), hv.fixed 151 (by decide), hv.fixed 152 (by decide), hv.fixed 153 (by decide), hv.fixed 154 (by decide), hv.fixed 155 (by decide), hv.fixed 156 (by decide), hv.fixed 157 (by decide), hv.fixed 158 (by decide), hv.fixed 159 (by decide), hv.fixed 160 (by decide), hv.fixed 161 (by decide), hv.fixed 162 (by decide), hv.fixed 163 (by decide), hv.fixed 164 (by decide), hv.fixed 165 (by decide), hv.fixed 166 (by decide), hv.fixed 167 (by decide), hv.fixed 168 (by decide), hv.fixed 169 (by decide), hv.fixed 170 (by decide), hv.fixed 171 (by decide), hv.fixed 172 (by decide), hv.fixed 173 (by decide), hv.fixed 174 (by decide), hv.fixed 175 (by decide), hv.fixed 176 (by decide), hv.fixed 177 (by decide), hv.fixed 178 (by decide), hv.fixed 179 (by decide), hv.fixed 180 (by decide), hv.get 7 (d := 21) rfl rfl (hall 7 (by decide)), hv.get 8 (d := 22) rfl rfl (hall 8 (by decide))] at ha
    rw [ha]
    exact hK _ _ _ _ _ _ _ wc HO.out.1
noncomputable def sn12_code : Code := ((Tryd.f10.body.bind (regionOf 12)).getD .skip)
def sn12_dsts : List (Option Nat) := [some 85, some 86, some 87, some 88, some 84, some 89, some 90, some 23, some 24]
theorem sn12_apart : apartD sn12_dsts = true := by decide +kernel
set_option maxRecDepth 1000000 in
set_option maxHeartbeats 16000000 in
theorem sn12 (wr : World) (C lc gc : Nat) (GA LA : Option Addr) (l2 : List (List UInt8)) (k0 : wr.cell? ⟨C, 0, none⟩ = some (.int .i64 4)) (k1 : wr.cell? ⟨C, 1, none⟩ = some (.slice GA 2 gc)) (k2 : wr.cell? ⟨C, 2, none⟩ = some (.int .i64 1))
  (HW : Hid (∀ w1 : World, Ext wr w1 → Calls Tryd.prog 28 #[.slice LA 7 lc, .int .i64 4, .string ⟨#[2, 7]⟩] w1 fun e w' => ∃ A c, e = .returned (.slice A 7 c) ∧ Rs RS w' (.slice A 7 c) l2 ∧ Ext w1 w'))
  (HC : Hid (∀ (w1 : World) (A : Option Addr) (c : Nat), Ext wr w1 → Rs RS w1 (.slice A 7 c) l2 → Calls Tryd.prog 19 #[.agg #[.int .i64 4, .slice GA 2 gc, .int .i64 1], .int .i64 7, .int .i64 127, .slice A 7 c] w1 fun e w' => e = .returned (.tuple #[.int .i64 19, .int .i64 0]) ∧ Ext w1 w')) (c0 c3 c4 c5 c6 c7 c8 c9 c10 c11 c12 c13 c14 c15 c16 c17 c18 c19 c20 c21 c22 c23 c24 c25 c26 c27 c28 c29 c30 c31 c32 c33 c34 c35 c36 c37 c38 c39 c40 c41 c42 c43 c44 c45 c46 c47 c48 c49 c50 c51 c52 c53 c54 c55 c56 c57 c58 c59 c60 c61 c62 c63 c64 c65 c66 c67 c68 c69 c70 c71 c72 c73 c74 c75 c76 c77 c78 c79 c80 c81 c82 c83 c84 c85 c86 c87 c88 c89 c90 c91 c92 c93 c94 c95 c96 c97 c98 c99 c100 c101 c102 c103 c104 c105 c106 c107 c108 c109 c110 c111 c112 c113 c114 c115 c116 c117 c118 c119 c120 c121 c122 c123 c124 c125 c126 c127 c128 c129 c130 c131 c132 c133 c134 c135 c136 c137 c138 c139 c140 c141 c142 c143 c144 c145 c146 c147 c148 c149 c150 c151 c152 c153 c154 c155 c156 c157 c158 c159 c160 c161 c162 c163 c164 c165 c166 c167 c168 c169 c170 c171 c172 c173 c174 c175 c176 c177 c178 c179 c180 : Value) (df : List Deferred) (K : Act → World → Prop)
    (hK : ∀  (u84 u85 u86 u87 u88 u89 u90 : Value) (wx : World), Ext wr wx → K ⟨#[c0, .pointer (some ⟨C, 0, none⟩), .slice LA 7 lc, c3, c4, c5, c6, c7, c8, c9, c10, c11, c12, c13, c14, c15, c16, c17, c18, c19, c20, c21, c22, .int .i64 19, .int .i64 0, c25, c26, c27, c28, c29, c30, c31, c32, c33, c34, c35, c36, c37, c38, c39, c40, c41, c42, c43, c44, c45, c46, c47, c48, c49, c50, c51, c52, c53, c54, c55, c56, c57, c58, c59, c60, c61, c62, c63, c64, c65, c66, c67, c68, c69, c70, c71, c72, c73, c74, c75, c76, c77, c78, c79, c80, c81, c82, c83, u84, u85, u86, u87, u88, u89, u90, c91, c92, c93, c94, c95, c96, c97, c98, c99, c100, c101, c102, c103, c104, c105, c106, c107, c108, c109, c110, c111, c112, c113, c114, c115, c116, c117, c118, c119, c120, c121, c122, c123, c124, c125, c126, c127, c128, c129, c130, c131, c132, c133, c134, c135, c136, c137, c138, c139, c140, c141, c142, c143, c144, c145, c146, c147, c148, c149, c150, c151, c152, c153, c154, c155, c156, c157, c158, c159, c160, c161, c162, c163, c164, c165, c166, c167, c168, c169, c170, c171, c172, c173, c174, c175, c176, c177, c178, c179, c180], df⟩ wx) :
    Code.wp Tryd.prog sn12_code (AtEnd K) ⟨#[c0, .pointer (some ⟨C, 0, none⟩), .slice LA 7 lc, c3, c4, c5, c6, c7, c8, c9, c10, c11, c12, c13, c14, c15, c16, c17, c18, c19, c20, c21, c22, c23, c24, c25, c26, c27, c28, c29, c30, c31, c32, c33, c34, c35, c36, c37, c38, c39, c40, c41, c42, c43, c44, c45, c46, c47, c48, c49, c50, c51, c52, c53, c54, c55, c56, c57, c58, c59, c60, c61, c62, c63, c64, c65, c66, c67, c68, c69, c70, c71, c72, c73, c74, c75, c76, c77, c78, c79, c80, c81, c82, c83, c84, c85, c86, c87, c88, c89, c90, c91, c92, c93, c94, c95, c96, c97, c98, c99, c100, c101, c102, c103, c104, c105, c106, c107, c108, c109, c110, c111, c112, c113, c114, c115, c116, c117, c118, c119, c120, c121, c122, c123, c124, c125, c126, c127, c128, c129, c130, c131, c132, c133, c134, c135, c136, c137, c138, c139, c140, c141, c142, c143, c144, c145, c146, c147, c148, c149, c150, c151, c152, c153, c154, c155, c156, c157, c158, c159, c160, c161, c162, c163, c164, c165, c166, c167, c168, c169, c170, c171, c172, c173, c174, c175, c176, c177, c178, c179, c180], df⟩ wr := by
  conv => arg 2; whnf
  refine region_inv (by kernel_rfl) [[], [], [1], [0, 2, 2], [3], [4], [4], [5, 3, 0, 1, 2, 3, 4, 5], [6, 7, 0, 1, 2, 3, 4, 5, 6, 7]] (by kernel_rfl) [0, 1, 2, 3, 4, 5, 6, 7, 8] (by decide +kernel) (by decide +kernel) (by decide +kernel) (fun L a wc => ∃ (VA : Option Addr) (vc : Nat), Inv sn12_dsts [.agg #[.int .i64 4, .slice GA 2 gc, .int .i64 1], .slice LA 7 lc, .slice VA 7 vc, .tuple #[.int .i64 19, .int .i64 0], .tuple #[.int .i64 19, .int .i64 0], .int .i64 19, .int .i64 0, .int .i64 19, .int .i64 0] ⟨#[c0, .pointer (some ⟨C, 0, none⟩), .slice LA 7 lc, c3, c4, c5, c6, c7, c8, c9, c10, c11, c12, c13, c14, c15, c16, c17, c18, c19, c20, c21, c22, c23, c24, c25, c26, c27, c28, c29, c30, c31, c32, c33, c34, c35, c36, c37, c38, c39, c40, c41, c42, c43, c44, c45, c46, c47, c48, c49, c50, c51, c52, c53, c54, c55, c56, c57, c58, c59, c60, c61, c62, c63, c64, c65, c66, c67, c68, c69, c70, c71, c72, c73, c74, c75, c76, c77, c78, c79, c80, c81, c82, c83, c84, c85, c86, c87, c88, c89, c90, c91, c92, c93, c94, c95, c96, c97, c98, c99, c100, c101, c102, c103, c104, c105, c106, c107, c108, c109, c110, c111, c112, c113, c114, c115, c116, c117, c118, c119, c120, c121, c122, c123, c124, c125, c126, c127, c128, c129, c130, c131, c132, c133, c134, c135, c136, c137, c138, c139, c140, c141, c142, c143, c144, c145, c146, c147, c148, c149, c150, c151, c152, c153, c154, c155, c156, c157, c158, c159, c160, c161, c162, c163, c164, c165, c166, c167, c168, c169, c170, c171, c172, c173, c174, c175, c176, c177, c178, c179, c180], df⟩ L a ∧ Hid (Ext wr wc ∧ (L 2 = true → Rs RS wc (.slice VA 7 vc) l2))) ⟨none, 0, Inv.start, Lib.hid ⟨(Ext.refl wr).drew, fun h => by cases h⟩⟩ ?_ ?_
  · refine ⟨?_, ?_, ?_, ?_, ?_, ?_, ?_, ?_, ?_, trivial⟩
    ·
      rintro L a wc ⟨VA, vc, hv, HO⟩ hL hc hd
      have h0 : wc.cell? ⟨C, 0, none⟩ = some (.int .i64 4) := HO.out.1.cell k0
      have h1 : wc.cell? ⟨C, 1, none⟩ = some (.slice GA 2 gc) := HO.out.1.cell k1
      have h2 : wc.cell? ⟨C, 2, none⟩ = some (.int .i64 1) := HO.out.1.cell k2
      exact wpOp_val rfl rfl (ex_load rfl ((hv.fixed 1 (by decide)).trans rfl) (by go_simp)) ⟨VA, vc, hv.put sn12_apart 0 rfl (lb rfl) (lb rfl) rfl, HO⟩
    ·
      rintro L a wc ⟨VA, vc, hv, HO⟩ hL hc hd
      exact wpOp_val rfl rfl (ex_move rfl ((hv.fixed 2 (by decide)).trans rfl)) ⟨VA, vc, hv.put sn12_apart 1 rfl (lb rfl) (lb rfl) rfl, HO⟩
    ·
      rintro L a wc ⟨VA, vc, hv, HO⟩ hL hc hd
      refine wpOp_call (R := fun v w1 => ∃ A c, v = .slice A 7 c ∧ Rs RS w1 (.slice A 7 c) l2 ∧ Ext wc w1) rfl rfl (ex_call rfl rfl (by simp only [List.map_toArray, List.map_cons, List.map_nil, (hv.get 1 rfl rfl (hd 1 (by decide)))]; rfl) (enters_of Tryd.func28 (by kernel_rfl) rfl _ _)) ((HW.out wc HO.out.1).mono (fun e w' h => by obtain ⟨A, c, rfl, h1, h2⟩ := h; exact ⟨_, rfl, A, c, rfl, h1, h2⟩)) ?_
      rintro v w' ⟨A2, c2, rfl, hr, hx⟩
      exact ⟨A2, c2, hv.put sn12_apart 2 rfl (lb rfl) (lb rfl) rfl, Lib.hid ⟨HO.out.1.trans hx, fun _ => hr⟩⟩
    ·
      rintro L a wc ⟨VA, vc, hv, HO⟩ hL hc hd
      refine wpOp_call (R := fun v w1 => v = .tuple #[.int .i64 19, .int .i64 0] ∧ Ext wc w1) rfl rfl (ex_call rfl rfl (by simp only [List.map_toArray, List.map_cons, List.map_nil, (hv.get 0 rfl rfl (hd 0 (by decide))), (hv.get 2 rfl rfl (hd 2 (by decide)))]; rfl) (enters_of Tryd.func19 (by kernel_rfl) rfl _ _)) ((HC.out wc VA vc HO.out.1 (HO.out.2 (hd 2 (by decide)))).mono (fun e w' h => ⟨_, h.1, rfl, h.2⟩)) ?_
      rintro v w' ⟨rfl, hx⟩
      exact ⟨VA, vc, hv.put sn12_apart 3 rfl (lb rfl) (lb rfl) rfl, Lib.hid ⟨HO.out.1.trans hx, fun h => Rs.ext RS.ext _ _ _ _ hx (HO.out.2 h)⟩⟩
    ·
      rintro L a wc ⟨VA, vc, hv, HO⟩ hL hc hd
      exact wpOp_val rfl rfl (ex_move rfl (hv.get 3 rfl rfl (hd 3 (by decide)))) ⟨VA, vc, hv.put sn12_apart 4 rfl (lb rfl) (lb rfl) rfl, HO⟩
    ·
      rintro L a wc ⟨VA, vc, hv, HO⟩ hL hc hd
      exact wpOp_val rfl rfl (ex_extract9 rfl (hv.get 4 rfl rfl (hd 4 (by decide))) rfl) ⟨VA, vc, hv.put sn12_apart 5 rfl (lb rfl) (lb rfl) rfl, HO⟩
    ·
      rintro L a wc ⟨VA, vc, hv, HO⟩ hL hc hd
      exact wpOp_val rfl rfl (ex_extract9 rfl (hv.get 4 rfl rfl (hd 4 (by decide))) rfl) ⟨VA, vc, hv.put sn12_apart 6 rfl (lb rfl) (lb rfl) rfl, HO⟩
    ·
      rintro L a wc ⟨VA, vc, hv, HO⟩ hL hc hd
      exact wpOp_val rfl rfl (ex_assign rfl (hv.get 5 rfl rfl (hd 5 (by decide)))) ⟨VA, vc, hv.put sn12_apart 7 rfl (lb rfl) (lb rfl) rfl, HO⟩
    ·
      rintro L a wc ⟨VA, vc, hv, HO⟩ hL hc hd
      exact wpOp_val rfl rfl (ex_assign rfl (hv.get 6 rfl rfl (hd 6 (by decide)))) ⟨VA, vc, hv.put sn12_apart 8 rfl (lb rfl) (lb rfl) rfl, HO⟩
  · rintro L a wc ⟨VA, vc, hv, HO⟩ hall
    show K a wc
    have ha := act_lit a
    rw [hv.size, hv.defers] at ha
    have hl : ∀ f : Nat → Value, ((List.range (⟨#[c0, .pointer (some ⟨C, 0, none⟩), .slice LA 7 lc, c3, c4, c5, c6, c7, c8, c9, c10, c11, c12, c13, c14, c15, c16, c17, c18, c19, c20, c21, c22, c23, c24, c25, c26, c27, c28, c29, c30, c31, c32, c33, c34, c35, c36, c37, c38, c39, c40, c41, c42, c43, c44, c45, c46, c47, c48, c49, c50, c51, c52, c53, c54, c55, c56, c57, c58, c59, c60, c61, c62, c63, c64, c65, c66, c67, c68, c69, c70, c71, c72, c73, c74, c75, c76, c77, c78, c79, c80, c81, c82, c83, c84, c85, c86, c87, c88, c89, c90, c91, c92, c93, c94, c95, c96, c97, c98, c99, c100, c101, c102, c103, c104, c105, c106, c107, c108, c109, c110, c111, c112, c113, c114, c115, c116, c117, c118, c119, c120, c121, c122, c123, c124, c125, c126, c127, c128, c129, c130, c131, c132, c133, c134, c135, c136, c137, c138, c139, c140, c141, c142, c143, c144, c145, c146, c147, c148, c149, c150, c151, c152, c153, c154, c155, c156, c157, c158, c159, c160, c161, c162, c163, c164, c165, c166, c167, c168, c169, c170, c171, c172, c173, c174, c175, c176, c177, c178, c179, c180], df⟩ : Act).tmps.size).map f).toArray = #[f 0, f 1, f 2, f 3, f 4, f 5, f 6, f 7, f 8, f 9, f 10, f 11, f 12, f 13, f 14, f 15, f 16, f 17, f 18, f 19, f 20, f 21, f 22, f 23, f 24, f 25, f 26, f 27, f 28, f 29, f 30, f 31, f 32, f 33, f 34, f 35, f 36, f 37, f 38, f 39, f 40, f 41, f 42, f 43, f 44, f 45, f 46, f 47, f 48, f 49, f 50, f 51, f 52, f 53, f 54, f 55, f 56, f 57, f 58, f 59, f 60, f 61, f 62, f 63, f 64, f 65, f 66, f 67, f 68, f 69, f 70, f 71, f 72, f 73, f 74, f 75, f 76, f 77, f 78, f 79, f 80, f 81, f 82, f 83, f 84, f 85, f 86, f 87, f 88, f 89, f 90, f 91, f 92, f 93, f 94, f 95, f 96, f 97, f 98, f 99, f 100, f 101, f 102, f 103, f 104, f 105, f 106, f 107, f 108, f 109, f 110, f 111, f 112, f 113, f 114, f 115, f 116, f 117, f 118, f 119, f 120, f 121, f 122, f 123, f 124, f 125, f 126, f 127, f 128, f 129, f 130, f 131, f 132, f 133, f 134, f 135, f 136, f 137, f 138, f 139, f 140, f 141, f 142, f 143, f 144, f 145, f 146, f 147, f 148, f 149, f 150, f 151, f 152, f 153, f 154, f 155, f 156, f 157, f 158, f 159, f 160, f 161, f 162, f 163, f 164, f 165, f 166, f 167, f 168, f 169, f 170, f 171, f 172, f 173, f 174, f 175, f 176, f 177, f 178, f 179, f 180] := fun _ => rfl
    rw [hl] at ha
    simp only [hv.fixed 0 (by decide), hv.fixed 1 (by decide), hv.fixed 2 (by decide), hv.fixed 3 (by decide), hv.fixed 4 (by decide), hv.fixed 5 (by decide), hv.fixed 6 (by decide), hv.fixed 7 (by decide), hv.fixed 8 (by decide), hv.fixed 9 (by decide), hv.fixed 10 (by decide), hv.fixed 11 (by decide), hv.fixed 12 (by decide), hv.fixed 13 (by decide), hv.fixed 14 (by decide), hv.fixed 15 (by decide), hv.fixed 16 (by decide), hv.fixed 17 (by decide), hv.fixed 18 (by decide), hv.fixed 19 (by decide), hv.fixed 20 (by decide), hv.fixed 21 (by decide), hv.fixed 22 (by decide), hv.fixed 25 (by decide), hv.fixed 26 (by decide), hv.fixed 27 (by decide), hv.fixed 28 (by decide), hv.fixed 29 (by decide), hv.fixed 30 (by decide), hv.fixed 31 (by decide), hv.fixed 32 (by decide), hv.fixed 33 (by decide), hv.fixed 34 (by decide), hv.fixed 35 (by decide), hv.fixed 36 (by decide), hv.fixed 37 (by decide), hv.fixed 38 (by decide), hv.fixed 39 (by decide), hv.fixed 40 (by decide), hv.fixed 41 (by decide), hv.fixed 42 (by decide), hv.fixed 43 (by decide), hv.fixed 44 (by decide), hv.fixed 45 (by decide), hv.fixed 46 (by decide), hv.fixed 47 (by decide), hv.fixed 48 (by decide), hv.fixed 49 (by decide), hv.fixed 50 (by decide), hv.fixed 51 (by decide), hv.fixed 52 (by decide), hv.fixed 53 (by decide), hv.fixed 54 (by decide), hv.fixed 55 (by decide), hv.fixed 56 (by decide), hv.fixed 57 (by decide), hv.fixed 58 (by decide), hv.fixed 59 (by decide), hv.fixed 60 (by decide), hv.fixed 61 (by decide), hv.fixed 62 (by decide), hv.fixed 63 (by decide), hv.fixed 64 (by decide), hv.fixed 65 (by decide), hv.fixed 66 (by decide), hv.fixed 67 (by decide), hv.fixed 68 (by decide), hv.fixed 69 (by decide), hv.fixed 70 (by decide), hv.fixed 71 (by decide), hv.fixed 72 (by decide), hv.fixed 73 (by decide), hv.fixed 74 (by decide), hv.fixed 75 (by decide), hv.fixed 76 (by decide), hv.fixed 77 (by decide), hv.fixed 78 (by decide), hv.fixed 79 (by decide), hv.fixed 80 (by decide), hv.fixed 81 (by decide), hv.fixed 82 (by decide), hv.fixed 83 (by decide), hv.fixed 91 (by decide), hv.fixed 92 (by decide), hv.fixed 93 (by decide), hv.fixed 94 (by decide), hv.fixed 95 (by decide), hv.fixed 96 (by decide), hv.fixed 97 (by decide), hv.fixed 98 (by decide), hv.fixed 99 (by decide), hv.fixed 100 (by decide), hv.fixed 101 (by decide), hv.fixed 102 (by decide), hv.fixed 103 (by decide), hv.fixed 104 (by decide), hv.fixed 105 (by decide), hv.fixed 106 (by decide), hv.fixed 107 (by decide), hv.fixed 108 (by decide), hv.fixed 109 (by decide), hv.fixed 110 (by decide), hv.fixed 111 (by decide), hv.fixed 112 (by decide), hv.fixed 113 (by decide), hv.fixed 114 (by decide), hv.fixed 115 (by decide), hv.fixed 116 (by decide), hv.fixed 117 (by decide), hv.fixed 118 (by decide), hv.fixed 119 (by decide), hv.fixed 120 (by decide), hv.fixed 121 (by decide), hv.fixed 122 (by decide), hv.fixed 123 (by decide), hv.fixed 124 (by decide), hv.fixed 125 (by decide), hv.fixed 126 (by decide), hv.fixed 127 (by decide), hv.fixed 128 (by decide), hv.fixed 129 (by decide), hv.fixed 130 (by decide), hv.fixed 131 (by decide), hv.fixed 132 (by decide), hv.fixed 133 (by decide), hv.fixed 134 (by decide), hv.fixed 135 (by decide), hv.fixed 136 (by decide), hv.fixed 137 (by decide), hv.fixed 138 (by decide), hv.fixed 139 (by decide), hv.fixed 140 (by decide), hv.fixed 141 (by decide), hv.fixed 142 (by decide), hv.fixed 143 (by decide), hv.fixed 144 (by decide), hv.fixed 145 (by decide), hv.fixed 146 (by decide), hv.fixed 147 (by decide), hv.fixed 148 (by decide), hv.fixed 149 (by decide), hv.fixed 150 (by decide), hv.fixed 151 (by decide), hv.fixed 152 (by decide), hv.fixed 153 (by decide), hv.fixed 154 (by decide), hv.fixed 155 (by decide), hv.fixed 156 (by decide), hv.fixed 157 (by decide), hv.fixed 158 (by decide), hv.fixed 159 (by decide), hv.fixed 160 (by decide), hv.fixed 161 (by decide), hv.fixed 162 (by decide), hv.fixed 163 (by decide), hv.fixed 164 (by decide), hv.fixed 165 (by decide), hv.fixed 166 (by decide), hv.fixed 167 (by decide), hv.fixed 168 (by decide), hv.fixed 169 (by decide), hv.fixed 170 (by decide), hv.fixed 171 (by decide), hv.fixed 172 (by decide), hv.fixed 173 (by decide), hv.fixed 174 (by decide), hv.fixed 175 (by decide), hv.fixed 176 (by decide), hv.fixed 177 (by decide), hv.fixed 178 (by decide), hv.fixed 179 (by decide), hv.fixed 180 (by decide), hv.get 7 (d := 23) rfl rfl (hall 7 (by decide)), hv.get 8 (d := 24) rfl rfl (hall 8 (by decide))] at ha
    rw [ha]
    exact hK _ _ _ _ _ _ _ wc HO.out.1
noncomputable def sn13_code : Code := ((Tryd.f10.body.bind (regionOf 13)).getD .skip)
def sn13_dsts : List (Option Nat) := [some 92, some 93, some 94, some 95, some 91, some 96, some 97, some 25, some 26]
theorem sn13_apart : apartD sn13_dsts = true := by decide +kernel
set_option maxRecDepth 1000000 in
set_option maxHeartbeats 16000000 in
theorem sn13 (wr : World) (C lc gc : Nat) (GA LA : Option Addr) (l2 : List (List UInt8)) (k0 : wr.cell? ⟨C, 0, none⟩ = some (.int .i64 4)) (k1 : wr.cell? ⟨C, 1, none⟩ = some (.slice GA 2 gc)) (k2 : wr.cell? ⟨C, 2, none⟩ = some (.int .i64 1))
  (HW : Hid (∀ w1 : World, Ext wr w1 → Calls Tryd.prog 28 #[.slice LA 7 lc, .int .i64 6, .string ⟨#[0, 0]⟩] w1 fun e w' => ∃ A c, e = .returned (.slice A 7 c) ∧ Rs RS w' (.slice A 7 c) l2 ∧ Ext w1 w'))
  (HC : Hid (∀ (w1 : World) (A : Option Addr) (c : Nat), Ext wr w1 → Rs RS w1 (.slice A 7 c) l2 → Calls Tryd.prog 19 #[.agg #[.int .i64 4, .slice GA 2 gc, .int .i64 1], .int .i64 7, .int .i64 127, .slice A 7 c] w1 fun e w' => e = .returned (.tuple #[.int .i64 79, .int .i64 0]) ∧ Ext w1 w')) (c0 c3 c4 c5 c6 c7 c8 c9 c10 c11 c12 c13 c14 c15 c16 c17 c18 c19 c20 c21 c22 c23 c24 c25 c26 c27 c28 c29 c30 c31 c32 c33 c34 c35 c36 c37 c38 c39 c40 c41 c42 c43 c44 c45 c46 c47 c48 c49 c50 c51 c52 c53 c54 c55 c56 c57 c58 c59 c60 c61 c62 c63 c64 c65 c66 c67 c68 c69 c70 c71 c72 c73 c74 c75 c76 c77 c78 c79 c80 c81 c82 c83 c84 c85 c86 c87 c88 c89 c90 c91 c92 c93 c94 c95 c96 c97 c98 c99 c100 c101 c102 c103 c104 c105 c106 c107 c108 c109 c110 c111 c112 c113 c114 c115 c116 c117 c118 c119 c120 c121 c122 c123 c124 c125 c126 c127 c128 c129 c130 c131 c132 c133 c134 c135 c136 c137 c138 c139 c140 c141 c142 c143 c144 c145 c146 c147 c148 c149 c150 c151 c152 c153 c154 c155 c156 c157 c158 c159 c160 c161 c162 c163 c164 c165 c166 c167 c168 c169 c170 c171 c172 c173 c174 c175 c176 c177 c178 c179 c180 : Value) (df : List Deferred) (K : Act → World → Prop)
    (hK : ∀  (u91 u92 u93 u94 u95 u96 u97 : Value) (wx : World), Ext wr wx → K ⟨#[c0, .pointer (some ⟨C, 0, none⟩), .slice LA 7 lc, c3, c4, c5, c6, c7, c8, c9, c10, c11, c12, c13, c14, c15, c16, c17, c18, c19, c20, c21, c22, c23, c24, .int .i64 79, .int .i64 0, c27, c28, c29, c30, c31, c32, c33, c34, c35, c36, c37, c38, c39, c40, c41, c42, c43, c44, c45, c46, c47, c48, c49, c50, c51, c52, c53, c54, c55, c56, c57, c58, c59, c60, c61, c62, c63, c64, c65, c66, c67, c68, c69, c70, c71, c72, c73, c74, c75, c76, c77, c78, c79, c80, c81, c82, c83, c84, c85, c86, c87, c88, c89, c90, u91, u92, u93, u94, u95, u96, u97, c98, c99, c100, c101, c102, c103, c104, c105, c106, c107, c108, c109, c110, c111, c112, c113, c114, c115, c116, c117, c118, c119, c120, c121, c122, c123, c124, c125, c126, c127, c128, c129, c130, c131, c132, c133, c134, c135, c136, c137, c138, c139, c140, c141, c142, c143, c144, c145, c146, c147, c148, c149, c150, c151, c152, c153, c154, c155, c156, c157, c158, c159, c160, c161, c162, c163, c164, c165, c166, c167, c168, c169, c170, c171, c172, c173, c174, c175, c176, c177, c178, c179, c180], df⟩ wx) :
    Code.wp Tryd.prog sn13_code (AtEnd K) ⟨#[c0, .pointer (some ⟨C, 0, none⟩), .slice LA 7 lc, c3, c4, c5, c6, c7, c8, c9, c10, c11, c12, c13, c14, c15, c16, c17, c18, c19, c20, c21, c22, c23, c24, c25, c26, c27, c28, c29, c30, c31, c32, c33, c34, c35, c36, c37, c38, c39, c40, c41, c42, c43, c44, c45, c46, c47, c48, c49, c50, c51, c52, c53, c54, c55, c56, c57, c58, c59, c60, c61, c62, c63, c64, c65, c66, c67, c68, c69, c70, c71, c72, c73, c74, c75, c76, c77, c78, c79, c80, c81, c82, c83, c84, c85, c86, c87, c88, c89, c90, c91, c92, c93, c94, c95, c96, c97, c98, c99, c100, c101, c102, c103, c104, c105, c106, c107, c108, c109, c110, c111, c112, c113, c114, c115, c116, c117, c118, c119, c120, c121, c122, c123, c124, c125, c126, c127, c128, c129, c130, c131, c132, c133, c134, c135, c136, c137, c138, c139, c140, c141, c142, c143, c144, c145, c146, c147, c148, c149, c150, c151, c152, c153, c154, c155, c156, c157, c158, c159, c160, c161, c162, c163, c164, c165, c166, c167, c168, c169, c170, c171, c172, c173, c174, c175, c176, c177, c178, c179, c180], df⟩ wr := by
  conv => arg 2; whnf
  refine region_inv (by kernel_rfl) [[], [], [1], [0, 2, 2], [3], [4], [4], [5, 3, 0, 1, 2, 3, 4, 5], [6, 7, 0, 1, 2, 3, 4, 5, 6, 7]] (by kernel_rfl) [0, 1, 2, 3, 4, 5, 6, 7, 8] (by decide +kernel) (by decide +kernel) (by decide +kernel) (fun L a wc => ∃ (VA : Option Addr) (vc : Nat), Inv sn13_dsts [.agg #[.int .i64 4, .slice GA 2 gc, .int .i64 1], .slice LA 7 lc, .slice VA 7 vc, .tuple #[.int .i64 79, .int .i64 0], .tuple #[.int .i64 79, .int .i64 0], .int .i64 79, .int .i64 0, .int .i64 79, .int .i64 0] ⟨#[c0, .pointer (some ⟨C, 0, none⟩), .slice LA 7 lc, c3, c4, c5, c6, c7, c8, c9, c10, c11, c12, c13, c14, c15, c16, c17, c18, c19, c20, c21, c22, c23, c24, c25, c26, c27, c28, c29, c30, c31, c32, c33, c34, c35, c36, c37, c38, c39, c40, c41, c42, c43, c44, c45, c46, c47, c48, c49, c50, c51, c52, c53, c54, c55, c56, c57, c58, c59, c60, c61, c62, c63, c64, c65, c66, c67, c68, c69, c70, c71, c72, c73, c74, c75, c76, c77, c78, c79, c80, c81, c82, c83, c84, c85, c86, c87, c88, c89, c90, c91, c92, c93, c94, c95, c96, c97, c98, c99, c100, c101, c102, c103, c104, c105, c106, c107, c108, c109, c110, c111, c112, c113, c114, c115, c116, c117, c118, c119, c120, c121, c122, c123, c124, c125, c126, c127, c128, c129, c130, c131, c132, c133, c134, c135, c136, c137, c138, c139, c140, c141, c142, c143, c144, c145, c146, c147, c148, c149, c150, c151, c152, c153, c154, c155, c156, c157, c158, c159, c160, c161, c162, c163, c164, c165, c166, c167, c168, c169, c170, c171, c172, c173, c174, c175, c176, c177, c178, c179, c180], df⟩ L a ∧ Hid (Ext wr wc ∧ (L 2 = true → Rs RS wc (.slice VA 7 vc) l2))) ⟨none, 0, Inv.start, Lib.hid ⟨(Ext.refl wr).drew, fun h => by cases h⟩⟩ ?_ ?_
  · refine ⟨?_, ?_, ?_, ?_, ?_, ?_, ?_, ?_, ?_, trivial⟩
    ·
      rintro L a wc ⟨VA, vc, hv, HO⟩ hL hc hd
      have h0 : wc.cell? ⟨C, 0, none⟩ = some (.int .i64 4) := HO.out.1.cell k0
      have h1 : wc.cell? ⟨C, 1, none⟩ = some (.slice GA 2 gc) := HO.out.1.cell k1
      have h2 : wc.cell? ⟨C, 2, none⟩ = some (.int .i64 1) := HO.out.1.cell k2
      exact wpOp_val rfl rfl (ex_load rfl ((hv.fixed 1 (by decide)).trans rfl) (by go_simp)) ⟨VA, vc, hv.put sn13_apart 0 rfl (lb rfl) (lb rfl) rfl, HO⟩
    ·
      rintro L a wc ⟨VA, vc, hv, HO⟩ hL hc hd
      exact wpOp_val rfl rfl (ex_move rfl ((hv.fixed 2 (by decide)).trans rfl)) ⟨VA, vc, hv.put sn13_apart 1 rfl (lb rfl) (lb rfl) rfl, HO⟩
    ·
      rintro L a wc ⟨VA, vc, hv, HO⟩ hL hc hd
      refine wpOp_call (R := fun v w1 => ∃ A c, v = .slice A 7 c ∧ Rs RS w1 (.slice A 7 c) l2 ∧ Ext wc w1) rfl rfl (ex_call rfl rfl (by simp only [List.map_toArray, List.map_cons, List.map_nil, (hv.get 1 rfl rfl (hd 1 (by decide)))]; rfl) (enters_of Tryd.func28 (by kernel_rfl) rfl _ _)) ((HW.out wc HO.out.1).mono (fun e w' h => by obtain ⟨A, c, rfl, h1, h2⟩ := h; exact ⟨_, rfl, A, c, rfl, h1, h2⟩)) ?_
      rintro v w' ⟨A2, c2, rfl, hr, hx⟩
      exact ⟨A2, c2, hv.put sn13_apart 2 rfl (lb rfl) (lb rfl) rfl, Lib.hid ⟨HO.out.1.trans hx, fun _ => hr⟩⟩
    ·
      rintro L a wc ⟨VA, vc, hv, HO⟩ hL hc hd
      refine wpOp_call (R := fun v w1 => v = .tuple #[.int .i64 79, .int .i64 0] ∧ Ext wc w1) rfl rfl (ex_call rfl rfl (by simp only [List.map_toArray, List.map_cons, List.map_nil, (hv.get 0 rfl rfl (hd 0 (by decide))), (hv.get 2 rfl rfl (hd 2 (by decide)))]; rfl) (enters_of Tryd.func19 (by kernel_rfl) rfl _ _)) ((HC.out wc VA vc HO.out.1 (HO.out.2 (hd 2 (by decide)))).mono (fun e w' h => ⟨_, h.1, rfl, h.2⟩)) ?_
      rintro v w' ⟨rfl, hx⟩
      exact ⟨VA, vc, hv.put sn13_apart 3 rfl (lb rfl) (lb rfl) rfl, Lib.hid ⟨HO.out.1.trans hx, fun h => Rs.ext RS.ext _ _ _ _ hx (HO.out.2 h)⟩⟩
    ·
      rintro L a wc ⟨VA, vc, hv, HO⟩ hL hc hd
      exact wpOp_val rfl rfl (ex_move rfl (hv.get 3 rfl rfl (hd 3 (by decide)))) ⟨VA, vc, hv.put sn13_apart 4 rfl (lb rfl) (lb rfl) rfl, HO⟩
    ·
      rintro L a wc ⟨VA, vc, hv, HO⟩ hL hc hd
      exact wpOp_val rfl rfl (ex_extract9 rfl (hv.get 4 rfl rfl (hd 4 (by decide))) rfl) ⟨VA, vc, hv.put sn13_apart 5 rfl (lb rfl) (lb rfl) rfl, HO⟩
    ·
      rintro L a wc ⟨VA, vc, hv, HO⟩ hL hc hd
      exact wpOp_val rfl rfl (ex_extract9 rfl (hv.get 4 rfl rfl (hd 4 (by decide))) rfl) ⟨VA, vc, hv.put sn13_apart 6 rfl (lb rfl) (lb rfl) rfl, HO⟩
    ·
      rintro L a wc ⟨VA, vc, hv, HO⟩ hL hc hd
      exact wpOp_val rfl rfl (ex_assign rfl (hv.get 5 rfl rfl (hd 5 (by decide)))) ⟨VA, vc, hv.put sn13_apart 7 rfl (lb rfl) (lb rfl) rfl, HO⟩
    ·
      rintro L a wc ⟨VA, vc, hv, HO⟩ hL hc hd
      exact wpOp_val rfl rfl (ex_assign rfl (hv.get 6 rfl rfl (hd 6 (by decide)))) ⟨VA, vc, hv.put sn13_apart 8 rfl (lb rfl) (lb rfl) rfl, HO⟩
  · rintro L a wc ⟨VA, vc, hv, HO⟩ hall
    show K a wc
    have ha := act_lit a
    rw [hv.size, hv.defers] at ha
    have hl : ∀ f : Nat → Value, ((List.range (⟨#[c0, .pointer (some ⟨C, 0, none⟩), .slice LA 7 lc, c3, c4, c5, c6, c7, c8, c9, c10, c11, c12, c13, c14, c15, c16, c17, c18, c19, c20, c21, c22, c23, c24, c25, c26, c27, c28, c29, c30, c31, c32, c33, c34, c35, c36, c37, c38, c39, c40, c41, c42, c43, c44, c45, c46, c47, c48, c49, c50, c51, c52, c53, c54, c55, c56, c57, c58, c59, c60, c61, c62, c63, c64, c65, c66, c67, c68, c69, c70, c71, c72, c73, c74, c75, c76, c77, c78, c79, c80, c81, c82, c83, c84, c85, c86, c87, c88, c89, c90, c91, c92, c93, c94, c95, c96, c97, c98, c99, c100, c101, c102, c103, c104, c105, c106, c107, c108, c109, c110, c111, c112, c113, c114, c115, c116, c117, c118, c119, c120, c121, c122, c123, c124, c125, c126, c127, c128, c129, c130, c131, c132, c133, c134, c135, c136, c137, c138, c139, c140, c141, c142, c143, c144, c145, c146, c147, c148, c149, c150, c151, c152, c153, c154, c155, c156, c157, c158, c159, c160, c161, c162, c163, c164, c165, c166, c167, c168, c169, c170, c171, c172, c173, c174, c175, c176, c177, c178, c179, c180], df⟩ : Act).tmps.size).map f).toArray = #[f 0, f 1, f 2, f 3, f 4, f 5, f 6, f 7, f 8, f 9, f 10, f 11, f 12, f 13, f 14, f 15, f 16, f 17, f 18, f 19, f 20, f 21, f 22, f 23, f 24, f 25, f 26, f 27, f 28, f 29, f 30, f 31, f 32, f 33, f 34, f 35, f 36, f 37, f 38, f 39, f 40, f 41, f 42, f 43, f 44, f 45, f 46, f 47, f 48, f 49, f 50, f 51, f 52, f 53, f 54, f 55, f 56, f 57, f 58, f 59, f 60, f 61, f 62, f 63, f 64, f 65, f 66, f 67, f 68, f 69, f 70, f 71, f 72, f 73, f 74, f 75, f 76, f 77, f 78, f 79, f 80, f 81, f 82, f 83, f 84, f 85, f 86, f 87, f 88, f 89, f 90, f 91, f 92, f 93, f 94, f 95, f 96, f 97, f 98, f 99, f 100, f 101, f 102, f 103, f 104, f 105, f 106, f 107, f 108, f 109, f 110, f 111, f 112, f 113, f 114, f 115, f 116, f 117, f 118, f 119, f 120, f 121, f 122, f 123, f 124, f 125, f 126, f 127, f 128, f 129, f 130, f 131, f 132, f 133, f 134, f 135, f 136, f 137, f 138, f 139, f 140, f 141, f 142, f 143, f 144, f 145, f 146, f 147, f 148, f 149, f 150, f 151, f 152, f 153, f 154, f 155, f 156, f 157, f 158, f 159, f 160, f 161, f 162, f 163, f 164, f 165, f 166, f 167, f 168, f 169, f 170, f 171, f 172, f 173, f 174, f 175, f 176, f 177, f 178, f 179, f 180] := fun _ => rfl
    rw [hl] at ha
    simp only [hv.fixed 0 (by decide), hv.fixed 1 (by decide), hv.fixed 2 (by decide), hv.fixed 3 (by decide), hv.fixed 4 (by decide), hv.fixed 5 (by decide), hv.fixed 6 (by decide), hv.fixed 7 (by decide), hv.fixed 8 (by decide), hv.fixed 9 (by decide), hv.fixed 10 (by decide), hv.fixed 11 (by decide), hv.fixed 12 (by decide), hv.fixed 13 (by decide), hv.fixed 14 (by decide), hv.fixed 15 (by decide), hv.fixed 16 (by decide), hv.fixed 17 (by decide), hv.fixed 18 (by decide), hv.fixed 19 (by decide), hv.fixed 20 (by decide), hv.fixed 21 (by decide), hv.fixed 22 (by decide), hv.fixed 23 (by decide), hv.fixed 24 (by decide), hv.fixed 27 (by decide), hv.fixed 28 (by decide), hv.fixed 29 (by decide), hv.fixed 30 (by decide), hv.fixed 31 (by decide), hv.fixed 32 (by decide), hv.fixed 33 (by decide), hv.fixed 34 (by decide), hv.fixed 35 (by decide), hv.fixed 36 (by decide), hv.fixed 37 (by decide), hv.fixed 38 (by decide), hv.fixed 39 (by decide), hv.fixed 40 (by decide), hv.fixed 41 (by decide), hv.fixed 42 (by decide), hv.fixed 43 (by decide), hv.fixed 44 (by decide), hv.fixed 45 (by decide), hv.fixed 46 (by decide), hv.fixed 47 (by decide), hv.fixed 48 (by decide), hv.fixed 49 (by decide), hv.fixed 50 (by decide), hv.fixed 51 (by decide), hv.fixed 52 (by decide), hv.fixed 53 (by decide), hv.fixed 54 (by decide), hv.fixed 55 (by decide), hv.fixed 56 (by decide), hv.fixed 57 (by decide), hv.fixed 58 (by decide), hv.fixed 59 (by decide), hv.fixed 60 (by decide), hv.fixed 61 (by decide), hv.fixed 62 (by decide), hv.fixed 63 (by decide), hv.fixed 64 (by decide), hv.fixed 65 (by decide), hv.fixed 66 (by decide), hv.fixed 67 (by decide), hv.fixed 68 (by decide), hv.fixed 69 (by decide), hv.fixed 70 (by decide), hv.fixed 71 (by decide), hv.fixed 72 (by decide), hv.fixed 73 (by decide), hv.fixed 74 (by decide), hv.fixed 75 (by decide), hv.fixed 76 (by decide), hv.fixed 77 (by decide), hv.fixed 78 (by decide), hv.fixed 79 (by decide), hv.fixed 80 (by decide), hv.fixed 81 (by decide), hv.fixed 82 (by decide), hv.fixed 83 (by decide), hv.fixed 84 (by decide), hv.fixed 85 (by decide), hv.fixed 86 (by decide), hv.fixed 87 (by decide), hv.fixed 88 (by decide), hv.fixed 89 (by decide), hv.fixed 90 (by decide), hv.fixed 98 (by decide), hv.fixed 99 (by decide), hv.fixed 100 (by decide), hv.fixed 101 (by decide), hv.fixed 102 (by decide), hv.fixed 103 (by decide), hv.fixed 104 (by decide), hv.fixed 105 (by decide), hv.fixed 106 (by decide), hv.fixed 107 (by decide), hv.fixed 108 (by decide), hv.fixed 109 (by decide), hv.fixed 110 (by decide), hv.fixed 111 (by decide), hv.fixed 112 (by decide), hv.fixed 113 (by decide), hv.fixed 114 (by decide), hv.fixed 115 (by decide), hv.fixed 116 (by decide), hv.fixed 117 (by decide), hv.fixed 118 (by decide), hv.fixed 119 (by decide), hv.fixed 120 (by decide), hv.fixed 121 (by decide), hv.fixed 122 (by decide), hv.fixed 123 (by decide), hv.fixed 124 (by decide), hv.fixed 125 (by decide), hv.fixed 126 (by decide), hv.fixed 127 (by decide), hv.fixed 128 (by decide), hv.fixed 129 (by decide), hv.fixed 130 (by decide), hv.fixed 131 (by decide), hv.fixed 132 (by decide), hv.fixed 133 (by decide), hv.fixed 134 (by decide), hv.fixed 135 (by decide), hv.fixed 136 (by decide), hv.fixed 137 (by decide), hv.fixed 138 (by decide), hv.fixed 139 (by decide), hv.fixed 140 (by decide), hv.fixed 141 (by decide), hv.fixed 142 (by decide), hv.fixed 143 (by decide), hv.fixed 144 (by decide), hv.fixed 145 (by decide), hv.fixed 146 (by decide), hv.fixed 147 (by decide), hv.fixed 148 (by decide), hv.fixed 149 (by decide), hv.fixed 150 (by decide), hv.fixed 151 (by decide), hv.fixed 152 (by decide), hv.fixed 153 (by decide), hv.fixed 154 (by decide), hv.fixed 155 (by decide), hv.fixed 156 (by decide), hv.fixed 157 (by decide), hv.fixed 158 (by decide), hv.fixed 159 (by decide), hv.fixed 160 (by decide), hv.fixed 161 (by decide), hv.fixed 162 (by decide), hv.fixed 163 (by decide), hv.fixed 164 (by decide), hv.fixed 165 (by decide), hv.fixed 166 (by decide), hv.fixed 167 (by decide), hv.fixed 168 (by decide), hv.fixed 169 (by decide), hv.fixed 170 (by decide), hv.fixed 171 (by decide), hv.fixed 172 (by decide), hv.fixed 173 (by decide), hv.fixed 174 (by decide), hv.fixed 175 (by decide), hv.fixed 176 (by decide), hv.fixed 177 (by decide), hv.fixed 178 (by decide), hv.fixed 179 (by decide), hv.fixed 180 (by decide), hv.get 7 (d := 25) rfl rfl (hall 7 (by decide)), hv.get 8 (d := 26) rfl rfl (hall 8 (by decide))] at ha
    rw [ha]
    exact hK _ _ _ _ _ _ _ wc HO.out.1
end Go.Proofs.YtggfkpalkdkbdaaDoor

/- THE WALK over sanity (quietuslaw09). -/
namespace Lo
theorem ex_rows : (Cd.rowsOf 4 exG 1).length ≤ 14 := by decide +kernel
end Lo
namespace Go.Proofs.YtggfkpalkdkbdaaDoor
open Go.RowKit
set_option maxHeartbeats 16000000 in
set_option maxRecDepth 100000 in
theorem sanity9_any (w : World) (hT : Tab w) : Calls Tryd.prog 10 #[] w fun e w' => e = .returned (.bool true) ∧ Ext w w' := by
  have HT0 := Lib.hid hT
  clear hT
  go_enter Tryd.func10, Tryd.ntmps10
  go_upto_region 2 with fail
  refine (example9_any w).mono ?_
  rintro e w1 ⟨GA, gc, LA, lc, rfl, hG, hL, hx1⟩
  have hxa := (Ext.refl w1).alloc (.cells #[.int .i64 4, .slice GA 2 gc, .int .i64 1] 24)
  obtain ⟨LB, uL, rfl, _, _⟩ := hL.at (i := 0) (by decide)
  have hcn := cells_new w1 #[.int .i64 4, .slice GA 2 gc, .int .i64 1] 24
  have HG1 := Lib.hid (Rs.ext (Rs.ext RI.ext) _ _ _ _ hxa hG)
  have HL1 := Lib.hid (Rs.ext RS.ext _ _ _ _ hxa hL)
  have HX01 := Lib.hid (hx1.trans hxa)
  have HCN := Lib.hid hcn
  clear hG hL hx1 hcn
  go_upto_region 2 with fail
  obtain ⟨C, hC⟩ : ∃ C, w1.heap.size = C := ⟨_, rfl⟩
  rw [hC] at HCN
  rw [hC]
  obtain ⟨wa, hwa⟩ : ∃ x, w1.alloc (.cells #[.int .i64 4, .slice GA 2 gc, .int .i64 1] 24) = x := ⟨_, rfl⟩
  rw [hwa] at HG1 HL1 HX01 HCN ⊢
  have HG := Lib.hid HG1.out
  have HL := Lib.hid HL1.out
  have HT := Lib.hid (HT0.out.ext HX01.out)
  have HK : Hid (wa.cell? ⟨C, 0, none⟩ = some (.int .i64 4) ∧ wa.cell? ⟨C, 1, none⟩ = some (.slice GA 2 gc) ∧ wa.cell? ⟨C, 2, none⟩ = some (.int .i64 1)) := Lib.hid ⟨HCN.out 0 _ rfl, HCN.out 1 _ rfl, HCN.out 2 _ rfl⟩
  have HX := Lib.hid (Ext.refl wa)
  clear hxa hwa hC HG1 HL1 HCN HT0
  have hc := with9_any Lo.exL LB 7 lc 2 [9, 9] wa HL.out rfl (by decide) (by decide)
  have HC := Lib.hid hc
  clear hc
  go_upto_region 3 with fail
  refine HC.out.mono ?_
  clear HC
  rintro e w2 ⟨A1, d1, rfl, hl1, hx⟩
  have H1 : Hid (Rs RS w2 (.slice A1 7 d1) Lo.exOne) := Lib.hid hl1
  have HX2 := Lib.hid hx
  replace HX := Lib.hid (HX.out.trans hx)
  clear hx
  obtain ⟨A1, uA, rfl, _, _⟩ := hl1.at (i := 0) (by decide)
  clear hl1
  have hc := with9_any Lo.exOne A1 7 d1 3 [9, 9] w2 H1.out rfl (by decide) (by decide)
  have HC := Lib.hid hc
  clear hc
  go_upto_region 4 with fail
  refine HC.out.mono ?_
  clear HC
  rintro e w3 ⟨A2, d2, rfl, hl2, hx⟩
  have H2 : Hid (Rs RS w3 (.slice A2 7 d2) Lo.exTwo) := Lib.hid hl2
  replace H1 := Lib.hid (Rs.ext RS.ext _ _ _ _ hx H1.out)
  have HX3 := Lib.hid (Ext.refl w3)
  clear hl2 HX2
  replace HX := Lib.hid (HX.out.trans hx)
  clear hx
  have hc := lDetects_any 4 1 Lo.exG 127 2 _ w3 (HT.out.ext HX.out) (Rs.ext (Rs.ext RI.ext) _ _ _ _ HX.out HG.out) (fun _ => Lo.ex_rows)
  rw [Lo.ex_det2.1, Lo.ex_det2.2] at hc
  have HC := Lib.hid hc
  have k0 : w3.cell? ⟨C, 0, none⟩ = some (.int .i64 4) := HX.out.cell HK.out.1
  have k1 : w3.cell? ⟨C, 1, none⟩ = some (.slice GA 2 gc) := HX.out.cell HK.out.2.1
  have k2 : w3.cell? ⟨C, 2, none⟩ = some (.int .i64 1) := HX.out.cell HK.out.2.2
  clear hc
  go_wp2_with fail
  refine HC.out.mono ?_
  clear HC
  rintro e w4 ⟨rfl, hx⟩
  clear k0 k1 k2
  replace HX3 := Lib.hid (HX3.out.trans hx)
  replace HX := Lib.hid (HX.out.trans hx)
  clear hx
  have hc := lDetects_any 4 1 Lo.exG 127 3 _ w4 (HT.out.ext HX.out) (Rs.ext (Rs.ext RI.ext) _ _ _ _ HX.out HG.out) (fun _ => Lo.ex_rows)
  rw [Lo.ex_det3.1, Lo.ex_det3.2] at hc
  have HC := Lib.hid hc
  have k0 : w4.cell? ⟨C, 0, none⟩ = some (.int .i64 4) := HX.out.cell HK.out.1
  have k1 : w4.cell? ⟨C, 1, none⟩ = some (.slice GA 2 gc) := HX.out.cell HK.out.2.1
  have k2 : w4.cell? ⟨C, 2, none⟩ = some (.int .i64 1) := HX.out.cell HK.out.2.2
  clear hc
  go_wp2_with fail
  refine HC.out.mono ?_
  clear HC
  rintro e w5 ⟨rfl, hx⟩
  clear k0 k1 k2
  replace HX3 := Lib.hid (HX3.out.trans hx)
  replace HX := Lib.hid (HX.out.trans hx)
  clear hx
  have hc := lCorrects_any 4 1 Lo.exG 127 1 _ w5 (HT.out.ext HX.out) (Rs.ext (Rs.ext RI.ext) _ _ _ _ HX.out HG.out) (fun _ => Lo.ex_rows)
  rw [Lo.ex_cor1.1, Lo.ex_cor1.2] at hc
  have HC := Lib.hid hc
  have k0 : w5.cell? ⟨C, 0, none⟩ = some (.int .i64 4) := HX.out.cell HK.out.1
  have k1 : w5.cell? ⟨C, 1, none⟩ = some (.slice GA 2 gc) := HX.out.cell HK.out.2.1
  have k2 : w5.cell? ⟨C, 2, none⟩ = some (.int .i64 1) := HX.out.cell HK.out.2.2
  clear hc
  go_wp2_with fail
  refine HC.out.mono ?_
  clear HC
  rintro e w6 ⟨rfl, hx⟩
  clear k0 k1 k2
  replace HX3 := Lib.hid (HX3.out.trans hx)
  replace HX := Lib.hid (HX.out.trans hx)
  clear hx
  have hc := lCorrects_any 4 1 Lo.exG 63 1 _ w6 (HT.out.ext HX.out) (Rs.ext (Rs.ext RI.ext) _ _ _ _ HX.out HG.out) (fun _ => Lo.ex_rows)
  rw [Lo.ex_cor63.1, Lo.ex_cor63.2] at hc
  have HC := Lib.hid hc
  have k0 : w6.cell? ⟨C, 0, none⟩ = some (.int .i64 4) := HX.out.cell HK.out.1
  have k1 : w6.cell? ⟨C, 1, none⟩ = some (.slice GA 2 gc) := HX.out.cell HK.out.2.1
  have k2 : w6.cell? ⟨C, 2, none⟩ = some (.int .i64 1) := HX.out.cell HK.out.2.2
  clear hc
  go_wp2_with fail
  refine HC.out.mono ?_
  clear HC
  rintro e w7 ⟨rfl, hx⟩
  clear k0 k1 k2
  replace HX3 := Lib.hid (HX3.out.trans hx)
  replace HX := Lib.hid (HX.out.trans hx)
  clear hx
  have hc := lLocate_any 4 1 7 127 1 Lo.exG Lo.exOne _ (some A1) d1 w7 (HT.out.ext HX.out) (Rs.ext (Rs.ext RI.ext) _ _ _ _ HX.out HG.out) (Rs.ext RS.ext _ _ _ _ HX3.out H1.out) (by decide) (fun _ => Lo.ex_rows)
  rw [Lo.ex_one] at hc
  have HC := Lib.hid hc
  have k0 : w7.cell? ⟨C, 0, none⟩ = some (.int .i64 4) := HX.out.cell HK.out.1
  have k1 : w7.cell? ⟨C, 1, none⟩ = some (.slice GA 2 gc) := HX.out.cell HK.out.2.1
  have k2 : w7.cell? ⟨C, 2, none⟩ = some (.int .i64 1) := HX.out.cell HK.out.2.2
  clear hc
  go_wp2_with fail
  refine HC.out.mono ?_
  clear HC
  rintro e w8 ⟨rfl, hx⟩
  clear k0 k1 k2
  replace HX3 := Lib.hid (HX3.out.trans hx)
  replace HX := Lib.hid (HX.out.trans hx)
  clear hx
  obtain ⟨s2, hs2⟩ : ∃ s, sb (Lo.locR 4 1 Lo.exG 7 127 Lo.exTwo 1).1 = s := ⟨_, rfl⟩
  obtain ⟨z2, hz2⟩ : ∃ s, (Lo.locR 4 1 Lo.exG 7 127 Lo.exTwo 1).2.1 = s := ⟨_, rfl⟩
  have hc := lLocate_any 4 1 7 127 1 Lo.exG Lo.exTwo _ A2 d2 w8 (HT.out.ext HX.out) (Rs.ext (Rs.ext RI.ext) _ _ _ _ HX.out HG.out) (Rs.ext RS.ext _ _ _ _ HX3.out H2.out) (by decide) (fun _ => Lo.ex_rows)
  rw [hs2, hz2, Lo.ex_two] at hc
  have HC := Lib.hid hc
  have k0 : w8.cell? ⟨C, 0, none⟩ = some (.int .i64 4) := HX.out.cell HK.out.1
  have k1 : w8.cell? ⟨C, 1, none⟩ = some (.slice GA 2 gc) := HX.out.cell HK.out.2.1
  have k2 : w8.cell? ⟨C, 2, none⟩ = some (.int .i64 1) := HX.out.cell HK.out.2.2
  clear hc
  clear hs2 hz2
  go_wp2_with fail
  refine HC.out.mono ?_
  clear HC
  rintro e w9 ⟨rfl, hx⟩
  clear k0 k1 k2
  replace HX3 := Lib.hid (HX3.out.trans hx)
  replace HX := Lib.hid (HX.out.trans hx)
  clear hx
  have hc := lFits_any 4 1 7 19 Lo.exG Lo.exL _ (some LB) lc w9 (HT.out.ext HX.out) (Rs.ext (Rs.ext RI.ext) _ _ _ _ HX.out HG.out) (Rs.ext RS.ext _ _ _ _ HX.out HL.out)
  rw [Lo.ex_fit.1, Lo.ex_fit.2] at hc
  have HC := Lib.hid hc
  have k0 : w9.cell? ⟨C, 0, none⟩ = some (.int .i64 4) := HX.out.cell HK.out.1
  have k1 : w9.cell? ⟨C, 1, none⟩ = some (.slice GA 2 gc) := HX.out.cell HK.out.2.1
  have k2 : w9.cell? ⟨C, 2, none⟩ = some (.int .i64 1) := HX.out.cell HK.out.2.2
  clear hc
  go_wp2_with fail
  refine HC.out.mono ?_
  clear HC
  rintro e w10 ⟨rfl, hx⟩
  clear k0 k1 k2
  replace HX3 := Lib.hid (HX3.out.trans hx)
  replace HX := Lib.hid (HX.out.trans hx)
  clear hx
  have HW : Hid (∀ w1 : World, Ext w10 w1 → Calls Tryd.prog 28 #[.slice (some LB) 7 lc, .int .i64 4, .string ⟨#[2, 7]⟩] w1 fun e w' => ∃ A c, e = .returned (.slice A 7 c) ∧ Rs RS w' (.slice A 7 c) Lo.exA ∧ Ext w1 w') := Lib.hid fun w1 h => with9_any Lo.exL LB 7 lc 4 [2, 7] w1 (Rs.ext RS.ext _ _ _ _ (HX.out.trans h) HL.out) rfl (by decide) (by decide)
  have HC : Hid (∀ (w1 : World) (A : Option Addr) (c : Nat), Ext w10 w1 → Rs RS w1 (.slice A 7 c) Lo.exA → Calls Tryd.prog 17 #[.agg #[.int .i64 4, .slice GA 2 gc, .int .i64 1], .int .i64 7, .int .i64 19, .slice A 7 c] w1 fun e w' => e = .returned (.tuple #[.bool false, .int .i64 0]) ∧ Ext w1 w') := Lib.hid fun w1 A c h hr => by
    have hc := lFits_any 4 1 7 19 Lo.exG Lo.exA _ A c w1 (HT.out.ext (HX.out.trans h)) (Rs.ext (Rs.ext RI.ext) _ _ _ _ (HX.out.trans h) HG.out) hr
    rw [Lo.ex_fitA.1, Lo.ex_fitA.2] at hc
    exact hc
  have k0 : w10.cell? ⟨C, 0, none⟩ = some (.int .i64 4) := HX.out.cell HK.out.1
  have k1 : w10.cell? ⟨C, 1, none⟩ = some (.slice GA 2 gc) := HX.out.cell HK.out.2.1
  have k2 : w10.cell? ⟨C, 2, none⟩ = some (.int .i64 1) := HX.out.cell HK.out.2.2
  go_upto_region 11 with fail
  refine wp_atEnd' (sn11 w10 C lc gc GA (some LB) Lo.exA k0 k1 k2 HW HC _ _ _ _ _ _ _ _ _ _ _ _ _ _ _ _ _ _ _ _ _ _ _ _ _ _ _ _ _ _ _ _ _ _ _ _ _ _ _ _ _ _ _ _ _ _ _ _ _ _ _ _ _ _ _ _ _ _ _ _ _ _ _ _ _ _ _ _ _ _ _ _ _ _ _ _ _ _ _ _ _ _ _ _ _ _ _ _ _ _ _ _ _ _ _ _ _ _ _ _ _ _ _ _ _ _ _ _ _ _ _ _ _ _ _ _ _ _ _ _ _ _ _ _ _ _ _ _ _ _ _ _ _ _ _ _ _ _ _ _ _ _ _ _ _ _ _ _ _ _ _ _ _ _ _ _ _ _ _ _ _ _ _ _ _ _ _ _ _ _ _ _ _ _ _ _ _ _ _ _ _ ?_)
  rintro u77 u78 u79 u80 u81 u82 u83 w11 hx
  clear k0 k1 k2 HW HC
  replace HX3 := Lib.hid (HX3.out.trans hx)
  replace HX := Lib.hid (HX.out.trans hx)
  clear hx
  have HW : Hid (∀ w1 : World, Ext w11 w1 → Calls Tryd.prog 28 #[.slice (some LB) 7 lc, .int .i64 4, .string ⟨#[2, 7]⟩] w1 fun e w' => ∃ A c, e = .returned (.slice A 7 c) ∧ Rs RS w' (.slice A 7 c) Lo.exA ∧ Ext w1 w') := Lib.hid fun w1 h => with9_any Lo.exL LB 7 lc 4 [2, 7] w1 (Rs.ext RS.ext _ _ _ _ (HX.out.trans h) HL.out) rfl (by decide) (by decide)
  have HC : Hid (∀ (w1 : World) (A : Option Addr) (c : Nat), Ext w11 w1 → Rs RS w1 (.slice A 7 c) Lo.exA → Calls Tryd.prog 19 #[.agg #[.int .i64 4, .slice GA 2 gc, .int .i64 1], .int .i64 7, .int .i64 127, .slice A 7 c] w1 fun e w' => e = .returned (.tuple #[.int .i64 19, .int .i64 0]) ∧ Ext w1 w') := Lib.hid fun w1 A c h hr => by
    have hc := lClash_any 4 1 7 127 Lo.exG Lo.exA _ A c w1 (HT.out.ext (HX.out.trans h)) (Rs.ext (Rs.ext RI.ext) _ _ _ _ (HX.out.trans h) HG.out) hr (fun _ => Lo.ex_rows)
    refine hc.mono ?_
    rintro e w' ⟨x, E, rfl, h1, h2⟩
    obtain ⟨rfl, rfl⟩ := Lo.cl_ex Lo.ex_givA Lo.ex_clA h1
    exact ⟨rfl, h2⟩
  have k0 : w11.cell? ⟨C, 0, none⟩ = some (.int .i64 4) := HX.out.cell HK.out.1
  have k1 : w11.cell? ⟨C, 1, none⟩ = some (.slice GA 2 gc) := HX.out.cell HK.out.2.1
  have k2 : w11.cell? ⟨C, 2, none⟩ = some (.int .i64 1) := HX.out.cell HK.out.2.2
  go_upto_region 12 with fail
  refine wp_atEnd' (sn12 w11 C lc gc GA (some LB) Lo.exA k0 k1 k2 HW HC _ _ _ _ _ _ _ _ _ _ _ _ _ _ _ _ _ _ _ _ _ _ _ _ _ _ _ _ _ _ _ _ _ _ _ _ _ _ _ _ _ _ _ _ _ _ _ _ _ _ _ _ _ _ _ _ _ _ _ _ _ _ _ _ _ _ _ _ _ _ _ _ _ _ _ _ _ _ _ _ _ _ _ _ _ _ _ _ _ _ _ _ _ _ _ _ _ _ _ _ _ _ _ _ _ _ _ _ _ _ _ _ _ _ _ _ _ _ _ _ _ _ _ _ _ _ _ _ _ _ _ _ _ _ _ _ _ _ _ _ _ _ _ _ _ _ _ _ _ _ _ _ _ _ _ _ _ _ _ _ _ _ _ _ _ _ _ _ _ _ _ _ _ _ _ _ _ _ _ _ _ ?_)
  rintro u84 u85 u86 u87 u88 u89 u90 w12 hx
  clear k0 k1 k2 HW HC
  replace HX3 := Lib.hid (HX3.out.trans hx)
  replace HX := Lib.hid (HX.out.trans hx)
  clear hx
  have HW : Hid (∀ w1 : World, Ext w12 w1 → Calls Tryd.prog 28 #[.slice (some LB) 7 lc, .int .i64 6, .string ⟨#[0, 0]⟩] w1 fun e w' => ∃ A c, e = .returned (.slice A 7 c) ∧ Rs RS w' (.slice A 7 c) Lo.exB ∧ Ext w1 w') := Lib.hid fun w1 h => with9_any Lo.exL LB 7 lc 6 [0, 0] w1 (Rs.ext RS.ext _ _ _ _ (HX.out.trans h) HL.out) rfl (by decide) (by decide)
  have HC : Hid (∀ (w1 : World) (A : Option Addr) (c : Nat), Ext w12 w1 → Rs RS w1 (.slice A 7 c) Lo.exB → Calls Tryd.prog 19 #[.agg #[.int .i64 4, .slice GA 2 gc, .int .i64 1], .int .i64 7, .int .i64 127, .slice A 7 c] w1 fun e w' => e = .returned (.tuple #[.int .i64 79, .int .i64 0]) ∧ Ext w1 w') := Lib.hid fun w1 A c h hr => by
    have hc := lClash_any 4 1 7 127 Lo.exG Lo.exB _ A c w1 (HT.out.ext (HX.out.trans h)) (Rs.ext (Rs.ext RI.ext) _ _ _ _ (HX.out.trans h) HG.out) hr (fun _ => Lo.ex_rows)
    refine hc.mono ?_
    rintro e w' ⟨x, E, rfl, h1, h2⟩
    obtain ⟨rfl, rfl⟩ := Lo.cl_ex Lo.ex_givB Lo.ex_clB h1
    exact ⟨rfl, h2⟩
  have k0 : w12.cell? ⟨C, 0, none⟩ = some (.int .i64 4) := HX.out.cell HK.out.1
  have k1 : w12.cell? ⟨C, 1, none⟩ = some (.slice GA 2 gc) := HX.out.cell HK.out.2.1
  have k2 : w12.cell? ⟨C, 2, none⟩ = some (.int .i64 1) := HX.out.cell HK.out.2.2
  go_upto_region 13 with fail
  refine wp_atEnd' (sn13 w12 C lc gc GA (some LB) Lo.exB k0 k1 k2 HW HC _ _ _ _ _ _ _ _ _ _ _ _ _ _ _ _ _ _ _ _ _ _ _ _ _ _ _ _ _ _ _ _ _ _ _ _ _ _ _ _ _ _ _ _ _ _ _ _ _ _ _ _ _ _ _ _ _ _ _ _ _ _ _ _ _ _ _ _ _ _ _ _ _ _ _ _ _ _ _ _ _ _ _ _ _ _ _ _ _ _ _ _ _ _ _ _ _ _ _ _ _ _ _ _ _ _ _ _ _ _ _ _ _ _ _ _ _ _ _ _ _ _ _ _ _ _ _ _ _ _ _ _ _ _ _ _ _ _ _ _ _ _ _ _ _ _ _ _ _ _ _ _ _ _ _ _ _ _ _ _ _ _ _ _ _ _ _ _ _ _ _ _ _ _ _ _ _ _ _ _ _ ?_)
  rintro u91 u92 u93 u94 u95 u96 u97 w13 hx
  clear k0 k1 k2 HW HC
  replace HX3 := Lib.hid (HX3.out.trans hx)
  replace HX := Lib.hid (HX.out.trans hx)
  clear hx
  have hc := lClash_any 4 1 7 127 Lo.exG Lo.exL _ (some LB) lc w13 (HT.out.ext HX.out) (Rs.ext (Rs.ext RI.ext) _ _ _ _ HX.out HG.out) (Rs.ext RS.ext _ _ _ _ HX.out HL.out) (fun _ => Lo.ex_rows)
  have HC := Lib.hid hc
  have k0 : w13.cell? ⟨C, 0, none⟩ = some (.int .i64 4) := HX.out.cell HK.out.1
  have k1 : w13.cell? ⟨C, 1, none⟩ = some (.slice GA 2 gc) := HX.out.cell HK.out.2.1
  have k2 : w13.cell? ⟨C, 2, none⟩ = some (.int .i64 1) := HX.out.cell HK.out.2.2
  clear hc
  go_wp2_with fail
  refine HC.out.mono ?_
  clear HC
  rintro e w14 ⟨x, E, rfl, hco, hx⟩
  clear k0 k1 k2
  obtain rfl := Lo.cl_exN Lo.ex_givL Lo.ex_clL hco
  replace HX := Lib.hid (HX.out.trans hx)
  have hsb : sb [1, 2, 3, 4, 5, 6, 7] = ⟨#[1, 2, 3, 4, 5, 6, 7]⟩ := rfl
  rw [hsb]
  clear hx hco hsb
  go_wp2_with fail
  go_ret
  exact ⟨rfl, HX01.out.trans HX.out⟩
end Go.Proofs.YtggfkpalkdkbdaaDoor
