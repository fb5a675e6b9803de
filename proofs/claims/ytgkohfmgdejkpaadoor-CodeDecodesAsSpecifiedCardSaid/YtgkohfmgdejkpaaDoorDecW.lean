/- THE WALK over Decode. -/
import Derived.Test.YtgkohfmgdejkpaaDoorSortW
import Derived.Lib.AppendStr
namespace Go.Proofs.YtgkohfmgdejkpaaDoor
open Go.RowKit
theorem StairsOut.toRd {w0 w : World} {P n : Nat} {rs ps : List (List UInt8)} (h : StairsOut w0 w P rs ps n) (hw : ∀ r ∈ rs, r.length ≤ 9223372036854775807) (hl : rs.length ≤ 9223372036854775807) : StairsRd w P rs ps n := by
  obtain ⟨A, B, cA, cB, b0, b1, b2, hpl, h1, h2⟩ := h.look
  refine ⟨A, B, cA, cB, b0, by rw [hpl]; exact b1, b2, ⟨A, cA, rfl, hl, fun i x hx => ?_⟩, ⟨B, cB, rfl, by omega, fun i x hx => ?_⟩⟩
  · obtain ⟨hi, rfl⟩ := List.getElem?_eq_some_iff.1 hx
    obtain ⟨ad, g, cg, e1, e2, e3⟩ := h1 i hi
    exact ⟨ad, _, e1, e2, Rs.of_rd e3 (hw _ (List.getElem_mem hi))⟩
  · obtain ⟨hi, rfl⟩ := List.getElem?_eq_some_iff.1 hx
    obtain ⟨bd, e1, e2⟩ := h2 i hi
    exact ⟨bd, _, e1, e2, rfl⟩
theorem strCells_sb (p : List UInt8) : Lib.strCells (sb p) = p.map bv := rfl
/-- What Decode is given, with its first error. -/
theorem cDecode_no (d gl n m : Int) (gs : List (List Int)) (pieces : List (List UInt8)) (G : Value) (PA : Option Addr) (cp : Nat) (w : World) (hT : Tab w) (hG : Rs (Rs RI) w G gs) (h0 : Cd.check d gs gl ≠ 0) :
    Calls Tryd.prog 20 #[.agg #[.int .i64 d, G, .int .i64 gl], .int .i64 n, .int .i64 m, .slice PA pieces.length cp] w fun e w' => e = .returned (.tuple #[.string (sb []), .int .i64 (Cd.check d gs gl)]) ∧ Ext w w' := by
  have hx0 := (Ext.refl w).alloc (.cells #[.int .i64 d, G, .int .i64 gl] 24)
  have HX := Lib.hid (And.intro hx0 (Rs.ext (Rs.ext RI.ext) _ _ _ _ hx0 hG))
  have HT := Lib.hid (hT.ext hx0)
  obtain ⟨A, c, rfl, hl⟩ := hG.form
  have e1 : (Cd.check d gs gl != 0) = true := by rw [bne_iff_ne]; exact h0
  clear hG hx0 hT h0
  go_enter Tryd.func20, Tryd.ntmps20
  go_wp2_with fail
  refine (cRows_any d gl gs _ _ HT.out HX.out.2).mono ?_
  rintro e w1 ⟨v, rfl, hv, hx1⟩
  have HX1 := Lib.hid (HX.out.1.trans hx1)
  clear hx1 hv
  go_wp2_with fail
  go_ret2
  exact ⟨rfl, HX1.out⟩
theorem toList_sb (l : List UInt8) : (sb l).toList = l := by rw [ByteArray.toList_eq]; rfl
theorem sb_same {e p : List UInt8} (h : e = p) : (!(sb e).toList == (sb p).toList) = false := by subst h; simp
theorem sb_other {e p : List UInt8} (h : e ≠ p) : (!(sb e).toList == (sb p).toList) = true := by rw [toList_sb, toList_sb]; simp [h]
set_option maxRecDepth 100000 in
set_option maxHeartbeats 4000000 in
theorem cDecode_arg (d gl n m : Int) (gs : List (List Int)) (pieces : List (List UInt8)) (G : Value) (PA : Option Addr) (cp : Nat) (w : World) (hT : Tab w) (hG : Rs (Rs RI) w G gs) (h0 : Cd.check d gs gl = 0) (hb : Cd.badArgs d gl gs n m pieces = true) :
    Calls Tryd.prog 20 #[.agg #[.int .i64 d, G, .int .i64 gl], .int .i64 n, .int .i64 m, .slice PA pieces.length cp] w fun e w' => e = .returned (.tuple #[.string (sb []), .int .i64 1]) ∧ Ext w w' := by
  have hx0 := (Ext.refl w).alloc (.cells #[.int .i64 d, G, .int .i64 gl] 24)
  have HX := Lib.hid (And.intro hx0 (Rs.ext (Rs.ext RI.ext) _ _ _ _ hx0 hG))
  have HT := Lib.hid (hT.ext hx0)
  obtain ⟨A, c, rfl, hl⟩ := hG.form
  have e1 : (Cd.check d gs gl != 0) = false := by rw [h0]; rfl
  have hk := Cd.check_ok h0
  have hrl := Cd.rowsOf_len h0
  unfold Cd.badArgs at hb
  rw [decide_eq_true_eq] at hb
  obtain ⟨L, hL⟩ : ∃ L, (Cd.rowsOf d gs gl).length = L := ⟨_, rfl⟩
  rw [hL] at hb hrl
  have hw2 := wrap_pow L (by omega)
  obtain ⟨M, hM⟩ : ∃ M, 2 ^ L = M := ⟨_, rfl⟩
  rw [hM] at hb hw2
  obtain ⟨N, hN⟩ : ∃ N, pieces.length = N := ⟨_, rfl⟩
  rw [hN] at hb ⊢
  have five : n < 0 ∨ (¬ n < 0 ∧ 4096 < n) ∨ (¬ n < 0 ∧ ¬ 4096 < n ∧ m < 0) ∨ (¬ n < 0 ∧ ¬ 4096 < n ∧ ¬ m < 0 ∧ (M : Int) ≤ m) ∨ (¬ n < 0 ∧ ¬ 4096 < n ∧ ¬ m < 0 ∧ ¬ (M : Int) ≤ m ∧ N ≠ L) := by omega
  have HLL := Lib.hid hL
  have hL24 : L ≤ 24 := by omega
  clear hG hx0 hT h0 hb hM hL hN hrl
  rcases five with g | ⟨g1, g⟩ | ⟨g1, g2, g⟩ | ⟨g1, g2, g3, g⟩ | ⟨g1, g2, g3, g4, g⟩
  all_goals
    go_enter Tryd.func20, Tryd.ntmps20
    go_wp2_with fail
    refine (cRows_any d gl gs _ _ HT.out HX.out.2).mono ?_
    rintro e w1 ⟨v, rfl, hv, hx1⟩
    have HX1 := Lib.hid (HX.out.1.trans hx1)
    obtain ⟨RA, cR, rfl, _⟩ := hv.form
    rw [HLL.out]
    clear hx1 hv
  · go_wp2_with fail
    go_ret2
    exact ⟨rfl, HX1.out⟩
  · go_wp2_with fail
    go_ret2
    exact ⟨rfl, HX1.out⟩
  · go_wp2_with fail
    go_ret2
    exact ⟨rfl, HX1.out⟩
  · have e2 : (wrap64 (2 ^ L) ≤ m) = True := by rw [hw2]; exact eq_true (by omega)
    clear hw2 g
    go_wp2_with fail
    go_ret2
    exact ⟨rfl, HX1.out⟩
  · have e2 : (wrap64 (2 ^ L) ≤ m) = False := by rw [hw2]; exact eq_false (by omega)
    have e3 : ((N : Int) != (L : Int)) = true := by rw [bne_iff_ne]; omega
    clear hw2 g4 g
    go_wp2_with fail
    go_ret2
    exact ⟨rfl, HX1.out⟩
theorem dec_facts {d gl : Int} {n m : Nat} {gs : List (List Int)} {pieces : List (List UInt8)} (h : Cd.badArgs d gl gs (n : Int) (m : Int) pieces = false) : n ≤ 4096 ∧ m < 2 ^ (Cd.rowsOf d gs gl).length ∧ pieces.length = (Cd.rowsOf d gs gl).length := by
  unfold Cd.badArgs at h
  rw [decide_eq_false_iff_not] at h
  obtain ⟨M, hM⟩ : ∃ M, 2 ^ (Cd.rowsOf d gs gl).length = M := ⟨_, rfl⟩
  rw [hM] at h ⊢
  omega
theorem pow_le_false {m L : Nat} (h : m < 2 ^ L) (hL : L ≤ 24) : (wrap64 (2 ^ L) ≤ (m : Int)) = False := by
  rw [wrap_pow L (by omega)]
  obtain ⟨M, hM⟩ : ∃ M, 2 ^ L = M := ⟨_, rfl⟩
  rw [hM] at h ⊢
  exact eq_false (by omega)
set_option maxRecDepth 100000 in
set_option maxHeartbeats 8000000 in
theorem cDecode_in (d gl n m : Nat) (gs : List (List Int)) (pieces : List (List UInt8)) (G : Value) (PA : Option Addr) (cp : Nat) (w : World) (hT : Tab w) (hG : Rs (Rs RI) w G gs) (h0 : Cd.check d gs gl = 0) (hb : Cd.badArgs d gl gs n m pieces = false)
    (hP : Rs RS w (.slice PA pieces.length cp) pieces) (hpm : ∀ p ∈ pieces, p.length ≤ 140737488351232) :
    Calls Tryd.prog 20 #[.agg #[.int .i64 d, G, .int .i64 gl], .int .i64 n, .int .i64 m, .slice PA pieces.length cp] w fun e w' => e = .returned (.tuple #[.string (sb (Cd.decS d gl gs n m pieces)), .int .i64 (Cd.decE d gl gs n m pieces)]) ∧ Ext w w' := by
  have hx0 := (Ext.refl w).alloc (.cells #[.int .i64 d, G, .int .i64 gl] 24)
  have HX := Lib.hid (And.intro hx0 (Rs.ext (Rs.ext RI.ext) _ _ _ _ hx0 hG))
  have HT := Lib.hid (hT.ext hx0)
  have HP := Lib.hid (Rs.ext RS.ext _ _ _ _ hx0 hP)
  have HPM := Lib.hid hpm
  obtain ⟨A, c, rfl, hl⟩ := hG.form
  have e1 : (Cd.check (d : Int) gs (gl : Int) != 0) = false := by rw [h0]; rfl
  have hk := Cd.check_ok h0
  have hrl := Cd.rowsOf_len h0
  obtain ⟨L, hL⟩ : ∃ L, (Cd.rowsOf (d : Int) gs (gl : Int)).length = L := ⟨_, rfl⟩
  rw [hL] at hrl
  have hL24 : L ≤ 24 := by omega
  have hL0 : 0 < L := by omega
  have hfacts := dec_facts hb
  rw [hL] at hfacts
  obtain ⟨hn4, hmL, hpl⟩ := hfacts
  have hm24 : m < 16777216 := Nat.lt_of_lt_of_le hmL (Nat.pow_le_pow_right (by decide) hL24)
  have e2 : (wrap64 (2 ^ L) ≤ (m : Int)) = False := pow_le_false hmL hL24
  have hso := Cd.sizeOf_nat (d := d) (gl := gl) (gs := gs) hn4 h0
  have hszle := Cd.size_le (d := d) (by omega) n
  obtain ⟨sz, hsz⟩ : ∃ sz, Cd.sizeN d n = sz := ⟨_, rfl⟩
  rw [hsz] at hso hszle
  have HF := Lib.hid (And.intro h0 (And.intro hb (And.intro hL (And.intro hpl hsz))))
  have HSO := Lib.hid hso
  have HML := Lib.hid hmL
  have hd1 : 1 ≤ d := by omega
  have hd16 : d ≤ 16 := by omega
  rw [hpl]
  clear hG hx0 hT h0 hP hpm hb hrl hL hmL hpl hso hsz
  go_enter Tryd.func20, Tryd.ntmps20
  go_wp2_with fail
  refine (cRows_any d gl gs _ _ HT.out HX.out.2).mono ?_
  rintro e w1 ⟨v, rfl, hv, hx1⟩
  obtain ⟨RA, cR, rfl, _⟩ := hv.form
  have hc0 : w1.cell? ⟨w.heap.size, 0, none⟩ = some (.int .i64 d) := hx1.cell (by go_simp)
  have hc1 : w1.cell? ⟨w.heap.size, 1, none⟩ = some (.slice A gs.length c) := hx1.cell (by go_simp)
  have hc2 : w1.cell? ⟨w.heap.size, 2, none⟩ = some (.int .i64 gl) := hx1.cell (by go_simp)
  have HC1 := Lib.hid (And.intro hc0 (And.intro hc1 hc2))
  have HX1 := Lib.hid (HX.out.1.trans hx1)
  have HT1 := Lib.hid (HT.out.ext hx1)
  have HG1 := Lib.hid (Rs.ext (Rs.ext RI.ext) _ _ _ _ hx1 HX.out.2)
  have HP1 := Lib.hid (Rs.ext RS.ext _ _ _ _ hx1 HP.out)
  have HV := Lib.hid hv
  rw [HF.out.2.2.1]
  clear hx1 hv
  go_wp2_with fail
  clear hc0 hc1 hc2
  refine (cSize_any d gl n gs _ _ HG1.out).mono ?_
  rintro e w2 ⟨rfl, hx2⟩
  rw [HSO.out]
  have HX2 := Lib.hid (HX1.out.trans hx2)
  have HX12 := Lib.hid hx2
  have HT2 := Lib.hid (HT1.out.ext hx2)
  have HP2 := Lib.hid (Rs.ext RS.ext _ _ _ _ hx2 HP1.out)
  have HV2 := Lib.hid (Rs.ext (Rs.ext RB.ext) _ _ _ _ hx2 HV.out)
  clear hx2
  go_wp2_with fail
  go_loop [60] (fun vk => ∃ k : Nat, k ≤ L ∧ vk = .int .i64 k ∧ Hid (∀ j, j < k → Cd.bitAt m j = 1 → (pieces.getD j []).length = sz)) (fun vk => L - (intOf vk).toNat)
  case atStart => exact ⟨0, Nat.zero_le _, rfl, fun j hj => absurd hj (by omega)⟩
  case round =>
    obtain ⟨k, hk2, rfl, HI⟩ := hrel
    by_cases hlt : k < L
    · obtain ⟨pd, u, rfl, hpc, hu⟩ := HP2.out.at (i := k) (by rw [HF.out.2.2.2.1]; exact hlt)
      have hu' : u = sv (pieces[k]'(by rw [HF.out.2.2.2.1]; exact hlt)) := hu
      subst hu'
      have hgp : pieces.getD k [] = pieces[k]'(by rw [HF.out.2.2.2.1]; exact hlt) := by rw [List.getD_eq_getElem?_getD, List.getElem?_eq_getElem (by rw [HF.out.2.2.2.1]; exact hlt)]; rfl
      have hpk := HPM.out _ (List.getElem_mem (show k < pieces.length by rw [HF.out.2.2.2.1]; exact hlt))
      have hmm : bits .and .i64 ((m : Int) / 2 ^ k) 1 = ((Cd.bitAt m k : Nat) : Int) := by
        have hle : m / 2 ^ k ≤ m := Nat.div_le_self _ _
        have := odd64 (m / 2 ^ k) (by omega)
        rw [Cd.bitAt, ← this]
        simp
      obtain ⟨p, hp⟩ : ∃ p, pieces[k]'(by rw [HF.out.2.2.2.1]; exact hlt) = p := ⟨_, rfl⟩
      rw [hp] at hpc hgp hpk
      have HGP := Lib.hid hgp
      clear hgp hp hu
      by_cases hb : Cd.bitAt m k = 1
      · have HB := Lib.hid hb
        rw [hb] at hmm
        by_cases hps : p.length = sz
        · have e5 : ((p.length : Int) != (sz : Int)) = false := by rw [hps]; simp
          have HPS := Lib.hid hps
          clear hb hps
          go_wp2_with fail
          go_round
          case rel => exact ⟨k + 1, by omega, by go_num, fun j hj hbj => by
            by_cases hjk : j = k
            · rw [hjk, HGP.out, HPS.out]
            · exact HI.out j (by omega) hbj⟩
          case measure => simp [intOf]; omega
        · have e5 : ((p.length : Int) != (sz : Int)) = true := by rw [bne_iff_ne]; omega
          have hbl : Cd.badLen (Cd.sizeN ((d : Int)).toNat ((n : Int)).toNat) ((m : Int)).toNat pieces = true := by
            rw [Int.toNat_natCast, Int.toNat_natCast, Int.toNat_natCast, Cd.badLen_iff]
            exact ⟨k, by rw [HF.out.2.2.2.1]; exact hlt, hb, by rw [HGP.out, HF.out.2.2.2.2]; exact hps⟩
          have he := Cd.decE_len HF.out.1 HF.out.2.1 hbl
          have hs := Cd.decS_no (d := (d : Int)) (gl := (gl : Int)) (gs := gs) (n := (n : Int)) (m := (m : Int)) (pieces := pieces) (by rw [he]; decide)
          have HE := Lib.hid (And.intro hs he)
          clear hb hps hbl he hs
          go_wp2_with fail
          go_ret2
          exact ⟨by rw [HE.out.1, HE.out.2]; rfl, HX2.out⟩
      · have eb : (((Cd.bitAt m k : Nat) : Int) == 1) = false := by rw [beq_eq_false_iff_ne]; omega
        have HB := Lib.hid hb
        clear hb
        go_wp2_with fail
        go_round
        case rel => exact ⟨k + 1, by omega, by go_num, fun j hj hbj => by
          by_cases hjk : j = k
          · rw [hjk] at hbj; exact absurd hbj HB.out
          · exact HI.out j (by omega) hbj⟩
        case measure => simp [intOf]; omega
    · obtain rfl : k = L := by omega
      have hbl : Cd.badLen (Cd.sizeN ((d : Int)).toNat ((n : Int)).toNat) ((m : Int)).toNat pieces = false := by
        rw [Int.toNat_natCast, Int.toNat_natCast, Int.toNat_natCast, ← Bool.not_eq_true, Cd.badLen_iff]
        rintro ⟨j, h1, h2, h3⟩
        rw [HF.out.2.2.2.2] at h3
        exact h3 (HI.out j (by rw [← HF.out.2.2.2.1]; exact h1) h2)
      have hcol := cCollect_pieces d m (Cd.rowsOf (d : Int) gs (gl : Int)) pieces _ PA cp w2 HT2.out HV2.out (fun r hr => Cd.rowsOf_width HF.out.1 hr) hd1 hd16 (by rw [HF.out.2.2.1]; exact hL0) (by rw [HF.out.2.2.1]; exact hL24) (by rw [HF.out.2.2.1]; exact HML.out) HP2.out (by rw [HF.out.2.2.1]; exact HF.out.2.2.2.1) HPM.out
      rw [HF.out.2.2.1, HF.out.2.2.2.1] at hcol
      have HCOL := Lib.hid hcol
      have HBL := Lib.hid hbl
      clear hcol hbl
      go_wp2_with fail
      refine HCOL.out.mono ?_
      rintro e w3 ⟨P, rfl, hS⟩
      have hgood := Cd.col_good HF.out.1 m pieces
      have hcd := Cd.can_def (d := (d : Int)) (gl := (gl : Int)) (gs := gs) (m := m)
      rw [Int.toNat_natCast] at hgood hcd
      have HX3 := Lib.hid (HX2.out.trans hS.ext)
      by_cases hc : Cd.can (d : Int) (gl : Int) gs (m : Int) = true
      · have hlen : (Cd.col d (Cd.rowsOf (d : Int) gs (gl : Int)) m pieces).1.length = d := by rw [hgood.2]; exact (hcd.1 hc).2.2
        rw [if_pos hlen]
        have hst : Gf.Stairs d (Cd.col d (Cd.rowsOf (d : Int) gs (gl : Int)) m pieces).1 := hgood.1
        have htri := Cd.col_tri HF.out.1 hc pieces
        rw [Int.toNat_natCast] at htri
        have hcl : (Cd.col d (Cd.rowsOf (d : Int) gs (gl : Int)) m pieces).2.length = d := by
          have h1 : (Cd.col d (Cd.rowsOf (d : Int) gs (gl : Int)) m pieces).2.length = (Cd.col d (Cd.rowsOf (d : Int) gs (gl : Int)) m pieces).1.length := Cd.colTo_len _ _ _
          rw [h1, hlen]
        have hev : Cd.Even sz (Cd.col d (Cd.rowsOf (d : Int) gs (gl : Int)) m pieces).2 := Cd.colTo_even m pieces (fun j hj hbj => HI.out j (by rw [← HF.out.2.2.1]; exact hj) hbj) _ (Nat.le_refl _)
        have hsv := fun j hj => Cd.solved_even (L := sz) HF.out.1 hc (pieces := pieces) (fun j hj hbj => HI.out j (by rw [← HF.out.2.2.1]; exact hj) hbj) (i := j) hj
        have hsl := Cd.solved_len (d : Int) (gl : Int) gs m pieces
        rw [Int.toNat_natCast] at hsv hsl
        have hsd : Cd.solved (d : Int) (gl : Int) gs m pieces = Cd.sol (Cd.byOrd (Cd.col d (Cd.rowsOf (d : Int) gs (gl : Int)) m pieces).1 (Cd.ordTo (Cd.col d (Cd.rowsOf (d : Int) gs (gl : Int)) m pieces).1 d)) (Cd.byOrd (Cd.col d (Cd.rowsOf (d : Int) gs (gl : Int)) m pieces).2 (Cd.ordTo (Cd.col d (Cd.rowsOf (d : Int) gs (gl : Int)) m pieces).1 d)) d := by
          rw [Cd.solved, Int.toNat_natCast]
        have hsorted := cSorted_any w3 P d _ _ (HT2.out.ext hS.ext) (hS.toRd (fun r hr => by rw [hst.len r hr]; omega) (by rw [hlen]; omega)) hd16 hst hlen hcl (fun q hq => by rw [hev q hq]; omega) htri
        rw [← hsd] at hsorted
        have HSORT := Lib.hid hsorted
        have HCAN := Lib.hid hc
        have HSV := Lib.hid (And.intro hsv hsl)
        have HS3 := Lib.hid hS.ext
        clear hgood hcd hc hlen hst htri hcl hev hsv hsl hsd hsorted hS
        go_wp2_with fail
        refine HSORT.out.mono ?_
        rintro e w4 ⟨sv4, rfl, hv4, hx4⟩
        obtain ⟨SA, cS, rfl, _⟩ := hv4.form
        rw [HSV.out.2]
        have HV4 := Lib.hid hv4
        have HX4 := Lib.hid (HX3.out.trans hx4)
        have HS4 := Lib.hid (HS3.out.trans hx4)
        clear hv4 hx4
        go_wp2_with fail
        obtain ⟨Z, hZ⟩ : ∃ Z, Cd.solved (d : Int) (gl : Int) gs m pieces = Z := ⟨_, rfl⟩
        have hsv := HSV.out
        rw [hZ] at hsv
        have hv5 := HV4.out
        rw [hZ] at hv5
        have HZ := Lib.hid hZ
        have HSZ := Lib.hid hsv
        have HV5 := Lib.hid hv5
        clear hsv hv5 hZ
        obtain ⟨i0, hi, hz0, hz1, hz2⟩ := info_parts info_u8
        have hszd : d * sz ≤ 65536 := by
          have := Nat.mul_le_mul hd16 (show sz ≤ 4096 by omega)
          omega
        go_loopw [16, 86] (fun vf vx wr => ∃ (i : Nat) (v : Value), i ≤ d ∧ vx = .int .i64 i ∧ vf = v ∧ Hid (wr.ownsRow w4.heap.size 5 1 v (i * sz) (((Z.take i).flatten).map bv) ∧ Ext w4 wr)) (fun _ vx _ => d - (intOf vx).toNat)
        case atStart => exact ⟨0, _, Nat.zero_le _, rfl, rfl, by rw [Nat.zero_mul]; exact ⟨World.ownsRow_nil _ _ _ _, Ext.refl _⟩⟩
        case round =>
          obtain ⟨i, v, hi2, rfl, rfl, HJ⟩ := hrel
          by_cases hli : i < d
          · obtain ⟨zd, u, rfl, hzc, hu⟩ := HV5.out.at (i := i) (by rw [HSZ.out.2]; exact hli)
            have hu' : u = sv (Z[i]'(by rw [HSZ.out.2]; exact hli)) := hu
            subst hu'
            have hzl := HSZ.out.1 i hli
            have hgz : Z.getD i [] = Z[i]'(by rw [HSZ.out.2]; exact hli) := by rw [List.getD_eq_getElem?_getD, List.getElem?_eq_getElem (by rw [HSZ.out.2]; exact hli)]; rfl
            rw [hgz] at hzl
            have hfl : ((Z.take (i + 1)).flatten).map bv = ((Z.take i).flatten).map bv ++ Lib.strCells (sb (Z[i]'(by rw [HSZ.out.2]; exact hli))) := by
              rw [List.take_succ_eq_append_getElem (by rw [HSZ.out.2]; exact hli), List.flatten_append, List.map_append, strCells_sb]
              simp
            have hzc2 := HJ.out.2.cell hzc
            obtain ⟨z, hz⟩ : ∃ z, Z[i]'(by rw [HSZ.out.2]; exact hli) = z := ⟨_, rfl⟩
            rw [hz] at hzl hfl hzc2
            have hss : (sb z).size = sz := by rw [size_sb, hzl]
            have him : (i + 1) * sz ≤ d * sz := Nat.mul_le_mul_right sz hli
            rw [Nat.succ_mul] at him
            have HFL := Lib.hid (And.intro hfl hss)
            clear hfl hss hgz hz hzc hu hzl
            go_wp2_with (refine Lib.wpList_append_own_string _ rfl (.tmp 90) (.tmp 91) 57 9 rfl w4.heap.size 5 i0 Tryd.underlying57 Tryd.underlying9 hi hz0 hz1 hz2 _ (i * sz) _ rfl HJ.out.1 (sb z) rfl (by rw [HFL.out.2]; unfold maxLen; omega) (by rw [HFL.out.2]; omega) HJ.out.2.size ?_; intro v' w' ho hg _)
            go_roundw
            case rel => exact ⟨i + 1, v', by omega, by go_num, rfl, by have h9 := ho; rw [HFL.out.2] at h9; rw [HFL.out.1, Nat.succ_mul]; exact ⟨h9, HJ.out.2.grown hg (fun k hk => own_ge HJ.out.1 k hk)⟩⟩
            case measure => simp [intOf]; omega
          · obtain rfl : i = d := by omega
            have hfull : (Z.take i).flatten = Z.flatten := by rw [← HSZ.out.2, List.take_length]
            have hown := HJ.out.1
            rw [hfull] at hown
            obtain ⟨FA, cF, rfl⟩ := own_form hown
            have hge := Cd.size_ge (d := i) (by omega) n
            rw [HF.out.2.2.2.2] at hge
            obtain ⟨N, hN⟩ : ∃ N, i * sz = N := ⟨_, rfl⟩
            rw [hN] at hown hge hszd
            rw [hN]
            have hNc : N ≤ cF := by
              rcases hown.2 with ⟨h1, h2⟩ | ⟨g, cap, cur, h1, _, _, h2, _⟩
              · injection h1 with _ h3 h4
                omega
              · injection h1 with _ _ h4
                omega
            have HOW := Lib.hid hown
            have HFU := Lib.hid hfull
            have HX5 := Lib.hid (HX4.out.trans HJ.out.2)
            clear hown hfull hN
            have hc0 : wr.cell? ⟨w.heap.size, 0, none⟩ = some (.int .i64 i) := HJ.out.2.cell (HS4.out.cell (HX12.out.cell HC1.out.1))
            have hc1 : wr.cell? ⟨w.heap.size, 1, none⟩ = some (.slice A gs.length c) := HJ.out.2.cell (HS4.out.cell (HX12.out.cell HC1.out.2.1))
            have hc2 : wr.cell? ⟨w.heap.size, 2, none⟩ = some (.int .i64 gl) := HJ.out.2.cell (HS4.out.cell (HX12.out.cell HC1.out.2.2))
            go_wp2_with fail
            have q1 : (n : Int) ≤ (cF : Int) := by omega
            have q2 : n ≤ cF := by omega
            have htk : (Z.flatten).length = N := by have h := HOW.out.1; rw [List.length_map, Nat.mul_one] at h; exact h
            have hcv := fun (A : Option Addr) (hA : A = FA) => str_u8 (w := wr.drew) (A := A) (c := cF) (n := n) (l := Z.flatten.take n) (by rw [List.length_take, htk]; omega) (by
              subst hA
              have h1 := (own_rd HOW.out).ext (Ext.refl wr).drew
              intro k x hx
              rw [List.map_take] at hx
              exact h1 k x (by rw [List.getElem?_take] at hx; split at hx; exact hx; cases hx))
            have hcv2 := hcv FA rfl
            have HTK := Lib.hid htk
            have HGW := Lib.hid (Rs.ext (Rs.ext RI.ext) _ _ _ _ (HX12.out.trans (HS4.out.trans HJ.out.2)) HG1.out)
            have HTW := Lib.hid (HT2.out.ext (HS4.out.trans HJ.out.2))
            clear hcv htk
            go_region_law (go_simp; refine (cEncode_any (i : Int) (gl : Int) gs (Z.flatten.take n) _ _ (HTW.out.ext (Ext.refl wr).drew) (Rs.ext (Rs.ext RI.ext) _ _ _ _ (Ext.refl wr).drew HGW.out) (by rw [List.length_take]; omega)).mono ?_; rintro e w6 ⟨v6, rfl, hv6, hx6⟩; dsimp only; have HV6 := Lib.hid hv6; have HX6 := Lib.hid hx6; clear hv6 hx6)
            all_goals
              obtain ⟨EA, cE, rfl, _⟩ := HV6.out.form
              have hE : Cd.encL (i : Int) (gl : Int) gs (Z.flatten.take n) = Cd.encode (i : Int) (gl : Int) gs (Z.flatten.take n) := Cd.encL_ok HF.out.1 (by rw [List.length_take]; omega)
              have hEl : (Cd.encode (i : Int) (gl : Int) gs (Z.flatten.take n)).length = k := by rw [Cd.encode_len]; exact HF.out.2.2.1
              have hv6 := HV6.out
              rw [hE] at hv6 ⊢
              obtain ⟨E, hEE⟩ : ∃ E, Cd.encode (i : Int) (gl : Int) gs (Z.flatten.take n) = E := ⟨_, rfl⟩
              rw [hEE] at hv6 hEl ⊢
              rw [hEl] at hv6 ⊢
              have HE6 := Lib.hid (And.intro hv6 (And.intro hEl hEE))
              have HX26 := Lib.hid (HS4.out.trans (HJ.out.2.drew.trans HX6.out))
              have HP6 := Lib.hid (Rs.ext RS.ext _ _ _ _ HX26.out HP2.out)
              clear hE hEl hv6 hEE hc0 hc1 hc2 hcv2 HV6
              go_wp2_with fail
              go_loop [105] (fun vk => ∃ j : Nat, j ≤ k ∧ vk = .int .i64 j ∧ Hid (∀ x, x < j → Cd.bitAt m x = 1 → E.getD x [] = pieces.getD x [])) (fun vk => k - (intOf vk).toNat)
              case atStart => exact ⟨0, Nat.zero_le _, rfl, fun j hj => absurd hj (by omega)⟩
              case round =>
                obtain ⟨j, hj2, rfl, HY⟩ := hrel
                by_cases hltj : j < k
                · obtain ⟨pd, u, rfl, hpc, hu⟩ := HP6.out.at (i := j) (by rw [HF.out.2.2.2.1]; exact hltj)
                  have hu' : u = sv (pieces[j]'(by rw [HF.out.2.2.2.1]; exact hltj)) := hu
                  subst hu'
                  have hgp : pieces.getD j [] = pieces[j]'(by rw [HF.out.2.2.2.1]; exact hltj) := by rw [List.getD_eq_getElem?_getD, List.getElem?_eq_getElem (by rw [HF.out.2.2.2.1]; exact hltj)]; rfl
                  obtain ⟨ed, u2, rfl, hec, hu2⟩ := HE6.out.1.at (i := j) (by rw [HE6.out.2.1]; exact hltj)
                  have hu2' : u2 = sv (E[j]'(by rw [HE6.out.2.1]; exact hltj)) := hu2
                  subst hu2'
                  have hge2 : E.getD j [] = E[j]'(by rw [HE6.out.2.1]; exact hltj) := by rw [List.getD_eq_getElem?_getD, List.getElem?_eq_getElem (by rw [HE6.out.2.1]; exact hltj)]; rfl
                  have hmm : bits .and .i64 ((m : Int) / 2 ^ j) 1 = ((Cd.bitAt m j : Nat) : Int) := by
                    have hle : m / 2 ^ j ≤ m := Nat.div_le_self _ _
                    have := odd64 (m / 2 ^ j) (by omega)
                    rw [Cd.bitAt, ← this]
                    simp
                  obtain ⟨p, hp⟩ : ∃ p, pieces[j]'(by rw [HF.out.2.2.2.1]; exact hltj) = p := ⟨_, rfl⟩
                  obtain ⟨e, he⟩ : ∃ e, E[j]'(by rw [HE6.out.2.1]; exact hltj) = e := ⟨_, rfl⟩
                  rw [hp] at hpc hgp
                  rw [he] at hec hge2
                  have HGP := Lib.hid (And.intro hgp hge2)
                  clear hgp hp hu he hge2 hu2
                  by_cases hb : Cd.bitAt m j = 1
                  · have HB := Lib.hid hb
                    rw [hb] at hmm
                    by_cases hep : e = p
                    · have HEP := Lib.hid hep
                      have hs := sb_same hep
                      clear hb hep
                      go_wp2_with fail
                      go_round
                      case rel => exact ⟨j + 1, by omega, by go_num, fun x hx hbx => by
                        by_cases hxj : x = j
                        · rw [hxj, HGP.out.1, HGP.out.2, HEP.out]
                        · exact HY.out x (by omega) hbx⟩
                      case measure => simp [intOf]; omega
                    · have hs := sb_other hep
                      have hbo : Cd.badOne ((m : Int)).toNat (Cd.encode (i : Int) (gl : Int) gs (Cd.chunkOf (i : Int) (gl : Int) gs ((n : Int)).toNat ((m : Int)).toNat pieces)) pieces = true := by
                        rw [Int.toNat_natCast, Int.toNat_natCast, Cd.chunkOf, HZ.out, HE6.out.2.2, Cd.badOne_iff]
                        exact ⟨j, by rw [HF.out.2.2.2.1]; exact hltj, hb, by rw [HGP.out.1, HGP.out.2]; exact hep⟩
                      have he := Cd.decE_bad HF.out.1 HF.out.2.1 HBL.out HCAN.out hbo
                      have hs2 := Cd.decS_no (d := (i : Int)) (gl := (gl : Int)) (gs := gs) (n := (n : Int)) (m := (m : Int)) (pieces := pieces) (by rw [he]; decide)
                      have HE := Lib.hid (And.intro hs2 he)
                      clear hb hep hbo he hs2
                      go_wp2_with fail
                      go_ret2
                      exact ⟨by rw [HE.out.1, HE.out.2]; rfl, HX5.out.drew.trans HX6.out⟩
                  · have eb : (((Cd.bitAt m j : Nat) : Int) == 1) = false := by rw [beq_eq_false_iff_ne]; omega
                    have HB := Lib.hid hb
                    clear hb
                    go_wp2_with fail
                    go_round
                    case rel => exact ⟨j + 1, by omega, by go_num, fun x hx hbx => by
                      by_cases hxj : x = j
                      · rw [hxj] at hbx; exact absurd hbx HB.out
                      · exact HY.out x (by omega) hbx⟩
                    case measure => simp [intOf]; omega
                · obtain rfl : j = k := by omega
                  have hbo : Cd.badOne ((m : Int)).toNat (Cd.encode (i : Int) (gl : Int) gs (Cd.chunkOf (i : Int) (gl : Int) gs ((n : Int)).toNat ((m : Int)).toNat pieces)) pieces = false := by
                    rw [Int.toNat_natCast, Int.toNat_natCast, Cd.chunkOf, HZ.out, HE6.out.2.2, ← Bool.not_eq_true, Cd.badOne_iff]
                    rintro ⟨x, h1, h2, h3⟩
                    exact h3 (HY.out x (by rw [← HF.out.2.2.2.1]; exact h1) h2)
                  have he := Cd.decE_ok HF.out.1 HF.out.2.1 HBL.out HCAN.out hbo
                  have hs2 := Cd.decS_ok he
                  rw [Int.toNat_natCast, Int.toNat_natCast, Cd.chunkOf, HZ.out] at hs2
                  have HE := Lib.hid (And.intro hs2 he)
                  have hcv6 := str_u8 (w := w6) (A := FA) (c := cF) (n := n) (l := Z.flatten.take n) (by rw [List.length_take, HTK.out]; omega) (by
                    have h1 := (own_rd HOW.out).ext ((Ext.refl wr).drew.trans HX6.out)
                    intro k x hx
                    rw [List.map_take] at hx
                    exact h1 k x (by rw [List.getElem?_take] at hx; split at hx; exact hx; cases hx))
                  clear hbo he hs2
                  go_wp2_with fail
                  go_ret2
                  exact ⟨by rw [HE.out.1, HE.out.2]; rfl, HX5.out.drew.trans HX6.out⟩
      · have hlen : ¬ (Cd.col d (Cd.rowsOf (d : Int) gs (gl : Int)) m pieces).1.length = d := fun h => hc (hcd.2 ⟨HF.out.1, by rw [HF.out.2.2.1]; exact HML.out, by rw [← hgood.2]; exact h⟩)
        rw [if_neg hlen]
        have hc2 : Cd.can (d : Int) (gl : Int) gs (m : Int) = false := by simpa using hc
        have he := Cd.decE_lost HF.out.1 HF.out.2.1 HBL.out hc2
        have hs := Cd.decS_no (d := (d : Int)) (gl := (gl : Int)) (gs := gs) (n := (n : Int)) (m := (m : Int)) (pieces := pieces) (by rw [he]; decide)
        have HE := Lib.hid (And.intro hs he)
        clear hS hgood hcd hc hlen hc2 he hs
        go_wp2_with fail
        go_ret2
        exact ⟨by rw [HE.out.1, HE.out.2]; rfl, HX3.out⟩
end Go.Proofs.YtgkohfmgdejkpaaDoor
