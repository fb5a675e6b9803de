/- THE WALKS over Compare, Millionths. -/
import Derived.Test.YtdbolgollpnfdaaDoorRiskS
namespace Go.Proofs.YtdbolgollpnfdaaDoor
open Go.RowKit
open Rk (mill sign cmp)
theorem RP.open {w : World} {v : Value} {p : Rk.Pe} (h : RP w v p) : ∃ G T A c, v = .agg #[.int .i64 p.d, G, .int .i64 p.gl, T, .slice A p.ch.length c] ∧ p.ch.length ≤ 9223372036854775807 := by
  obtain ⟨G, T, C, rfl, hG, hTT, hC⟩ := h
  obtain ⟨A3, c3, rfl, hl3⟩ := hC.form
  exact ⟨G, T, A3, c3, rfl, hl3⟩
theorem mill_a {L M q : Nat} (hq : L * 1000 / M = q) : ((L : Int) * 1000).tdiv M = (q : Int) := by
  have e : (L : Int) * 1000 = ((L * 1000 : Nat) : Int) := by omega
  rw [e, ← hq, Int.ofNat_tdiv]
theorem mill_b {L M q : Nat} (hq : L * 1000 % M = q) : ((L : Int) * 1000).tmod M = (q : Int) := by
  have e : (L : Int) * 1000 = ((L * 1000 : Nat) : Int) := by omega
  rw [e, ← hq, Int.ofNat_tmod]
theorem mill_c {M r s : Nat} (hpos : 0 < M) (hs : (r * 1000 + M - 1) / M = s) : ((r : Int) * 1000 + M - 1).tdiv M = (s : Int) := by
  have e : (r : Int) * 1000 + M - 1 = ((r * 1000 + M - 1 : Nat) : Int) := by omega
  rw [e, ← hs, Int.ofNat_tdiv]
theorem mill_d {L M q : Nat} (hpos : 0 < M) (hle : L ≤ M) (hq : L * 1000 / M = q) : q ≤ 1000 := by
  rw [← hq]; exact Nat.le_of_lt_succ ((Nat.div_lt_iff_lt_mul hpos).2 (by have := Nat.mul_le_mul_right 1000 hle; omega))
theorem mill_e {r M s : Nat} (hpos : 0 < M) (hrl : r < M) (hs : (r * 1000 + M - 1) / M = s) : s ≤ 1001 := by
  rw [← hs]; exact Nat.le_of_lt_succ ((Nat.div_lt_iff_lt_mul hpos).2 (by omega))
set_option maxHeartbeats 2000000 in
theorem kMill_any (p : Rk.Pe) (v : Value) (w : World) (hT : Tab w) (hv : RP w v p) :
    Calls Tryd.prog 12 #[v] w fun e w' => e = .returned (.tuple #[.int .i64 (Rk.mill p : Nat), .int .i64 (Rk.check p)]) ∧ Ext w w' := by
  obtain ⟨G, T, A3, c3, rfl, hl3⟩ := hv.open
  have hx0 := (Ext.refl w).alloc (.cells #[.int .i64 p.d, G, .int .i64 p.gl, T, .slice A3 p.ch.length c3] 27)
  have HRP := Lib.hid (And.intro (RP.ext _ _ _ _ hx0 hv) hx0)
  have HT := Lib.hid (hT.ext hx0)
  clear hv hx0 hT
  by_cases h0 : Rk.check p = 0
  · have e1 : (Rk.check p != 0) = false := by rw [h0]; rfl
    have ho := Rk.ok_of h0
    have hfew := ho.few
    have hle := Rk.loss_le ho.ch_ok
    have hp16 : (16 : Nat) ^ p.ch.length ≤ 16 ^ 12 := Nat.pow_le_pow_right (by omega) hfew
    have hpos : 0 < (16 : Nat) ^ p.ch.length := Nat.pow_pos (by omega)
    have hm := Rk.mill_ok h0
    have hlo := Rk.lossOf_ok h0
    obtain ⟨L, hL⟩ : ∃ L, Rk.loss p = L := ⟨_, rfl⟩
    obtain ⟨M, hM⟩ : ∃ M, (16 : Nat) ^ p.ch.length = M := ⟨_, rfl⟩
    have hwM : wrap64 (2 ^ (4 * p.ch.length)) = (M : Int) := by rw [wrap_pow _ (by omega), pow4, hM]
    rw [hL, hM] at hle hm
    rw [hM] at hp16 hpos
    rw [hL] at hlo
    have hM48 : M ≤ 281474976710656 := hp16
    obtain ⟨q, hq⟩ : ∃ q, L * 1000 / M = q := ⟨_, rfl⟩
    obtain ⟨r, hr⟩ : ∃ r, L * 1000 % M = r := ⟨_, rfl⟩
    obtain ⟨s, hs⟩ : ∃ s, (r * 1000 + M - 1) / M = s := ⟨_, rfl⟩
    have hq2 := mill_a hq
    have hr2 := mill_b hr
    have hs2 := mill_c hpos hs
    have hql := mill_d hpos hle hq
    have hrl : r < M := by rw [← hr]; exact Nat.mod_lt _ hpos
    have hsl := mill_e hpos hrl hs
    clear hp16 hM hL
    have hne : ((M : Int) == 0) = false := by rw [beq_eq_false_iff_ne]; omega
    have hneM : (M : Int) ≠ 0 := by omega
    have hneM1 : (M : Int) ≠ -1 := by omega
    rw [hq, hr, hs] at hm
    have HM := Lib.hid (And.intro hm (And.intro h0 hlo))
    clear hm hq hr hs h0 ho hlo
    go_enter Tryd.func12, Tryd.ntmps12
    go_wp2_with fail
    refine (kLoss_any p _ _ HT.out HRP.out.1).mono ?_
    rintro e w1 ⟨rfl, hx1⟩
    have hc4 : w1.cell? ⟨w.heap.size, 4, none⟩ = some (.slice A3 p.ch.length c3) := hx1.cell (by go_simp)
    have HX1 := Lib.hid (HRP.out.2.trans hx1)
    clear hx1
    rw [HM.out.2.2]
    go_wp2_with fail
    rw [hwM]
    clear hwM
    go_quiet (fail)
    go_wp2_with fail
    go_ret2
    exact ⟨ret_two (v_int (by rw [HM.out.1]; omega)) (v_int HM.out.2.1.symm), HX1.out.drewN nq⟩
  · have e1 : (Rk.check p != 0) = true := by rw [bne_iff_ne]; exact h0
    have HP := Lib.hid (Rk.mill_no h0)
    clear h0
    go_enter Tryd.func12, Tryd.ntmps12
    go_wp2_with fail
    refine (kLoss_any p _ _ HT.out HRP.out.1).mono ?_
    rintro e w1 ⟨rfl, hx1⟩
    have HX1 := Lib.hid (HRP.out.2.trans hx1)
    clear hx1
    go_wp2_with fail
    go_ret2
    exact ⟨ret_two (v_int (by rw [HP.out]; rfl)) rfl, HX1.out⟩
theorem cmp_a {x n m : Nat} (hx : x ≤ 16 ^ n) (hm : n + m ≤ 12) : wrap64 ((x : Int) * 2 ^ (4 * m)) = ((x * 16 ^ m : Nat) : Int) := by
  have h1 : x * 16 ^ m ≤ 16 ^ n * 16 ^ m := Nat.mul_le_mul_right _ hx
  rw [← Nat.pow_add] at h1
  have h2 : 16 ^ (n + m) ≤ 16 ^ 12 := Nat.pow_le_pow_right (by omega) hm
  have h3 : x * 16 ^ m < 9223372036854775808 := Nat.lt_of_le_of_lt (Nat.le_trans h1 h2) (by decide)
  have h4 : (x : Int) * 2 ^ (4 * m) = ((x * 16 ^ m : Nat) : Int) := by
    rw [nat_pow_cast, pow4, Int.natCast_mul]
  rw [h4]
  exact wrap_nat _ h3
set_option maxHeartbeats 2000000 in
theorem kCmp_any (p q : Rk.Pe) (v u : Value) (w : World) (hT : Tab w) (hv : RP w v p) (hu : RP w u q) :
    Calls Tryd.prog 11 #[v, u] w fun e w' => e = .returned (.tuple #[.int .i64 (Rk.cmp p q).1, .int .i64 (Rk.cmp p q).2]) ∧ Ext w w' := by
  obtain ⟨G, T, A3, c3, rfl, hl3⟩ := hv.open
  obtain ⟨G', T', A4, c4, rfl, hl4⟩ := hu.open
  have hx0 := ((Ext.refl w).alloc (.cells #[.int .i64 p.d, G, .int .i64 p.gl, T, .slice A3 p.ch.length c3] 27)).alloc (.cells #[.int .i64 q.d, G', .int .i64 q.gl, T', .slice A4 q.ch.length c4] 27)
  have HRP := Lib.hid (And.intro (RP.ext _ _ _ _ hx0 hv) (And.intro (RP.ext _ _ _ _ hx0 hu) hx0))
  have HT := Lib.hid (hT.ext hx0)
  clear hv hu hx0 hT
  by_cases h0 : Rk.check p = 0
  · have e1 : (Rk.check p != 0) = false := by rw [h0]; rfl
    by_cases h1 : Rk.check q = 0
    · have e2 : (Rk.check q != 0) = false := by rw [h1]; rfl
      have ho := Rk.ok_of h0
      have ho' := Rk.ok_of h1
      have hfew := ho.few
      have hfew' := ho'.few
      have hle := Rk.loss_le ho.ch_ok
      have hle' := Rk.loss_le ho'.ch_ok
      have hm := Rk.cmp_ok h0 h1
      have hlo := Rk.lossOf_ok h0
      have hlo' := Rk.lossOf_ok h1
      obtain ⟨X, hX⟩ : ∃ X, Rk.loss p = X := ⟨_, rfl⟩
      obtain ⟨Y, hY⟩ : ∃ Y, Rk.loss q = Y := ⟨_, rfl⟩
      rw [hX] at hle hlo hm
      rw [hY] at hle' hlo' hm
      obtain ⟨a, ha⟩ : ∃ a, p.ch.length = a := ⟨_, rfl⟩
      obtain ⟨b, hb⟩ : ∃ b, q.ch.length = b := ⟨_, rfl⟩
      rw [ha, hb] at hm
      rw [ha] at hle hfew HRP HT
      rw [hb] at hle' hfew' HRP HT
      rw [ha, hb]
      have HM := Lib.hid (And.intro hm (And.intro h0 (And.intro h1 (And.intro hlo hlo'))))
      have HLE := Lib.hid (And.intro hle hle')
      clear hm h0 h1 hlo hlo' hX hY ho ho' ha hb hle hle' hl3 hl4
      go_enter Tryd.func11, Tryd.ntmps11
      go_wp2_with fail
      refine (kLoss_any p _ _ HT.out HRP.out.1).mono ?_
      rintro e w1 ⟨rfl, hx1⟩
      have c0 : w1.cell? ⟨w.heap.size + 1, 0, none⟩ = some (.int .i64 q.d) := hx1.cell (by go_simp)
      have c1 : w1.cell? ⟨w.heap.size + 1, 1, none⟩ = some G' := hx1.cell (by go_simp)
      have c2 : w1.cell? ⟨w.heap.size + 1, 2, none⟩ = some (.int .i64 q.gl) := hx1.cell (by go_simp)
      have c3' : w1.cell? ⟨w.heap.size + 1, 3, none⟩ = some T' := hx1.cell (by go_simp)
      have c4' : w1.cell? ⟨w.heap.size + 1, 4, none⟩ = some (.slice A4 b c4) := hx1.cell (by go_simp)
      have d4 : w1.cell? ⟨w.heap.size, 4, none⟩ = some (.slice A3 a c3) := hx1.cell (by go_simp)
      have HX1 := Lib.hid (HRP.out.2.2.trans hx1)
      have HT1 := Lib.hid (HT.out.ext hx1)
      have HR1 := Lib.hid (RP.ext _ _ _ _ hx1 HRP.out.2.1)
      clear hx1
      rw [HM.out.2.2.2.1]
      go_wp2_with fail
      refine (kLoss_any q _ _ HT1.out HR1.out).mono ?_
      rintro e w2 ⟨rfl, hx2⟩
      have f4 : w2.cell? ⟨w.heap.size + 1, 4, none⟩ = some (.slice A4 b c4) := hx2.cell c4'
      have g4 : w2.cell? ⟨w.heap.size, 4, none⟩ = some (.slice A3 a c3) := hx2.cell d4
      have HX2 := Lib.hid (HX1.out.trans hx2)
      clear hx2 c0 c1 c2 c3' c4' d4
      rw [HM.out.2.2.2.2]
      by_cases hab : a < b
      · have hz : wrap64 ((X : Int) * 2 ^ (-4 * ((a : Int) - (b : Int))).toNat) = ((X * 16 ^ (b - a) : Nat) : Int) := by
          rw [show (-4 * ((a : Int) - (b : Int))).toNat = 4 * (b - a) from by omega]
          exact cmp_a HLE.out.1 (by omega)
        have hmm := HM.out.1
        rw [show a - b = 0 from by omega, Nat.pow_zero, Nat.mul_one] at hmm
        obtain ⟨Z, hZ⟩ : ∃ Z, X * 16 ^ (b - a) = Z := ⟨_, rfl⟩
        rw [hZ] at hz hmm
        have HMM := Lib.hid hmm
        have n1 : (a : Int) - (b : Int) < 0 := by omega
        clear hmm hZ
        rcases Nat.lt_trichotomy Z Y with h | h | h
        · have hsg : sign Z Y = -1 := if_pos h
          have HS := Lib.hid hsg
          clear hsg
          go_wp2_with fail
          go_ret2
          exact ⟨ret_two (v_int (by rw [HMM.out, HS.out])) (v_int (by rw [HMM.out])), HX2.out⟩
        · have hsg : sign Z Y = 0 := by unfold Rk.sign; rw [if_neg (by omega), if_neg (by omega)]
          have HS := Lib.hid hsg
          subst h
          clear hsg
          go_wp2_with fail
          go_ret2
          exact ⟨ret_two (v_int (by rw [HMM.out, HS.out])) (v_int (by rw [HMM.out])), HX2.out⟩
        · have hsg : sign Z Y = 1 := by unfold Rk.sign; rw [if_neg (by omega), if_pos h]
          have HS := Lib.hid hsg
          clear hsg
          go_wp2_with fail
          go_ret2
          exact ⟨ret_two (v_int (by rw [HMM.out, HS.out])) (v_int (by rw [HMM.out])), HX2.out⟩
      · have hz : wrap64 ((Y : Int) * 2 ^ (4 * (a - b))) = ((Y * 16 ^ (a - b) : Nat) : Int) := cmp_a HLE.out.2 (by omega)
        have hmm := HM.out.1
        rw [show b - a = 0 from by omega, Nat.pow_zero, Nat.mul_one] at hmm
        obtain ⟨Z, hZ⟩ : ∃ Z, Y * 16 ^ (a - b) = Z := ⟨_, rfl⟩
        rw [hZ] at hz hmm
        have HMM := Lib.hid hmm
        have n1 : ¬ (a : Int) - (b : Int) < 0 := by omega
        clear hmm hZ
        rcases Nat.lt_trichotomy X Z with h | h | h
        · have hsg : sign X Z = -1 := if_pos h
          have HS := Lib.hid hsg
          clear hsg
          go_wp2_with fail
          go_ret2
          exact ⟨ret_two (v_int (by rw [HMM.out, HS.out])) (v_int (by rw [HMM.out])), HX2.out⟩
        · have hsg : sign X Z = 0 := by unfold Rk.sign; rw [if_neg (by omega), if_neg (by omega)]
          have HS := Lib.hid hsg
          subst h
          clear hsg
          go_wp2_with fail
          go_ret2
          exact ⟨ret_two (v_int (by rw [HMM.out, HS.out])) (v_int (by rw [HMM.out])), HX2.out⟩
        · have hsg : sign X Z = 1 := by unfold Rk.sign; rw [if_neg (by omega), if_pos h]
          have HS := Lib.hid hsg
          clear hsg
          go_wp2_with fail
          go_ret2
          exact ⟨ret_two (v_int (by rw [HMM.out, HS.out])) (v_int (by rw [HMM.out])), HX2.out⟩
    · have e2 : (Rk.check q != 0) = true := by rw [bne_iff_ne]; exact h1
      have HP := Lib.hid (And.intro (Rk.cmp_no2 h0 h1) (Rk.lossOf_ok h0))
      have HP2 := Lib.hid (Rk.lossOf_no h1)
      clear h0 h1
      go_enter Tryd.func11, Tryd.ntmps11
      go_wp2_with fail
      refine (kLoss_any p _ _ HT.out HRP.out.1).mono ?_
      rintro e w1 ⟨rfl, hx1⟩
      have c0 : w1.cell? ⟨w.heap.size + 1, 0, none⟩ = some (.int .i64 q.d) := hx1.cell (by go_simp)
      have c1 : w1.cell? ⟨w.heap.size + 1, 1, none⟩ = some G' := hx1.cell (by go_simp)
      have c2 : w1.cell? ⟨w.heap.size + 1, 2, none⟩ = some (.int .i64 q.gl) := hx1.cell (by go_simp)
      have c3' : w1.cell? ⟨w.heap.size + 1, 3, none⟩ = some T' := hx1.cell (by go_simp)
      have c4' : w1.cell? ⟨w.heap.size + 1, 4, none⟩ = some (.slice A4 q.ch.length c4) := hx1.cell (by go_simp)
      have HX1 := Lib.hid (HRP.out.2.2.trans hx1)
      have HT1 := Lib.hid (HT.out.ext hx1)
      have HR1 := Lib.hid (RP.ext _ _ _ _ hx1 HRP.out.2.1)
      clear hx1
      go_wp2_with fail
      refine (kLoss_any q _ _ HT1.out HR1.out).mono ?_
      rintro e w2 ⟨rfl, hx2⟩
      have HX2 := Lib.hid (HX1.out.trans hx2)
      clear hx2
      go_wp2_with fail
      go_ret2
      exact ⟨ret_two (v_int (by rw [HP.out.1])) (v_int (by rw [HP.out.1])), HX2.out⟩
  · have e1 : (Rk.check p != 0) = true := by rw [bne_iff_ne]; exact h0
    have HP := Lib.hid (Rk.cmp_no (q := q) h0)
    clear h0
    go_enter Tryd.func11, Tryd.ntmps11
    go_wp2_with fail
    refine (kLoss_any p _ _ HT.out HRP.out.1).mono ?_
    rintro e w1 ⟨rfl, hx1⟩
    have HX1 := Lib.hid (HRP.out.2.2.trans hx1)
    clear hx1
    go_wp2_with fail
    go_ret2
    exact ⟨ret_two (v_int (by rw [HP.out])) (v_int (by rw [HP.out])), HX1.out⟩
end Go.Proofs.YtdbolgollpnfdaaDoor
