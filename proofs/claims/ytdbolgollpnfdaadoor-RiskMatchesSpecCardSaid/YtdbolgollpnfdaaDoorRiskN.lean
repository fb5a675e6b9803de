/- THE WALK over Loss. -/
import Derived.Test.YtdbolgollpnfdaaDoorRiskM
namespace Go.Proofs.YtdbolgollpnfdaaDoor
open Go.RowKit
theorem Known.more {w0 w : World} {Q b n : Nat} {p : Rk.Pe} (h : Known w0 w Q b n p) : Known w0 w Q b (n + 1) p := by
  obtain ⟨D, h1, h2⟩ := h.own
  exact ⟨h.ext, h.ge, h.cell, D, h1.mono (Nat.le_succ n), h2⟩
theorem wrap_nat (n : Nat) (h : n < 9223372036854775808) : wrap64 (n : Int) = n := by unfold wrap64; omega
theorem weight_bound {p : Rk.Pe} (h : Rk.Ok p) (f k : Nat) (hk : k ≤ p.ch.length) : Rk.weightTo p.ch f k ≤ 281474976710656 := by
  have h1 := Rk.weightTo_le h.ch_ok f k hk
  have h2 : 16 ^ k ≤ 16 ^ 12 := Nat.pow_le_pow_right (by omega) (by have := h.few; omega)
  exact Nat.le_trans h1 h2
theorem loss_bound {p : Rk.Pe} (h : Rk.Ok p) (k : Nat) (hk : k ≤ 4096) : Rk.lossTo p k ≤ 1152921504606846976 := by
  have h1 := Rk.lossTo_le h.ch_ok k
  have h2 : 16 ^ p.ch.length ≤ 16 ^ 12 := Nat.pow_le_pow_right (by omega) h.few
  exact Nat.le_trans h1 (Nat.mul_le_mul hk h2)
set_option maxRecDepth 100000 in
set_option maxHeartbeats 4000000 in
theorem kLoss_any (p : Rk.Pe) (v : Value) (w : World) (hT : Tab w) (hv : RP w v p) :
    Calls Tryd.prog 9 #[v] w fun e w' => e = .returned (.tuple #[.int .i64 (Rk.lossOf p : Nat), .int .i64 (Rk.check p)]) ∧ Ext w w' := by
  obtain ⟨G, T, C, rfl, hG, hTT, hC⟩ := hv
  have hx0 := (Ext.refl w).alloc (.cells #[.int .i64 p.d, G, .int .i64 p.gl, T, C] 27)
  have hC0 := Rs.ext RI.ext _ _ _ _ hx0 hC
  have hrp : RP (w.alloc (.cells #[.int .i64 p.d, G, .int .i64 p.gl, T, C] 27)) (.agg #[.int .i64 p.d, G, .int .i64 p.gl, T, C]) p := ⟨G, T, C, rfl, Rs.ext (Rs.ext RI.ext) _ _ _ _ hx0 hG, Rs.ext RI.ext _ _ _ _ hx0 hTT, hC0⟩
  have HRP := Lib.hid (And.intro hrp hx0)
  have HT := Lib.hid (hT.ext hx0)
  obtain ⟨A3, c3, rfl, hl3⟩ := hC.form
  have HC0 := Lib.hid hC0
  clear hG hTT hC hrp hx0 hT hC0
  by_cases h0 : Rk.check p = 0
  · have e1 : (Rk.check p != 0) = false := by rw [h0]; rfl
    have ho := Rk.ok_of h0
    have hfew := ho.few
    have HOK := Lib.hid (And.intro ho (And.intro h0 (Rk.lossOf_ok h0)))
    have h12 : 2 ^ p.ch.length ≤ 2 ^ 12 := Nat.pow_le_pow_right (by omega) hfew
    obtain ⟨N, hN⟩ : ∃ N, 2 ^ p.ch.length = N := ⟨_, rfl⟩
    have hwN : wrap64 (2 ^ p.ch.length) = (N : Int) := by rw [wrap_pow _ (by omega), hN]
    rw [hN] at h12
    have hN12 : N ≤ 4096 := h12
    have HN := Lib.hid hN
    clear h0 ho h12 hN
    go_enter Tryd.func9, Tryd.ntmps9
    go_wp2_with fail
    refine (kCheck_any p _ _ HRP.out.1).mono ?_
    rintro e w1 ⟨rfl, hx1⟩
    have hc0 : w1.cell? ⟨w.heap.size, 0, none⟩ = some (.int .i64 p.d) := hx1.cell (by go_simp)
    have hc1 : w1.cell? ⟨w.heap.size, 1, none⟩ = some G := hx1.cell (by go_simp)
    have hc2 : w1.cell? ⟨w.heap.size, 2, none⟩ = some (.int .i64 p.gl) := hx1.cell (by go_simp)
    have hc3 : w1.cell? ⟨w.heap.size, 3, none⟩ = some T := hx1.cell (by go_simp)
    have hc4 : w1.cell? ⟨w.heap.size, 4, none⟩ = some (.slice A3 p.ch.length c3) := hx1.cell (by go_simp)
    have HX1 := Lib.hid (HRP.out.2.trans hx1)
    have HT1 := Lib.hid (HT.out.ext hx1)
    have HR1 := Lib.hid (RP.ext _ _ _ _ hx1 HRP.out.1)
    have HC1 := Lib.hid (Rs.ext RI.ext _ _ _ _ hx1 HC0.out)
    have HC4 := Lib.hid hc4
    clear hx1
    go_wp2_with fail
    refine (kLooser_any p _ _ HR1.out).mono ?_
    rintro e w2 ⟨P, Q, b, rfl, hB, hK⟩
    have hd4 := hK.ext.cell hc4
    have HBK := Lib.hid (And.intro hK hB)
    clear hB hK hc0 hc1 hc2 hc3 hc4
    go_wp2_with fail
    clear hd4
    rw [hwN]
    clear hwN
    go_loopw [6, 22] (fun vs vi wr => ∃ k : Nat, k ≤ N ∧ vi = .int .i64 k ∧ vs = .int .i64 (Rk.lossTo p k : Nat) ∧ Hid (Known w1 wr Q b k p ∧ Box wr P p)) (fun _ vi _ => N - (intOf vi).toNat)
    case atStart => exact ⟨0, Nat.zero_le _, rfl, by rw [Rk.lossTo_zero]; rfl, HBK.out⟩
    case round =>
      obtain ⟨k, hk, rfl, rfl, HI⟩ := hrel
      by_cases hlt : k < N
      · have hd4 := HI.out.1.ext.cell HC4.out
        go_wp2_with fail
        clear hd4
        go_loop [8, 28] (fun vw vi => ∃ (i : Nat) (z : Int), i ≤ p.ch.length ∧ vi = .int .i64 i ∧ vw = .int .i64 z ∧ Hid (z = ((Rk.weightTo p.ch k i : Nat) : Int))) (fun _ vi => p.ch.length - (intOf vi).toNat)
        case atStart => exact ⟨0, 1, Nat.zero_le _, rfl, rfl, by rw [Rk.weightTo_zero]; rfl⟩
        case round =>
          obtain ⟨i, z, hi, rfl, rfl, HZ⟩ := hrel
          by_cases hlt2 : i < p.ch.length
          · obtain ⟨ad, u, rfl, hcell, hu⟩ := HC1.out.at hlt2
            obtain ⟨rfl, hlo, hhi⟩ := hu
            have hcell2 := HI.out.1.ext.cell hcell
            have hc16 := HOK.out.1.ch_ok _ (List.getElem_mem hlt2)
            have hstep := Rk.weightTo_succ p.ch k i
            have hgd : p.ch.getD i 0 = p.ch[i] := by rw [List.getD_eq_getElem?_getD, List.getElem?_eq_getElem hlt2]; rfl
            rw [hgd] at hstep
            have hmm : bits .and .i64 ((k : Int) / 2 ^ i) 1 = ((Cd.bitAt k i : Nat) : Int) := by
              have hle : k / 2 ^ i ≤ k := Nat.div_le_self _ _
              have := odd64 (k / 2 ^ i) (by omega)
              rw [Cd.bitAt, ← this]
              simp
            have hwb := weight_bound HOK.out.1 k (i + 1) (by omega)
            obtain ⟨x, hx⟩ : ∃ x, p.ch[i] = x := ⟨_, rfl⟩
            rw [hx] at hcell2 hlo hhi hc16 hstep
            by_cases hb : Cd.bitAt k i = 0
            · rw [hb] at hmm
              have hf : wrap64 (z * (16 - x)) = ((Rk.weightTo p.ch k (i + 1) : Nat) : Int) := by
                rw [hstep] at hwb ⊢
                have h1 : ((Rk.factor x (Cd.bitAt k i) : Nat) : Int) = 16 - x := by rw [Rk.factor_zero hb]; omega
                have h2 : z * (16 - x) = ((Rk.weightTo p.ch k i * Rk.factor x (Cd.bitAt k i) : Nat) : Int) := by rw [Int.natCast_mul, h1, HZ.out]
                rw [h2]
                exact wrap_nat _ (by omega)
              have HF := Lib.hid hf
              clear hf hstep hwb hb hcell hx hgd
              go_wp2_with fail
              go_round
              case rel => exact ⟨i + 1, _, by omega, by go_num, rfl, HF.out⟩
              case measure => simp [intOf]; omega
            · have eb : (((Cd.bitAt k i : Nat) : Int) == 0) = false := by rw [beq_eq_false_iff_ne]; omega
              have hf : wrap64 (z * x) = ((Rk.weightTo p.ch k (i + 1) : Nat) : Int) := by
                rw [hstep] at hwb ⊢
                have h1 : ((Rk.factor x (Cd.bitAt k i) : Nat) : Int) = x := by rw [Rk.factor_one hb]; omega
                have h2 : z * x = ((Rk.weightTo p.ch k i * Rk.factor x (Cd.bitAt k i) : Nat) : Int) := by rw [Int.natCast_mul, h1, HZ.out]
                rw [h2]
                exact wrap_nat _ (by omega)
              have HF := Lib.hid hf
              clear hf hstep hwb hb hcell hx hgd
              go_wp2_with fail
              go_round
              case rel => exact ⟨i + 1, _, by omega, by go_num, rfl, HF.out⟩
              case measure => simp [intOf]; omega
          · obtain rfl : i = p.ch.length := by omega
            have hz := HZ.out
            rw [← Rk.weight_def] at hz
            have hwb := weight_bound HOK.out.1 k p.ch.length (Nat.le_refl _)
            rw [← Rk.weight_def] at hwb
            have hlb := loss_bound HOK.out.1 (k + 1) (by omega)
            have hls := Rk.lossTo_succ p k
            obtain ⟨wt, hwt⟩ : ∃ wt, Rk.weight p.ch k = wt := ⟨_, rfl⟩
            rw [hwt] at hz hwb hls
            subst hz
            clear hwt
            by_cases hw0 : 0 < wt
            · have HLS := Lib.hid hls
              obtain ⟨S, hS⟩ : ∃ S, Rk.lossTo p k = S := ⟨_, rfl⟩
              have hSb := loss_bound HOK.out.1 k (by omega)
              rw [hS] at hls hSb
              rw [hS]
              have HLB := Lib.hid hlb
              clear hlb
              cases hlos : Rk.loses p k with
              | true =>
                rw [hlos, if_pos rfl] at hls
                have HS := Lib.hid (And.intro hls hlos)
                clear hls hlos hS HLS
                have hcall := kLoses_any w1 wr P Q b k p k HT1.out HI.out.1 HI.out.2 (by omega) HOK.out.1 (by omega)
                rw [HS.out.2] at hcall
                have HCALL := Lib.hid hcall
                clear hcall
                go_wp2_with fail
                refine HCALL.out.mono ?_
                rintro e w3 ⟨rfl, hK3, hB3⟩
                have H3 := Lib.hid (And.intro hK3 hB3)
                clear hK3 hB3
                go_wp2_with fail
                go_roundw
                case rel => exact ⟨k + 1, by omega, by go_num, by rw [HS.out.1]; go_num, H3.out⟩
                case measure => simp [intOf]; omega
              | false =>
                rw [hlos, if_neg (by simp), Nat.add_zero] at hls
                have HS := Lib.hid (And.intro hls hlos)
                clear hls hlos hS HLS
                have hcall := kLoses_any w1 wr P Q b k p k HT1.out HI.out.1 HI.out.2 (by omega) HOK.out.1 (by omega)
                rw [HS.out.2] at hcall
                have HCALL := Lib.hid hcall
                clear hcall
                go_wp2_with fail
                refine HCALL.out.mono ?_
                rintro e w3 ⟨rfl, hK3, hB3⟩
                have H3 := Lib.hid (And.intro hK3 hB3)
                clear hK3 hB3
                go_wp2_with fail
                go_roundw
                case rel => exact ⟨k + 1, by omega, by go_num, by rw [HS.out.1, Nat.add_zero], H3.out⟩
                case measure => simp [intOf]; omega
            · obtain rfl : wt = 0 := by omega
              have hls2 : Rk.lossTo p (k + 1) = Rk.lossTo p k := by rw [hls]; split <;> rfl
              have HS := Lib.hid hls2
              clear hls hls2 hlb
              go_wp2_with fail
              go_roundw
              case rel => exact ⟨k + 1, by omega, by go_num, by rw [HS.out], HI.out.1.more, HI.out.2⟩
              case measure => simp [intOf]; omega
      · obtain rfl : k = N := by omega
        have hl : Rk.lossOf p = Rk.lossTo p k := by rw [HOK.out.2.2, Rk.loss_def, HN.out]
        have HL := Lib.hid hl
        clear hl
        go_wp2_with fail
        go_ret2
        exact ⟨ret_two (v_int (by rw [HL.out])) (v_int HOK.out.2.1.symm), HX1.out.trans HI.out.1.ext⟩
  · have e1 : (Rk.check p != 0) = true := by rw [bne_iff_ne]; exact h0
    have HP := Lib.hid (Rk.lossOf_no h0)
    clear h0
    go_enter Tryd.func9, Tryd.ntmps9
    go_wp2_with fail
    refine (kCheck_any p _ _ HRP.out.1).mono ?_
    rintro e w1 ⟨rfl, hx1⟩
    have HX1 := Lib.hid (HRP.out.2.trans hx1)
    clear hx1
    go_wp2_with fail
    go_ret2
    exact ⟨ret_two (v_int (by rw [HP.out]; rfl)) rfl, HX1.out⟩
end Go.Proofs.YtdbolgollpnfdaaDoor
