/- THE LAW RiskLeastIsLeast: its walk. -/
import Derived.Test.YtaemjkfmbnhaoaaDoorRiskZ
namespace Go.Proofs.YtaemjkfmbnhaoaaDoor
open Go.RowKit
theorem wrap_small (z : Int) (h0 : 0 ≤ z) (h1 : z < 9223372036854775808) : IntKind.i64.wrap z = z := by
  rw [IntKind.wrap_i64]
  omega
theorem sub_wrap {L T i : Nat} (hT : 2 ^ i = T) (hTL : T ≤ L) (hL : L < 512) : IntKind.i64.wrap ((L : Int) - IntKind.i64.wrap (2 ^ i)) = ((L - T : Nat) : Int) := by
  have h1 : ((2 : Int) ^ i) = (T : Int) := by rw [nat_pow_cast, hT]
  rw [h1, wrap_small (T : Int) (by omega) (by omega), wrap_small _ (by omega) (by omega)]
  omega
theorem and_mask (o n : Nat) (ho : o < 65536) (hn : n < 62) : bits .and .i64 (o : Int) (((2 ^ n : Nat) : Int) - 1) = ((o % 2 ^ n : Nat) : Int) := by
  have h1 : (((2 ^ n : Nat) : Int) - 1) = ((2 ^ n - 1 : Nat) : Int) := by have := Nat.two_pow_pos n; omega
  have h2 : 2 ^ n ≤ 2 ^ 62 := Nat.pow_le_pow_right (by omega) (by omega)
  rw [h1, and64 o (2 ^ n - 1) (by omega) (by omega), Nat.and_two_pow_sub_one_eq_mod]
set_option maxRecDepth 100000 in
set_option maxHeartbeats 8000000 in
theorem least_walk (p : Rk.Pe) (o : Nat) (v : Value) (w : World) (hT : Tab w) (hv : RP w v p) (ho : o < 65536) :
    Calls Tryd.prog 6 #[v, .int .u16 o] w fun e w' => e = .returned (.bool true) ∧ Ext w w' := by
  obtain ⟨A1, A2, A3, c1, c2, c3, rfl⟩ := hv.slices
  have hx0 := (Ext.refl w).alloc (.cells #[.int .i64 p.d, .slice A1 p.gs.length c1, .int .i64 p.gl, .slice A2 p.at'.length c2, .slice A3 p.ch.length c3] 27)
  have HR0 := Lib.hid (RP.ext _ _ _ _ hx0 hv)
  have HX0 := Lib.hid hx0
  have HT := Lib.hid hT
  have HB0 := Lib.hid (cells_new w #[.int .i64 p.d, .slice A1 p.gs.length c1, .int .i64 p.gl, .slice A2 p.at'.length c2, .slice A3 p.ch.length c3] 27)
  clear hv hx0 hT
  go_enter Tryd.func6, Tryd.ntmps6
  go_wp2_with fail
  refine (few_any p 9 _ _ HR0.out).mono ?_
  rintro e w1 ⟨b, rfl, hb, hx⟩
  have HFEW := Lib.hid hb
  have HX1 := Lib.hid (HX0.out.trans hx)
  have HR1 := Lib.hid (RP.ext _ _ _ _ hx HR0.out)
  have HB1 := Lib.hid (HB0.out.ext hx)
  clear hx hb
  cases b with
  | false =>
    go_wp2_with fail
    refine (sanity_any _ (HT.out.ext HX1.out)).mono ?_
    rintro e w2 ⟨rfl, hx⟩
    have HX2 := Lib.hid (HX1.out.trans hx)
    clear hx
    go_wp2_with fail
    go_ret
    exact ⟨rfl, HX2.out⟩
  | true =>
    have h9 := HFEW.out rfl
    have b0 : w1.cell? ⟨w.heap.size, 0, none⟩ = some (.int .i64 p.d) := HB1.out 0 _ rfl
    have b1 : w1.cell? ⟨w.heap.size, 1, none⟩ = some (.slice A1 p.gs.length c1) := HB1.out 1 _ rfl
    have b2 : w1.cell? ⟨w.heap.size, 2, none⟩ = some (.int .i64 p.gl) := HB1.out 2 _ rfl
    have b3 : w1.cell? ⟨w.heap.size, 3, none⟩ = some (.slice A2 p.at'.length c2) := HB1.out 3 _ rfl
    have b4 : w1.cell? ⟨w.heap.size, 4, none⟩ = some (.slice A3 p.ch.length c3) := HB1.out 4 _ rfl
    go_wp2_with fail
    clear b0 b1 b2 b3 b4
    refine (kCheck_any p _ _ HR1.out).mono ?_
    rintro e w2 ⟨rfl, hx⟩
    have HX2 := Lib.hid (HX1.out.trans hx)
    have HR2 := Lib.hid (RP.ext _ _ _ _ hx HR1.out)
    have HB2 := Lib.hid (HB1.out.ext hx)
    clear hx
    by_cases h0 : Rk.check p = 0
    · have hsp := Rk.least_spec (fst := firstB) h0
      have hdrop := fun d hd hb => Rk.least_drop (fst := firstB) h0 h9 (d := d) hd hb
      have h512 : 2 ^ p.ch.length ≤ 2 ^ 9 := Nat.pow_le_pow_right (by omega) h9
      have hlk := fun k hk => Rk.lost_ok (f := k) h0 hk
      obtain ⟨L, hL⟩ : ∃ L, Rk.least firstB p = L := ⟨_, rfl⟩
      obtain ⟨N, hN⟩ : ∃ N, 2 ^ p.ch.length = N := ⟨_, rfl⟩
      rw [hL] at hsp hdrop
      rw [hN] at hsp hlk h512
      have HS := Lib.hid (And.intro hsp (And.intro hdrop (And.intro hlk (And.intro hL hN))))
      have e1 : (Rk.check p != 0) = false := by rw [h0]; rfl
      have HC := Lib.hid h0
      have hL512 : L < 512 := by omega
      have hLL := hlk L hsp.1
      rw [hsp.2.1] at hLL
      have HLL := Lib.hid hLL
      have hN512 : N ≤ 512 := h512
      have hLN : L < N := hsp.1
      clear h0 hsp hdrop h512 hlk hL hLL hN
      have b0 : w2.cell? ⟨w.heap.size, 0, none⟩ = some (.int .i64 p.d) := HB2.out 0 _ rfl
      have b1 : w2.cell? ⟨w.heap.size, 1, none⟩ = some (.slice A1 p.gs.length c1) := HB2.out 1 _ rfl
      have b2 : w2.cell? ⟨w.heap.size, 2, none⟩ = some (.int .i64 p.gl) := HB2.out 2 _ rfl
      have b3 : w2.cell? ⟨w.heap.size, 3, none⟩ = some (.slice A2 p.at'.length c2) := HB2.out 3 _ rfl
      have b4 : w2.cell? ⟨w.heap.size, 4, none⟩ = some (.slice A3 p.ch.length c3) := HB2.out 4 _ rfl
      go_wp2_with fail
      clear b0 b1 b2 b3 b4
      refine (kLeast_any p _ _ (HT.out.ext HX2.out) HR2.out).mono ?_
      rintro e w3 ⟨rfl, hx⟩
      rw [HS.out.2.2.2.1, HC.out]
      have HX3 := Lib.hid (HX2.out.trans hx)
      have HR3 := Lib.hid (RP.ext _ _ _ _ hx HR2.out)
      have HB3 := Lib.hid (HB2.out.ext hx)
      clear hx
      have b0 : w3.cell? ⟨w.heap.size, 0, none⟩ = some (.int .i64 p.d) := HB3.out 0 _ rfl
      have b1 : w3.cell? ⟨w.heap.size, 1, none⟩ = some (.slice A1 p.gs.length c1) := HB3.out 1 _ rfl
      have b2 : w3.cell? ⟨w.heap.size, 2, none⟩ = some (.int .i64 p.gl) := HB3.out 2 _ rfl
      have b3 : w3.cell? ⟨w.heap.size, 3, none⟩ = some (.slice A2 p.at'.length c2) := HB3.out 3 _ rfl
      have b4 : w3.cell? ⟨w.heap.size, 4, none⟩ = some (.slice A3 p.ch.length c3) := HB3.out 4 _ rfl
      go_wp2_with fail
      clear b0 b1 b2 b3 b4
      refine (kLost_any p (L : Int) _ _ (HT.out.ext HX3.out) HR3.out).mono ?_
      rintro e w4 ⟨rfl, hx⟩
      rw [HLL.out]
      have HX4 := Lib.hid (HX3.out.trans hx)
      have HR4 := Lib.hid (RP.ext _ _ _ _ hx HR3.out)
      have HB4 := Lib.hid (HB3.out.ext hx)
      clear hx
      go_wp2_with fail
      go_loopw [11] (fun vi wr => ∃ i : Nat, i ≤ p.ch.length ∧ vi = .int .i64 i ∧ Hid (Ext w wr ∧ RP wr (.agg #[.int .i64 p.d, .slice A1 p.gs.length c1, .int .i64 p.gl, .slice A2 p.at'.length c2, .slice A3 p.ch.length c3]) p ∧ Cells wr w.heap.size [.int .i64 p.d, .slice A1 p.gs.length c1, .int .i64 p.gl, .slice A2 p.at'.length c2, .slice A3 p.ch.length c3])) (fun vi _ => p.ch.length - (intOf vi).toNat)
      case atStart => exact ⟨0, Nat.zero_le _, rfl, HX4.out, HR4.out, HB4.out⟩
      case round =>
        obtain ⟨i, hi, rfl, HI⟩ := hrel
        by_cases hlt : i < p.ch.length
        · have hmm : bits .and .i64 ((L : Int) / 2 ^ i) 1 = ((Cd.bitAt L i : Nat) : Int) := by
            have hle : L / 2 ^ i ≤ L := Nat.div_le_self _ _
            have := odd64 (L / 2 ^ i) (by omega)
            rw [Cd.bitAt, ← this]
            simp
          by_cases hb : Cd.bitAt L i = 1
          · rw [hb] at hmm
            have hd := HS.out.2.1 i hlt hb
            have hlo := HS.out.2.2.1 (L - 2 ^ i) (Nat.lt_of_le_of_lt (Nat.sub_le _ _) hLN)
            rw [hd.2] at hlo
            have hpos := Nat.two_pow_pos i
            obtain ⟨T, hT2⟩ : ∃ T, 2 ^ i = T := ⟨_, rfl⟩
            rw [hT2] at hd hlo hpos
            have hTL := hd.1
            have hsub := sub_wrap hT2 hTL hL512
            have hcall := kLost_any p ((L - T : Nat) : Int) _ wr.drew ((HT.out.ext HI.out.1).ext (Ext.refl wr).drew) (RP.ext _ _ _ _ (Ext.refl wr).drew HI.out.2.1)
            rw [hlo, ← hsub] at hcall
            have HCALL := Lib.hid hcall
            have b0 : wr.cell? ⟨w.heap.size, 0, none⟩ = some (.int .i64 p.d) := HI.out.2.2 0 _ rfl
            have b1 : wr.cell? ⟨w.heap.size, 1, none⟩ = some (.slice A1 p.gs.length c1) := HI.out.2.2 1 _ rfl
            have b2 : wr.cell? ⟨w.heap.size, 2, none⟩ = some (.int .i64 p.gl) := HI.out.2.2 2 _ rfl
            have b3 : wr.cell? ⟨w.heap.size, 3, none⟩ = some (.slice A2 p.at'.length c2) := HI.out.2.2 3 _ rfl
            have b4 : wr.cell? ⟨w.heap.size, 4, none⟩ = some (.slice A3 p.ch.length c3) := HI.out.2.2 4 _ rfl
            clear hd hlo hcall hT2 hsub
            go_wp2_with fail
            apply region_cut (Ext wr)
            case h =>
              go_region_law (go_simp; refine HCALL.out.mono ?_; rintro e w5 ⟨rfl, hx⟩; dsimp only; have HX5 := Lib.hid ((Ext.refl wr).drew.trans hx); clear hx)
              all_goals exact ⟨rfl, HX5.out⟩
            case hK =>
              intro w5 hx
              have HX5 := Lib.hid hx
              clear hx
              go_wp2_with fail
              go_roundw
              case rel => exact ⟨i + 1, by omega, by go_num, HI.out.1.trans HX5.out, RP.ext _ _ _ _ HX5.out HI.out.2.1, HI.out.2.2.ext HX5.out⟩
              case measure => simp [intOf]; omega
          · have eb : (((Cd.bitAt L i : Nat) : Int) == 1) = false := by rw [beq_eq_false_iff_ne]; omega
            go_wp2_with fail
            go_roundw
            case rel => exact ⟨i + 1, by omega, by go_num, HI.out⟩
            case measure => simp [intOf]; omega
        · obtain rfl : i = p.ch.length := by omega
          have hNpos : 0 < N := by omega
          have hmask := and_mask o p.ch.length ho (by omega)
          have hSN : o % N < N := Nat.mod_lt _ hNpos
          have hwN := wrap_pow p.ch.length (by omega)
          rw [HS.out.2.2.2.2] at hmask hwN
          obtain ⟨S, hS⟩ : ∃ S, o % N = S := ⟨_, rfl⟩
          rw [hS] at hmask hSN
          clear hS
          have b0 : wr.cell? ⟨w.heap.size, 0, none⟩ = some (.int .i64 p.d) := HI.out.2.2 0 _ rfl
          have b1 : wr.cell? ⟨w.heap.size, 1, none⟩ = some (.slice A1 p.gs.length c1) := HI.out.2.2 1 _ rfl
          have b2 : wr.cell? ⟨w.heap.size, 2, none⟩ = some (.int .i64 p.gl) := HI.out.2.2 2 _ rfl
          have b3 : wr.cell? ⟨w.heap.size, 3, none⟩ = some (.slice A2 p.at'.length c2) := HI.out.2.2 3 _ rfl
          have b4 : wr.cell? ⟨w.heap.size, 4, none⟩ = some (.slice A3 p.ch.length c3) := HI.out.2.2 4 _ rfl
          cases hls : Rk.loses p S
          · have hlost := HS.out.2.2.1 S hSN
            rw [hls] at hlost
            have HLOST := Lib.hid hlost
            have HLS := Lib.hid hls
            clear hlost hls
            go_wp2_with fail
            clear b0 b1 b2 b3 b4
            refine (kLost_any p (S : Int) _ _ (HT.out.ext HI.out.1) HI.out.2.1).mono ?_
            rintro e w5 ⟨rfl, hx⟩
            rw [HLOST.out]
            have HX5 := Lib.hid (HI.out.1.trans hx)
            clear hx
            go_wp2_with fail
            refine (sanity_any _ (HT.out.ext HX5.out)).mono ?_
            rintro e w6 ⟨rfl, hx⟩
            have HX6 := Lib.hid (HX5.out.trans hx)
            clear hx
            go_wp2_with fail
            go_ret
            exact ⟨rfl, HX6.out⟩
          · have hlost := HS.out.2.2.1 S hSN
            rw [hls] at hlost
            have HLOST := Lib.hid hlost
            have HLS := Lib.hid hls
            clear hlost hls
            go_wp2_with fail
            clear b0 b1 b2 b3 b4
            refine (kLost_any p (S : Int) _ _ (HT.out.ext HI.out.1) HI.out.2.1).mono ?_
            rintro e w5 ⟨rfl, hx⟩
            rw [HLOST.out]
            have HX5 := Lib.hid (HI.out.1.trans hx)
            clear hx
            go_wp2_with fail
            refine (sanity_any _ (HT.out.ext HX5.out)).mono ?_
            rintro e w6 ⟨rfl, hx⟩
            have HX6 := Lib.hid (HX5.out.trans hx)
            clear hx
            have hge := HS.out.1.2.2 S hSN HLS.out
            obtain ⟨x, hx⟩ : ∃ x, Rk.cnt S = x := ⟨_, rfl⟩
            obtain ⟨y, hy⟩ : ∃ y, Rk.cnt L = y := ⟨_, rfl⟩
            have h1 := fun w => count_any S w (by omega)
            have h2 := fun w => count_any L w (by omega)
            rw [hx] at h1
            rw [hy] at h2
            rw [hx, hy] at hge
            have H1 := Lib.hid h1
            have H2 := Lib.hid h2
            clear h1 h2 hx hy
            go_wp2_with fail
            refine (H1.out _).mono ?_
            rintro e w' ⟨rfl, rfl⟩
            go_wp2_with fail
            refine (H2.out _).mono ?_
            rintro e w' ⟨rfl, rfl⟩
            go_wp2_with fail
            go_ret
            exact ⟨rfl, HX6.out⟩
    · have e1 : (Rk.check p != 0) = true := by rw [bne_iff_ne]; exact h0
      go_wp2_with fail
      refine (sanity_any _ (HT.out.ext HX2.out)).mono ?_
      rintro e w3 ⟨rfl, hx⟩
      have HX3 := Lib.hid (HX2.out.trans hx)
      clear hx
      go_wp2_with fail
      go_ret
      exact ⟨rfl, HX3.out⟩
end Go.Proofs.YtaemjkfmbnhaoaaDoor
