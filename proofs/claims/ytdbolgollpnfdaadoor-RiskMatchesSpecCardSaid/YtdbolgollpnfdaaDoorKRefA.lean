/- THE WALKS over the specification of perils: Check, Power, Loses, size, before. -/
import Derived.Test.YtdbolgollpnfdaaDoorRefRisk
import Derived.Test.YtdbolgollpnfdaaDoorKRefP
import Derived.Test.YtdbolgollpnfdaaDoorRiskT
namespace Go.Proofs.YtdbolgollpnfdaaDoor
open Go.RowKit
set_option maxHeartbeats 4000000 in
/-- The specification's `Check` of a peril: its first error. -/
theorem qCheck_any (p : Rk.Pe) (v : Value) (w : World) (hv : RP w v p) (hgn : p.gs.length ≤ 1000000) :
    Calls Tryd.prog 6 #[v] w fun e w' => e = .returned (.int .i64 (Rk.check p)) ∧ Ext w w' := by
  obtain ⟨G, T, C, rfl, hG, hT, hC⟩ := hv
  obtain ⟨d, gs, gl, at', ch⟩ := p
  simp only at hG hT hC hgn
  have hx0 := (Ext.refl w).alloc (.cells #[.int .i64 d, G, .int .i64 gl, T, C] 27)
  have HG := Lib.hid (Rs.ext (Rs.ext RI.ext) _ _ _ _ hx0 hG)
  have HTT := Lib.hid (Rs.ext RI.ext _ _ _ _ hx0 hT)
  have HCC := Lib.hid (Rs.ext RI.ext _ _ _ _ hx0 hC)
  have HX0 := Lib.hid hx0
  obtain ⟨A1, c1, rfl, hl1⟩ := hG.form
  obtain ⟨A2, c2, rfl, hl2⟩ := hT.form
  obtain ⟨A3, c3, rfl, hl3⟩ := hC.form
  clear hG hT hC hx0
  by_cases h0 : Cd.check d gs gl = 0
  · have e1 : (Cd.check d gs gl != 0) = false := by rw [h0]; rfl
    by_cases h2 : 12 < ch.length
    · have hp := Rk.check_many (p := ⟨d, gs, gl, at', ch⟩) h0 h2
      have HP := Lib.hid hp
      clear h0 hp
      go_enter Tryd.func6, Tryd.ntmps6
      go_wp2_with fail
      refine (rCheck_any d gl gs _ _ HG.out hgn).mono ?_
      rintro e w1 ⟨rfl, hx1⟩
      have hc4 : w1.cell? ⟨w.heap.size, 4, none⟩ = some (.slice A3 ch.length c3) := hx1.cell (by go_simp)
      have HX1 := Lib.hid (HX0.out.trans hx1)
      clear hx1
      go_wp2_with fail
      go_ret
      exact ⟨ret_int HP.out.symm, HX1.out⟩
    · have hck := Cd.check_ok h0
      have hpc := Cd.pieces_ok h0
      by_cases h3 : (at'.length : Int) = Cd.pieces d gs gl
      · have e2 : ((at'.length : Int) != d + (gs.length : Int) + gl) = false := by rw [h3, hpc]; simp
        have HC3 := Lib.hid (And.intro h0 (And.intro h2 h3))
        obtain ⟨k1, k2, k3, k4, k5, k6⟩ := hck
        clear h0 h3 hpc
        go_enter Tryd.func6, Tryd.ntmps6
        go_wp2_with fail
        refine (rCheck_any d gl gs _ _ HG.out hgn).mono ?_
        rintro e w1 ⟨rfl, hx1⟩
        have hc0 : w1.cell? ⟨w.heap.size, 0, none⟩ = some (.int .i64 d) := hx1.cell (by go_simp)
        have hc1 : w1.cell? ⟨w.heap.size, 1, none⟩ = some (.slice A1 gs.length c1) := hx1.cell (by go_simp)
        have hc2 : w1.cell? ⟨w.heap.size, 2, none⟩ = some (.int .i64 gl) := hx1.cell (by go_simp)
        have hc3 : w1.cell? ⟨w.heap.size, 3, none⟩ = some (.slice A2 at'.length c2) := hx1.cell (by go_simp)
        have hc4 : w1.cell? ⟨w.heap.size, 4, none⟩ = some (.slice A3 ch.length c3) := hx1.cell (by go_simp)
        have HX1 := Lib.hid (HX0.out.trans hx1)
        have HXX := Lib.hid hx1
        have HC4 := Lib.hid (And.intro hc3 hc4)
        clear hx1
        go_wp2_with fail
        clear hc0 hc1 hc2 hc3 hc4
        go_loopw [4] (fun vi wr => ∃ i : Nat, i ≤ at'.length ∧ vi = .int .i64 i ∧ Hid (Ext w1 wr ∧ ∀ j, j < i → ∀ x, at'[j]? = some x → ¬ (x < -1 ∨ (ch.length : Int) ≤ x))) (fun vi _ => at'.length - (intOf vi).toNat)
        case atStart => exact ⟨0, Nat.zero_le _, rfl, Lib.hid (And.intro (Ext.refl _) fun j h => absurd h (by omega))⟩
        case round =>
          obtain ⟨i, hi, rfl, HZ⟩ := hrel
          have hd3 := HZ.out.1.cell HC4.out.1
          have hd4 := HZ.out.1.cell HC4.out.2
          by_cases hlt : i < at'.length
          · obtain ⟨ad, u, rfl, hcell, hu⟩ := HTT.out.at hlt
            obtain ⟨rfl, hlo, hhi⟩ := hu
            have hcell2 := HZ.out.1.cell (HXX.out.cell hcell)
            have hat := @Rk.check_at ⟨d, gs, gl, at', ch⟩ HC3.out.1 HC3.out.2.1 HC3.out.2.2 at'[i] (List.getElem_mem hlt)
            have hstep : ∀ x, at'[i]? = some x → x = at'[i] := fun x hx => by rw [List.getElem?_eq_getElem hlt] at hx; injection hx with hx; exact hx.symm
            obtain ⟨x, hx⟩ : ∃ x, at'[i] = x := ⟨_, rfl⟩
            rw [hx] at hcell2 hlo hhi hat hstep
            have HAT := Lib.hid (And.intro hat hstep)
            clear hcell hat hstep hx
            by_cases hb : x < -1 ∨ (ch.length : Int) ≤ x
            · have HB := Lib.hid hb
              by_cases hb1 : x < -1
              · clear hb
                go_wp2_with fail
                go_quiet (fail)
                go_wp2_with fail
                go_ret
                exact ⟨ret_int (HAT.out.1 HB.out).symm, by first | exact (HX1.out.trans HZ.out.1).drewN _ | exact HX1.out.trans HZ.out.1⟩
              · have hb2 : (ch.length : Int) ≤ x := by omega
                clear hb
                go_wp2_with fail
                go_quiet (fail)
                go_wp2_with fail
                go_ret
                exact ⟨ret_int (HAT.out.1 HB.out).symm, by first | exact (HX1.out.trans HZ.out.1).drewN _ | exact HX1.out.trans HZ.out.1⟩
            · have hb1 : ¬ x < -1 := by omega
              have hb2 : ¬ (ch.length : Int) ≤ x := by omega
              have hz : ∀ j, j < i + 1 → ∀ x, at'[j]? = some x → ¬ (x < -1 ∨ (ch.length : Int) ≤ x) := fun j hj y hy => by
                rcases Nat.lt_or_ge j i with h1 | h1
                · exact HZ.out.2 j h1 y hy
                · obtain rfl : j = i := by omega
                  rw [HAT.out.2 y hy]; exact hb
              have HZ2 := Lib.hid hz
              clear hz hb
              go_wp2_with fail
              go_quiet (fail)
              go_wp2_with fail
              clear hd3 hd4 hcell2
              go_roundw
              case rel => exact ⟨i + 1, by omega, by go_num, Lib.hid (And.intro (by first | exact HZ.out.1.drewN _ | exact HZ.out.1) HZ2.out)⟩
              case measure => simp [intOf]; omega
          · obtain rfl : i = at'.length := by omega
            have hall : ∀ x ∈ at', ¬ (x < -1 ∨ (ch.length : Int) ≤ x) := fun x hx => by
              obtain ⟨j, hj, rfl⟩ := List.getElem_of_mem hx
              exact HZ.out.2 j hj _ (List.getElem?_eq_getElem hj)
            have HALL := Lib.hid hall
            have HZ1 := Lib.hid HZ.out.1
            clear hall
            go_wp2_with fail
            clear hd3 hd4
            go_loopw [5] (fun vi wr => ∃ i : Nat, i ≤ ch.length ∧ vi = .int .i64 i ∧ Hid (Ext w1 wr ∧ ∀ j, j < i → ∀ x, ch[j]? = some x → ¬ (x < 0 ∨ 16 < x))) (fun vi _ => ch.length - (intOf vi).toNat)
            case atStart => exact ⟨0, Nat.zero_le _, rfl, Lib.hid (And.intro HZ1.out fun j h => absurd h (by omega))⟩
            case round =>
              obtain ⟨i, hi, rfl, HZ⟩ := hrel
              have hd4 := HZ.out.1.cell HC4.out.2
              by_cases hlt2 : i < ch.length
              · obtain ⟨ad, u, rfl, hcell, hu⟩ := HCC.out.at hlt2
                obtain ⟨rfl, hlo, hhi⟩ := hu
                have hcell2 := HZ.out.1.cell (HXX.out.cell hcell)
                have hat := @Rk.check_ch ⟨d, gs, gl, at', ch⟩ HC3.out.1 HC3.out.2.1 HC3.out.2.2 HALL.out ch[i] (List.getElem_mem hlt2)
                have hstep : ∀ x, ch[i]? = some x → x = ch[i] := fun x hx => by rw [List.getElem?_eq_getElem hlt2] at hx; injection hx with hx; exact hx.symm
                obtain ⟨x, hx⟩ : ∃ x, ch[i] = x := ⟨_, rfl⟩
                rw [hx] at hcell2 hlo hhi hat hstep
                have HAT := Lib.hid (And.intro hat hstep)
                clear hcell hat hstep hx
                by_cases hb : x < 0 ∨ 16 < x
                · have HB := Lib.hid hb
                  by_cases hb1 : x < 0
                  · clear hb
                    go_wp2_with fail
                    go_ret
                    exact ⟨ret_int (HAT.out.1 HB.out).symm, HX1.out.trans HZ.out.1⟩
                  · have hb2 : 16 < x := by omega
                    clear hb
                    go_wp2_with fail
                    go_ret
                    exact ⟨ret_int (HAT.out.1 HB.out).symm, HX1.out.trans HZ.out.1⟩
                · have hb1 : ¬ x < 0 := by omega
                  have hb2 : ¬ 16 < x := by omega
                  have hz : ∀ j, j < i + 1 → ∀ x, ch[j]? = some x → ¬ (x < 0 ∨ 16 < x) := fun j hj y hy => by
                    rcases Nat.lt_or_ge j i with h1 | h1
                    · exact HZ.out.2 j h1 y hy
                    · obtain rfl : j = i := by omega
                      rw [HAT.out.2 y hy]; exact hb
                  have HZ2 := Lib.hid hz
                  clear hz hb
                  go_wp2_with fail
                  clear hd4 hcell2
                  go_roundw
                  case rel => exact ⟨i + 1, by omega, by go_num, Lib.hid (And.intro HZ.out.1 HZ2.out)⟩
                  case measure => simp [intOf]; omega
              · obtain rfl : i = ch.length := by omega
                have hall2 : ∀ x ∈ ch, ¬ (x < 0 ∨ 16 < x) := fun x hx => by
                  obtain ⟨j, hj, rfl⟩ := List.getElem_of_mem hx
                  exact HZ.out.2 j hj _ (List.getElem?_eq_getElem hj)
                have hz := @Rk.check_zero ⟨d, gs, gl, at', ch⟩ HC3.out.1 HC3.out.2.1 HC3.out.2.2 HALL.out hall2
                have HZZ := Lib.hid hz
                clear hz hall2
                go_wp2_with fail
                go_ret
                exact ⟨ret_int HZZ.out.symm, HX1.out.trans HZ.out.1⟩
      · have e2 : ((at'.length : Int) != d + (gs.length : Int) + gl) = true := by rw [bne_iff_ne]; rw [hpc] at h3; exact h3
        have hp := Rk.check_len (p := ⟨d, gs, gl, at', ch⟩) h0 h2 h3
        have HP := Lib.hid hp
        obtain ⟨k1, k2, k3, k4, k5, k6⟩ := hck
        clear h0 h3 hpc hp
        go_enter Tryd.func6, Tryd.ntmps6
        go_wp2_with fail
        refine (rCheck_any d gl gs _ _ HG.out hgn).mono ?_
        rintro e w1 ⟨rfl, hx1⟩
        have hc0 : w1.cell? ⟨w.heap.size, 0, none⟩ = some (.int .i64 d) := hx1.cell (by go_simp)
        have hc1 : w1.cell? ⟨w.heap.size, 1, none⟩ = some (.slice A1 gs.length c1) := hx1.cell (by go_simp)
        have hc2 : w1.cell? ⟨w.heap.size, 2, none⟩ = some (.int .i64 gl) := hx1.cell (by go_simp)
        have hc3 : w1.cell? ⟨w.heap.size, 3, none⟩ = some (.slice A2 at'.length c2) := hx1.cell (by go_simp)
        have hc4 : w1.cell? ⟨w.heap.size, 4, none⟩ = some (.slice A3 ch.length c3) := hx1.cell (by go_simp)
        have HX1 := Lib.hid (HX0.out.trans hx1)
        clear hx1
        go_wp2_with fail
        go_ret
        exact ⟨ret_int HP.out.symm, HX1.out⟩
  · have e1 : (Cd.check d gs gl != 0) = true := by rw [bne_iff_ne]; exact h0
    have HP := Lib.hid (Rk.check_code (p := ⟨d, gs, gl, at', ch⟩) h0)
    clear h0
    go_enter Tryd.func6, Tryd.ntmps6
    go_wp2_with fail
    refine (rCheck_any d gl gs _ _ HG.out hgn).mono ?_
    rintro e w1 ⟨rfl, hx1⟩
    have HX1 := Lib.hid (HX0.out.trans hx1)
    clear hx1
    go_wp2_with fail
    go_ret
    exact ⟨ret_int HP.out.symm, HX1.out⟩
set_option maxRecDepth 100000 in
theorem qPower_any (n : Nat) (w : World) (hn : n ≤ 12) :
    Calls Tryd.prog 18 #[.int .i64 n] w fun e w' => e = .returned (.int .i64 ((16 ^ n : Nat) : Int)) ∧ w = w' := by
  go_enter Tryd.func18, Tryd.ntmps18
  go_wp2_with fail
  go_loop [3, 4] (fun vz vi => ∃ i z : Nat, i ≤ n ∧ vi = .int .i64 i ∧ vz = .int .i64 z ∧ z ≤ 281474976710656 ∧ Hid (z = 16 ^ i)) (fun _ vi => n - (intOf vi).toNat)
  case atStart => exact ⟨0, 1, Nat.zero_le _, rfl, rfl, by omega, Lib.hid rfl⟩
  case round =>
    obtain ⟨i, z, hi, rfl, rfl, hb, HN⟩ := hrel
    by_cases hlt : i < n
    · have hn2 : z * 16 = 16 ^ (i + 1) := by rw [HN.out, Nat.pow_succ]
      have hb2 : z * 16 ≤ 281474976710656 := by
        rw [hn2]
        exact Nat.pow_le_pow_right (by omega) (show i + 1 ≤ 12 by omega)
      have HN2 := Lib.hid hn2
      clear hn2
      go_wp2_with fail
      go_round
      case rel => exact ⟨i + 1, z * 16, by omega, by go_num, by go_num, hb2, Lib.hid HN2.out⟩
      case measure => simp [intOf]; omega
    · obtain rfl : i = n := by omega
      go_wp2_with fail
      go_ret
      exact ⟨ret_int (by rw [HN.out]; simp), rfl⟩
theorem or_top {a k : Nat} (h : a < 2 ^ k) : a ||| 2 ^ k = a + 2 ^ k := by
  rw [Nat.or_comm]
  have := Nat.two_pow_add_eq_or_of_lt (i := k) (b := a) h 1
  rw [Nat.mul_one] at this
  omega
set_option maxRecDepth 100000 in
set_option maxHeartbeats 4000000 in
theorem qLoses_any (p : Rk.Pe) (f : Nat) (v : Value) (w : World) (hv : RP w v p) (ho : Rk.Ok p) (hf : f < 4096) :
    Calls Tryd.prog 19 #[v, .int .i64 f] w fun e w' => e = .returned (.bool (Rk.loses p f)) ∧ Ext w w' := by
  obtain ⟨G, T, C, rfl, hG, hT, hC⟩ := hv
  have hx0 := (Ext.refl w).alloc (.cells #[.int .i64 p.d, G, .int .i64 p.gl, T, C] 27)
  have HG := Lib.hid (And.intro hx0 (Rs.ext (Rs.ext RI.ext) _ _ _ _ hx0 hG))
  have HTT := Lib.hid (Rs.ext RI.ext _ _ _ _ hx0 hT)
  obtain ⟨A1, c1, rfl, hl1⟩ := hG.form
  obtain ⟨A2, c2, rfl, hl2⟩ := hT.form
  have hck := Cd.check_ok ho.code
  have hgn : p.gs.length ≤ 1000000 := by omega
  have hlen := ho.len
  have hat24 : p.at'.length ≤ 24 := by omega
  have hch12 := ho.few
  have HOK := Lib.hid ho
  have hld := Rk.loses_def p f
  have HLD := Lib.hid hld
  clear hG hT hC hx0 hck hlen ho hld
  go_enter Tryd.func19, Tryd.ntmps19
  go_wp2_with fail
  go_loop [5, 6] (fun vs vk => ∃ k s : Nat, k ≤ p.at'.length ∧ vk = .int .i64 k ∧ vs = .int .i64 s ∧ s ≤ 16777216 ∧ Hid (s = Rk.leftTo p.at' f k)) (fun _ vk => p.at'.length - (intOf vk).toNat)
  case atStart => exact ⟨0, 0, Nat.zero_le _, rfl, rfl, by omega, Lib.hid (by rw [Rk.leftTo_zero])⟩
  case round =>
    obtain ⟨k, s, hk, rfl, rfl, hs, HS⟩ := hrel
    by_cases hlt : k < p.at'.length
    · obtain ⟨ad, u, rfl, hcell, hu⟩ := HTT.out.at hlt
      obtain ⟨rfl, hlo, hhi⟩ := hu
      have hat := HOK.out.at_ok _ (List.getElem_mem hlt)
      have hstep := Rk.leftTo_succ p.at' f k
      have hgd : p.at'.getD k (-1) = p.at'[k] := by rw [List.getD_eq_getElem?_getD, List.getElem?_eq_getElem hlt]; rfl
      have hlt2 := Rk.leftTo_lt p.at' f k
      have hlt3 := Rk.leftTo_lt p.at' f (k + 1)
      have h224 : 2 ^ (k + 1) ≤ 2 ^ 24 := Nat.pow_le_pow_right (by omega) (by omega)
      rw [hgd] at hstep
      obtain ⟨x, hx⟩ : ∃ x, p.at'[k] = x := ⟨_, rfl⟩
      rw [hx] at hcell hlo hhi hat hstep
      clear hgd hx
      by_cases h0 : 0 ≤ x
      · obtain ⟨j, rfl⟩ : ∃ j : Nat, x = j := ⟨x.toNat, by omega⟩
        have hmm : bits .and .i64 ((f : Int) / 2 ^ j) 1 = ((Cd.bitAt f j : Nat) : Int) := by
          have hle : f / 2 ^ j ≤ f := Nat.div_le_self _ _
          have := odd64 (f / 2 ^ j) (by omega)
          rw [Cd.bitAt, ← this]
          simp
        rw [Int.toNat_natCast] at hstep
        have hj62 : j < 62 := by omega
        by_cases hb : Cd.bitAt f j = 0
        · rw [if_pos ⟨by omega, hb⟩] at hstep
          rw [hb] at hmm
          have hwk := wrap_pow k (by omega)
          have hor := or_top hlt2
          rw [hor, ← HS.out] at hstep
          rw [hstep] at hlt3
          obtain ⟨K2, hK2⟩ : ∃ K2, 2 ^ k = K2 := ⟨_, rfl⟩
          rw [hK2] at hstep hlt3 hwk
          have hK24 : s + K2 ≤ 16777216 := by omega
          have HST := Lib.hid hstep
          clear hstep hb hor hlt2 hlt3 h224 hK2
          go_wp2_with fail
          go_round
          case rel => exact ⟨k + 1, s + K2, by omega, by go_num, by go_num, hK24, Lib.hid HST.out.symm⟩
          case measure => simp [intOf]; omega
        · have eb : (((Cd.bitAt f j : Nat) : Int) == 0) = false := by rw [beq_eq_false_iff_ne]; omega
          rw [if_neg (by rintro ⟨_, h⟩; exact hb h)] at hstep
          have HST := Lib.hid hstep
          clear hstep hb hlt2 hlt3 h224
          go_wp2_with fail
          go_round
          case rel => exact ⟨k + 1, s, by omega, by go_num, rfl, hs, Lib.hid (by rw [HST.out]; exact HS.out)⟩
          case measure => simp [intOf]; omega
      · rw [if_neg (by rintro ⟨h, _⟩; exact h0 h)] at hstep
        have HST := Lib.hid hstep
        clear hstep hlt2 hlt3 h224
        go_wp2_with fail
        go_round
        case rel => exact ⟨k + 1, s, by omega, by go_num, rfl, hs, Lib.hid (by rw [HST.out]; exact HS.out)⟩
        case measure => simp [intOf]; omega
    · obtain rfl : k = p.at'.length := by omega
      go_wp2_with fail
      refine (rRec_any p.d p.gl s p.gs _ _ HG.out.2 hgn).mono ?_
      rintro e w2 ⟨rfl, hx2⟩
      have HX2 := Lib.hid (HG.out.1.trans hx2)
      clear hx2
      go_wp2_with fail
      go_ret
      refine ⟨ret_bool ?_, HX2.out⟩
      rw [HLD.out, HS.out]
      rfl
theorem half_pow {t k : Nat} (h : t < 2 ^ (k + 1)) : t / 2 < 2 ^ k := by rw [Nat.pow_succ] at h; omega
theorem qSize_any (s : Nat) (w : World) (hs : s < 4096) : Calls Tryd.prog 27 #[.int .i64 s] w fun e w' => e = .returned (.int .i64 (Rk.cnt s : Nat)) ∧ w = w' := by
  go_enter Tryd.func27, Tryd.ntmps27
  go_wp2_with fail
  go_loop [0, 3] (fun vs vn => ∃ (t n k : Nat), vs = .int .i64 t ∧ vn = .int .i64 n ∧ k ≤ 16 ∧ t < 65536 ∧ n ≤ 16 ∧ Hid (t < 2 ^ k ∧ n + Rk.cntF k t = Rk.cnt s ∧ n + k ≤ 16)) (fun vs _ => (intOf vs).toNat)
  case atStart => exact ⟨s, 0, 16, rfl, rfl, by omega, by omega, by omega, Lib.hid (And.intro (by omega) (And.intro (by simp [Rk.cnt]) (by omega)))⟩
  case round =>
    obtain ⟨t, n, k, rfl, rfl, hk, ht, hn, HR⟩ := hrel
    by_cases h0 : 0 < t
    · have hk0 : 0 < k := by
        rcases Nat.eq_zero_or_pos k with h | h
        · have := HR.out.1; rw [h] at this; omega
        · exact h
      obtain ⟨j, rfl⟩ : ∃ j, k = j + 1 := ⟨k - 1, by omega⟩
      have hn1 : n + t % 2 + Rk.cntF j (t / 2) = Rk.cnt s := by
        have := HR.out.2.1
        rw [Rk.cntF] at this
        omega
      have ht2 := half_pow HR.out.1
      have hm : t % 2 ≤ 1 := by omega
      have ho := odd64 t (by omega)
      have hq := HR.out.2.2
      have HN := Lib.hid (And.intro hn1 (And.intro ht2 hq))
      clear hn1 ht2 hq
      go_wp2_with fail
      go_round
      case rel => exact ⟨t / 2, n + t % 2, j, by go_num, by go_num, by omega, by omega, by have := HN.out.2.2; omega, Lib.hid (And.intro HN.out.2.1 (And.intro HN.out.1 (by have := HN.out.2.2; omega)))⟩
      case measure => simp [intOf]; omega
    · obtain rfl : t = 0 := by omega
      have hz : ∀ k, Rk.cntF k 0 = 0 := by
        intro k
        induction k with
        | zero => rfl
        | succ k ih => rw [Rk.cntF, show 0 / 2 = 0 from rfl, ih]
      have hfin := HR.out.2.1
      rw [hz] at hfin
      have HF := Lib.hid hfin
      clear hfin hz h0
      go_wp2_with fail
      go_ret
      exact ⟨ret_int (by have := HF.out; omega), rfl⟩
theorem qBefore_any (a b : Nat) (w : World) (ha : a < 4096) (hb : b < 4096) : Calls Tryd.prog 26 #[.int .i64 a, .int .i64 b] w fun e w' => e = .returned (.bool (Rk.bef 12 a b)) ∧ w = w' := by
  obtain ⟨r, hr⟩ : ∃ r, Rk.bef 12 a b = r := ⟨_, rfl⟩
  rw [hr]
  have HR0 := Lib.hid hr
  clear hr
  go_enter Tryd.func26, Tryd.ntmps26
  go_wp2_with fail
  go_loop [0, 1] (fun va vb => ∃ (x y k : Nat), va = .int .i64 x ∧ vb = .int .i64 y ∧ x < 4096 ∧ y < 4096 ∧ Hid (x < 2 ^ k ∧ y < 2 ^ k ∧ Rk.bef k x y = r)) (fun va vb => (intOf va).toNat + (intOf vb).toNat)
  case atStart => exact ⟨a, b, 12, rfl, rfl, ha, hb, Lib.hid (And.intro ha (And.intro hb HR0.out))⟩
  case round =>
    obtain ⟨x, y, k, rfl, rfl, hx, hy, HR⟩ := hrel
    by_cases hxy : x = y
    · have e1 : ((x : Int) != (y : Int)) = false := by rw [hxy]; simp
      have hf : r = false := by rw [← HR.out.2.2, hxy, Rk.bef_eq]
      have HF := Lib.hid hf
      clear hxy hf
      go_wp2_with fail
      go_ret
      exact ⟨ret_bool HF.out.symm, rfl⟩
    · have e1 : ((x : Int) != (y : Int)) = true := by rw [bne_iff_ne]; omega
      have hk0 : 0 < k := by
        rcases Nat.eq_zero_or_pos k with h | h
        · have h1 := HR.out.1; have h2 := HR.out.2.1; rw [h] at h1 h2; omega
        · exact h
      obtain ⟨j, rfl⟩ : ∃ j, k = j + 1 := ⟨k - 1, by omega⟩
      have ox := odd64 x (by omega)
      have oy := odd64 y (by omega)
      have hx2 := half_pow HR.out.1
      have hy2 := half_pow HR.out.2.1
      have hrr := HR.out.2.2
      have hsum : x / 2 + y / 2 < x + y := by omega
      by_cases hm : x % 2 = y % 2
      · have e2 : (((x % 2 : Nat) : Int) != ((y % 2 : Nat) : Int)) = false := by rw [hm]; simp
        rw [Rk.bef_same hm] at hrr
        have HH := Lib.hid (And.intro hx2 (And.intro hy2 hrr))
        clear hx2 hy2 hrr hm hxy
        go_wp2_with fail
        go_round
        case rel => exact ⟨x / 2, y / 2, j, by go_num, by go_num, by omega, by omega, HH⟩
        case measure => simp [intOf]; omega
      · have e2 : (((x % 2 : Nat) : Int) != ((y % 2 : Nat) : Int)) = true := by rw [bne_iff_ne]; omega
        rw [Rk.bef_diff hm] at hrr
        have e3 : (((x % 2 : Nat) : Int) == 1) = r := by
          rw [← hrr, Bool.eq_iff_iff, beq_iff_eq, decide_eq_true_eq]
          omega
        clear hx2 hy2 hrr hm hxy
        go_wp2_with fail
        go_ret
        exact ⟨ret_bool (by rw [← e3, Int.natCast_emod]; rfl), rfl⟩
end Go.Proofs.YtdbolgollpnfdaaDoor
