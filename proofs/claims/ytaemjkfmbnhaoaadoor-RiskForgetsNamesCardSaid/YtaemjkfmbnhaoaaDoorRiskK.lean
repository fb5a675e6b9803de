/- PERILS: Loss given that a domain fails, and that it does not; the walk over Same. -/
import Derived.Test.YtaemjkfmbnhaoaaDoorRiskZ
namespace Rk
open Cd
theorem getD_set_same {l : List Int} {k : Nat} {y : Int} (h : k < l.length) : (l.set k y).getD k 0 = y := by
  rw [List.getD_eq_getElem?_getD, List.getElem?_set, if_pos rfl, if_pos h]; rfl
theorem getD_set_other {l : List Int} {k j : Nat} {y : Int} (h : j ≠ k) : (l.set k y).getD j 0 = l.getD j 0 := by
  rw [List.getD_eq_getElem?_getD, List.getElem?_set_ne (Ne.symm h), List.getD_eq_getElem?_getD]
theorem weightTo_before {ch : List Int} {k : Nat} {y : Int} (f : Nat) : ∀ j, j ≤ k → weightTo (ch.set k y) f j = weightTo ch f j
  | 0, _ => by rw [weightTo_zero, weightTo_zero]
  | j + 1, h => by rw [weightTo_succ, weightTo_succ, weightTo_before f j (by omega), getD_set_other (by omega)]
/-- A weight is a domain's factor times what does not hang on its chance. -/
theorem weightTo_part {ch : List Int} {k : Nat} (f : Nat) (hk : k < ch.length) : ∀ j, k < j → ∃ W, weightTo ch f j = W * factor (ch.getD k 0) (bitAt f k) ∧ ∀ y, weightTo (ch.set k y) f j = W * factor y (bitAt f k)
  | 0, h => absurd h (by omega)
  | j + 1, h => by
    by_cases hj : j = k
    · subst hj
      refine ⟨weightTo ch f j, weightTo_succ _ _ _, fun y => ?_⟩
      rw [weightTo_succ, weightTo_before f j (Nat.le_refl _), getD_set_same hk]
    · obtain ⟨W, h1, h2⟩ := weightTo_part f hk j (by omega)
      refine ⟨W * factor (ch.getD j 0) (bitAt f j), ?_, fun y => ?_⟩
      · rw [weightTo_succ, h1, Nat.mul_right_comm]
      · rw [weightTo_succ, h2 y, getD_set_other hj, Nat.mul_right_comm]
theorem factor_cond {c : Int} (b : Nat) : 16 * factor c b = c.toNat * factor 16 b + (16 - c.toNat) * factor 0 b := by
  by_cases hb : b = 0
  · rw [factor_zero hb, factor_zero hb, factor_zero hb]
    have e1 : 16 - (16 : Int).toNat = 0 := rfl
    have e2 : 16 - (0 : Int).toNat = 16 := rfl
    rw [e1, e2]
    omega
  · rw [factor_one hb, factor_one hb, factor_one hb]
    have e1 : (16 : Int).toNat = 16 := rfl
    have e2 : (0 : Int).toNat = 0 := rfl
    rw [e1, e2]
    omega
theorem given_loses (p : Pe) (k : Nat) (b : Bool) (f : Nat) : loses (given p k b) f = loses p f := by rw [loses_def, loses_def]; rfl
theorem given_len (p : Pe) (k : Nat) (b : Bool) : (given p k b).ch.length = p.ch.length := List.length_set
theorem given_check {p : Pe} (h : check p = 0) (k : Nat) (b : Bool) : check (given p k b) = 0 := by
  have ho := ok_of h
  refine Ok.check ⟨ho.code, by rw [given_len]; exact ho.few, ho.len, fun x hx => by rw [given_len]; exact ho.at_ok x hx, fun c hc => ?_⟩
  rcases List.mem_or_eq_of_mem_set hc with h1 | rfl
  · exact ho.ch_ok c h1
  · cases b <;> simp
theorem loss_cond {p : Pe} {k : Nat} (hk : k < p.ch.length) :
    16 * loss p = (p.ch[k]).toNat * loss (given p k true) + (16 - (p.ch[k]).toNat) * loss (given p k false) := by
  have hg : p.ch.getD k 0 = p.ch[k] := by rw [List.getD_eq_getElem?_getD, List.getElem?_eq_getElem hk]; rfl
  rw [loss_def, loss_def, loss_def, given_len, given_len, lossTo_sum, lossTo_sum, lossTo_sum, ← sumTo_mul, ← sumTo_mul, ← sumTo_mul, ← sumTo_add]
  refine sumTo_congr fun f _ => ?_
  rw [given_loses, given_loses]
  split
  · rw [weight_def, weight_def, weight_def, given_len, given_len]
    obtain ⟨W, h1, h2⟩ := weightTo_part f hk p.ch.length hk
    have e1 := h2 16
    have e2 := h2 0
    rw [h1, show (given p k true).ch = p.ch.set k 16 from rfl, show (given p k false).ch = p.ch.set k 0 from rfl, e1, e2, hg, Nat.mul_left_comm, factor_cond, Nat.mul_add, Nat.mul_left_comm W, Nat.mul_left_comm W]
  · simp
end Rk
namespace Go.Proofs.YtaemjkfmbnhaoaaDoor
open Go.RowKit
set_option maxRecDepth 100000 in
set_option maxHeartbeats 8000000 in
theorem same_any (p : Rk.Pe) (v u : Value) (w : World) (hv : RP w v p) (hu : RP w u p) :
    Calls Tryd.prog 26 #[v, u] w fun e w' => e = .returned (.bool true) ∧ Ext w w' := by
  obtain ⟨G, T, C, rfl, hG, hTT, hC⟩ := hv
  obtain ⟨G', T', C', rfl, hG', hT', hC'⟩ := hu
  have hx0 := ((Ext.refl w).alloc (.cells #[.int .i64 p.d, G, .int .i64 p.gl, T, C] 27)).alloc (.cells #[.int .i64 p.d, G', .int .i64 p.gl, T', C'] 27)
  have HG := Lib.hid (And.intro (Rs.ext (Rs.ext RI.ext) _ _ _ _ hx0 hG) (Rs.ext (Rs.ext RI.ext) _ _ _ _ hx0 hG'))
  have HA := Lib.hid (And.intro (Rs.ext RI.ext _ _ _ _ hx0 hTT) (Rs.ext RI.ext _ _ _ _ hx0 hT'))
  have HC := Lib.hid (And.intro (Rs.ext RI.ext _ _ _ _ hx0 hC) (Rs.ext RI.ext _ _ _ _ hx0 hC'))
  obtain ⟨A1, c1, rfl, _⟩ := hG.form
  obtain ⟨A2, c2, rfl, _⟩ := hTT.form
  obtain ⟨A3, c3, rfl, _⟩ := hC.form
  obtain ⟨B1, d1, rfl, _⟩ := hG'.form
  obtain ⟨B2, d2, rfl, _⟩ := hT'.form
  obtain ⟨B3, d3, rfl, _⟩ := hC'.form
  have HX := Lib.hid hx0
  have HB1 := Lib.hid ((cells_new w #[.int .i64 p.d, .slice A1 p.gs.length c1, .int .i64 p.gl, .slice A2 p.at'.length c2, .slice A3 p.ch.length c3] 27).ext ((Ext.refl _).alloc (.cells #[.int .i64 p.d, .slice B1 p.gs.length d1, .int .i64 p.gl, .slice B2 p.at'.length d2, .slice B3 p.ch.length d3] 27)))
  have HB2 := Lib.hid (cells_new (w.alloc (.cells #[.int .i64 p.d, .slice A1 p.gs.length c1, .int .i64 p.gl, .slice A2 p.at'.length c2, .slice A3 p.ch.length c3] 27)) #[.int .i64 p.d, .slice B1 p.gs.length d1, .int .i64 p.gl, .slice B2 p.at'.length d2, .slice B3 p.ch.length d3] 27)
  have esz : (w.alloc (.cells #[.int .i64 p.d, .slice A1 p.gs.length c1, .int .i64 p.gl, .slice A2 p.at'.length c2, .slice A3 p.ch.length c3] 27)).heap.size = w.heap.size + 1 := by simp
  rw [esz] at HB2
  clear hG hTT hC hG' hT' hC' hx0 esz
  go_enter Tryd.func26, Tryd.ntmps26
  go_wp2_with fail
  obtain ⟨w1, hw1⟩ : ∃ w1, (w.alloc (.cells #[.int .i64 p.d, .slice A1 p.gs.length c1, .int .i64 p.gl, .slice A2 p.at'.length c2, .slice A3 p.ch.length c3] 27)).alloc (.cells #[.int .i64 p.d, .slice B1 p.gs.length d1, .int .i64 p.gl, .slice B2 p.at'.length d2, .slice B3 p.ch.length d3] 27) = w1 := ⟨_, rfl⟩
  rw [hw1] at HG HA HC HX HB1 HB2
  rw [hw1]
  clear hw1
  have a1 : w1.cell? ⟨w.heap.size, 1, none⟩ = some (.slice A1 p.gs.length c1) := HB1.out 1 _ rfl
  have a3 : w1.cell? ⟨w.heap.size, 3, none⟩ = some (.slice A2 p.at'.length c2) := HB1.out 3 _ rfl
  have a4 : w1.cell? ⟨w.heap.size, 4, none⟩ = some (.slice A3 p.ch.length c3) := HB1.out 4 _ rfl
  have b1 : w1.cell? ⟨w.heap.size + 1, 1, none⟩ = some (.slice B1 p.gs.length d1) := HB2.out 1 _ rfl
  have b3 : w1.cell? ⟨w.heap.size + 1, 3, none⟩ = some (.slice B2 p.at'.length d2) := HB2.out 3 _ rfl
  have b4 : w1.cell? ⟨w.heap.size + 1, 4, none⟩ = some (.slice B3 p.ch.length d3) := HB2.out 4 _ rfl
  have HCS := Lib.hid (And.intro a1 (And.intro a3 (And.intro a4 (And.intro b1 (And.intro b3 b4)))))
  clear a1 a3 a4 b1 b3 b4
  go_loopw [5] (fun vi wr => ∃ i : Nat, i ≤ p.gs.length ∧ vi = .int .i64 i ∧ Hid (Ext w1 wr)) (fun vi _ => p.gs.length - (intOf vi).toNat)
  case atStart => exact ⟨0, Nat.zero_le _, rfl, Ext.refl _⟩
  case round =>
    obtain ⟨i, hi, rfl, HI⟩ := hrel
    have a1 := HI.out.cell HCS.out.1
    have b1 := HI.out.cell HCS.out.2.2.2.1
    by_cases hlt : i < p.gs.length
    · obtain ⟨ad, u, rfl, hcell, hu⟩ := HG.out.1.at hlt
      obtain ⟨bd, u', rfl, hcell', hu'⟩ := HG.out.2.at hlt
      have HU := Lib.hid (And.intro hu hu')
      obtain ⟨E1, e1, rfl, _⟩ := hu.form
      obtain ⟨E2, e2, rfl, _⟩ := hu'.form
      have hc1 := HI.out.cell hcell
      have hc2 := HI.out.cell hcell'
      have HCC := Lib.hid (And.intro hcell hcell')
      clear hcell hcell' hu hu'
      go_wp2_with fail
      go_quiet (fail)
      go_wp2_with fail
      clear a1 b1 hc1 hc2
      go_loopw [6] (fun vj wj => ∃ j : Nat, j ≤ p.gs[i].length ∧ vj = .int .i64 j ∧ Hid (Ext w1 wj)) (fun vj _ => p.gs[i].length - (intOf vj).toNat)
      case atStart => exact ⟨0, Nat.zero_le _, rfl, HI.out.drewN nq⟩
      case round =>
        obtain ⟨j, hj, rfl, HJ⟩ := hrel
        have a1 := HJ.out.cell HCS.out.1
        have b1 := HJ.out.cell HCS.out.2.2.2.1
        have hc1 := HJ.out.cell HCC.out.1
        have hc2 := HJ.out.cell HCC.out.2
        by_cases hlt2 : j < p.gs[i].length
        · obtain ⟨x1, y1, rfl, hk1, rfl, _, _⟩ := HU.out.1.at hlt2
          obtain ⟨x2, y2, rfl, hk2, rfl, _, _⟩ := HU.out.2.at hlt2
          have hk1' := HJ.out.cell hk1
          have hk2' := HJ.out.cell hk2
          go_wp2_with fail
          go_quiet (fail)
          go_wp2_with fail
          go_roundw
          case rel => exact ⟨j + 1, by omega, by go_num, HJ.out.drewN nq⟩
          case measure => simp [intOf]; omega
        · obtain rfl : j = p.gs[i].length := by omega
          go_wp2_with fail
          go_roundw
          case rel => exact ⟨i + 1, by omega, by go_num, HJ.out⟩
          case measure => simp [intOf]; omega
    · obtain rfl : i = p.gs.length := by omega
      go_wp2_with fail
      clear a1 b1
      go_loopw [7] (fun vi wr => ∃ i : Nat, i ≤ p.at'.length ∧ vi = .int .i64 i ∧ Hid (Ext w1 wr)) (fun vi _ => p.at'.length - (intOf vi).toNat)
      case atStart => exact ⟨0, Nat.zero_le _, rfl, HI.out⟩
      case round =>
        obtain ⟨i, hi, rfl, HI⟩ := hrel
        have a3 := HI.out.cell HCS.out.2.1
        have b3 := HI.out.cell HCS.out.2.2.2.2.1
        by_cases hlt : i < p.at'.length
        · obtain ⟨x1, y1, rfl, hk1, rfl, _, _⟩ := HA.out.1.at hlt
          obtain ⟨x2, y2, rfl, hk2, rfl, _, _⟩ := HA.out.2.at hlt
          have hk1' := HI.out.cell hk1
          have hk2' := HI.out.cell hk2
          go_wp2_with fail
          go_quiet (fail)
          go_wp2_with fail
          go_roundw
          case rel => exact ⟨i + 1, by omega, by go_num, HI.out.drewN nq⟩
          case measure => simp [intOf]; omega
        · obtain rfl : i = p.at'.length := by omega
          go_wp2_with fail
          clear a3 b3
          go_loopw [8] (fun vi wr => ∃ i : Nat, i ≤ p.ch.length ∧ vi = .int .i64 i ∧ Hid (Ext w1 wr)) (fun vi _ => p.ch.length - (intOf vi).toNat)
          case atStart => exact ⟨0, Nat.zero_le _, rfl, HI.out⟩
          case round =>
            obtain ⟨i, hi, rfl, HI⟩ := hrel
            have a4 := HI.out.cell HCS.out.2.2.1
            have b4 := HI.out.cell HCS.out.2.2.2.2.2
            by_cases hlt : i < p.ch.length
            · obtain ⟨x1, y1, rfl, hk1, rfl, _, _⟩ := HC.out.1.at hlt
              obtain ⟨x2, y2, rfl, hk2, rfl, _, _⟩ := HC.out.2.at hlt
              have hk1' := HI.out.cell hk1
              have hk2' := HI.out.cell hk2
              go_wp2_with fail
              go_quiet (fail)
              go_wp2_with fail
              go_roundw
              case rel => exact ⟨i + 1, by omega, by go_num, HI.out.drewN nq⟩
              case measure => simp [intOf]; omega
            · obtain rfl : i = p.ch.length := by omega
              go_wp2_with fail
              go_ret
              exact ⟨rfl, HX.out.trans HI.out⟩
end Go.Proofs.YtaemjkfmbnhaoaaDoor
