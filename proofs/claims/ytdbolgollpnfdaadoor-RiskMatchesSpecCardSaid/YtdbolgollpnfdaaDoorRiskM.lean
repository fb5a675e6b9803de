/- THE WALKS over Total, Lost, Loss. -/
import Derived.Test.YtdbolgollpnfdaaDoorRiskL
namespace Rk
def total (p : Pe) : Nat := if check p = 0 then 16 ^ p.ch.length else 0
theorem total_ok {p : Pe} (h : check p = 0) : total p = 16 ^ p.ch.length := if_pos h
theorem total_no {p : Pe} (h : check p ≠ 0) : total p = 0 := if_neg h
def lossOf (p : Pe) : Nat := if check p = 0 then loss p else 0
theorem lossOf_ok {p : Pe} (h : check p = 0) : lossOf p = loss p := if_pos h
theorem lossOf_no {p : Pe} (h : check p ≠ 0) : lossOf p = 0 := if_neg h
/-- Lost: the answer and the error. -/
def lost (p : Pe) (f : Int) : Bool × Int :=
  if check p ≠ 0 then (false, check p) else if f < 0 ∨ ((2 ^ p.ch.length : Nat) : Int) ≤ f then (false, 1) else (loses p f.toNat, 0)
theorem lost_no {p : Pe} {f : Int} (h : check p ≠ 0) : lost p f = (false, check p) := if_pos h
theorem lost_arg {p : Pe} {f : Int} (h : check p = 0) (h2 : f < 0 ∨ ((2 ^ p.ch.length : Nat) : Int) ≤ f) : lost p f = (false, 1) := by rw [lost, if_neg (by simp [h]), if_pos h2]
theorem lost_ok {p : Pe} {f : Nat} (h : check p = 0) (h2 : f < 2 ^ p.ch.length) : lost p f = (loses p f, 0) := by rw [lost, if_neg (by simp [h]), if_neg (by omega)]; rfl
attribute [irreducible] total lossOf lost
end Rk
namespace Go.Proofs.YtdbolgollpnfdaaDoor
open Go.RowKit
theorem ret_two {a b c d : Value} (h : a = c) (h2 : b = d) : Ending.returned (.tuple #[a, b]) = .returned (.tuple #[c, d]) := by rw [h, h2]
theorem v_int {k : IntKind} {a b : Int} (h : a = b) : Value.int k a = .int k b := by rw [h]
theorem v_bool {a b : Bool} (h : a = b) : Value.bool a = .bool b := by rw [h]
theorem RP.box {w : World} {v : Value} {p : Rk.Pe} (h : RP w v p) : Box (w.alloc (.cells v.cells 27)) w.heap.size p ∧ v.cells.size = 5 := by
  obtain ⟨G, T, C, rfl, hG, hT, hC⟩ := h
  have hx1 := (Ext.refl w).alloc (.cells #[.int .i64 p.d, G, .int .i64 p.gl, T, C] 27)
  refine ⟨⟨G, T, C, ?_, ?_, ?_, ?_, ?_, Rs.ext (Rs.ext RI.ext) _ _ _ _ hx1 hG, Rs.ext RI.ext _ _ _ _ hx1 hT, Rs.ext RI.ext _ _ _ _ hx1 hC⟩, rfl⟩
  all_goals go_simp
theorem pow4 (n : Nat) : 2 ^ (4 * n) = 16 ^ n := by rw [Nat.pow_mul]
theorem kTotal_any (p : Rk.Pe) (v : Value) (w : World) (hv : RP w v p) :
    Calls Tryd.prog 7 #[v] w fun e w' => e = .returned (.tuple #[.int .i64 (Rk.total p : Nat), .int .i64 (Rk.check p)]) ∧ Ext w w' := by
  have hb := hv.box.1
  obtain ⟨G, T, C, rfl, hG, hT, hC⟩ := hv
  have hx0 := (Ext.refl w).alloc (.cells #[.int .i64 p.d, G, .int .i64 p.gl, T, C] 27)
  have hrp : RP (w.alloc (.cells #[.int .i64 p.d, G, .int .i64 p.gl, T, C] 27)) (.agg #[.int .i64 p.d, G, .int .i64 p.gl, T, C]) p := ⟨G, T, C, rfl, Rs.ext (Rs.ext RI.ext) _ _ _ _ hx0 hG, Rs.ext RI.ext _ _ _ _ hx0 hT, Rs.ext RI.ext _ _ _ _ hx0 hC⟩
  have HRP := Lib.hid (And.intro hrp hx0)
  obtain ⟨A3, c3, rfl, hl3⟩ := hC.form
  clear hG hT hC hb hrp hx0
  by_cases h0 : Rk.check p = 0
  · have e1 : (Rk.check p != 0) = false := by rw [h0]; rfl
    have ho := Rk.ok_of h0
    have hfew := ho.few
    have ht := Rk.total_ok h0
    have hp16 : (16 : Nat) ^ p.ch.length ≤ 16 ^ 12 := Nat.pow_le_pow_right (by omega) hfew
    have HTT := Lib.hid (And.intro ht (And.intro hp16 h0))
    clear ht hp16 h0 ho
    go_enter Tryd.func7, Tryd.ntmps7
    go_wp2_with fail
    refine (kCheck_any p _ _ HRP.out.1).mono ?_
    rintro e w1 ⟨rfl, hx1⟩
    have hc4 : w1.cell? ⟨w.heap.size, 4, none⟩ = some (.slice A3 p.ch.length c3) := hx1.cell (by go_simp)
    have HX1 := Lib.hid (HRP.out.2.trans hx1)
    clear hx1
    go_wp2_with fail
    go_ret2
    exact ⟨ret_two (v_int (by rw [HTT.out.1, wrap_pow _ (by omega), pow4])) (v_int HTT.out.2.2.symm), HX1.out⟩
  · have e1 : (Rk.check p != 0) = true := by rw [bne_iff_ne]; exact h0
    have HP := Lib.hid (Rk.total_no h0)
    clear h0
    go_enter Tryd.func7, Tryd.ntmps7
    go_wp2_with fail
    refine (kCheck_any p _ _ HRP.out.1).mono ?_
    rintro e w1 ⟨rfl, hx1⟩
    have HX1 := Lib.hid (HRP.out.2.trans hx1)
    clear hx1
    go_wp2_with fail
    go_ret2
    exact ⟨ret_two (v_int (by rw [HP.out]; rfl)) rfl, HX1.out⟩
theorem kLost_any (p : Rk.Pe) (f : Int) (v : Value) (w : World) (hT : Tab w) (hv : RP w v p) :
    Calls Tryd.prog 8 #[v, .int .i64 f] w fun e w' => e = .returned (.tuple #[.bool (Rk.lost p f).1, .int .i64 (Rk.lost p f).2]) ∧ Ext w w' := by
  obtain ⟨G, T, C, rfl, hG, hTT, hC⟩ := hv
  have hx0 := (Ext.refl w).alloc (.cells #[.int .i64 p.d, G, .int .i64 p.gl, T, C] 27)
  have hrp : RP (w.alloc (.cells #[.int .i64 p.d, G, .int .i64 p.gl, T, C] 27)) (.agg #[.int .i64 p.d, G, .int .i64 p.gl, T, C]) p := ⟨G, T, C, rfl, Rs.ext (Rs.ext RI.ext) _ _ _ _ hx0 hG, Rs.ext RI.ext _ _ _ _ hx0 hTT, Rs.ext RI.ext _ _ _ _ hx0 hC⟩
  have HRP := Lib.hid (And.intro hrp hx0)
  have HT := Lib.hid (hT.ext hx0)
  obtain ⟨A3, c3, rfl, hl3⟩ := hC.form
  clear hG hTT hC hrp hx0 hT
  by_cases h0 : Rk.check p = 0
  · have e1 : (Rk.check p != 0) = false := by rw [h0]; rfl
    have ho := Rk.ok_of h0
    have hfew := ho.few
    have HOK := Lib.hid (And.intro ho h0)
    by_cases hf : f < 0 ∨ ((2 ^ p.ch.length : Nat) : Int) ≤ f
    · have hl := Rk.lost_arg h0 hf
      have HLO := Lib.hid hl
      by_cases hf0 : f < 0
      · clear h0 ho hf hl
        go_enter Tryd.func8, Tryd.ntmps8
        go_wp2_with fail
        refine (kCheck_any p _ _ HRP.out.1).mono ?_
        rintro e w1 ⟨rfl, hx1⟩
        have hc4 : w1.cell? ⟨w.heap.size, 4, none⟩ = some (.slice A3 p.ch.length c3) := hx1.cell (by go_simp)
        have HX1 := Lib.hid (HRP.out.2.trans hx1)
        clear hx1
        go_wp2_with fail
        go_ret2
        exact ⟨ret_two (v_bool (by rw [HLO.out])) (v_int (by rw [HLO.out])), HX1.out⟩
      · have e2 : (wrap64 (2 ^ p.ch.length) ≤ f) = True := by
          rw [wrap_pow _ (by omega)]
          exact eq_true (by omega)
        clear h0 ho hf hl
        go_enter Tryd.func8, Tryd.ntmps8
        go_wp2_with fail
        refine (kCheck_any p _ _ HRP.out.1).mono ?_
        rintro e w1 ⟨rfl, hx1⟩
        have hc4 : w1.cell? ⟨w.heap.size, 4, none⟩ = some (.slice A3 p.ch.length c3) := hx1.cell (by go_simp)
        have HX1 := Lib.hid (HRP.out.2.trans hx1)
        clear hx1
        go_wp2_with fail
        go_ret2
        exact ⟨ret_two (v_bool (by rw [HLO.out])) (v_int (by rw [HLO.out])), HX1.out⟩
    · obtain ⟨k, rfl⟩ : ∃ k : Nat, f = k := ⟨f.toNat, by omega⟩
      have hk : k < 2 ^ p.ch.length := by omega
      have h12 : 2 ^ p.ch.length ≤ 2 ^ 12 := Nat.pow_le_pow_right (by omega) hfew
      have hk2 : k < 4096 := by omega
      have hl := Rk.lost_ok h0 hk
      have HLO := Lib.hid (And.intro hl hk2)
      have e2 : (wrap64 (2 ^ p.ch.length) ≤ (k : Int)) = False := by
        rw [wrap_pow _ (by omega)]
        exact eq_false (by omega)
      clear h0 ho hf hl hk h12 hk2
      go_enter Tryd.func8, Tryd.ntmps8
      go_wp2_with fail
      refine (kCheck_any p _ _ HRP.out.1).mono ?_
      rintro e w1 ⟨rfl, hx1⟩
      have hc0 : w1.cell? ⟨w.heap.size, 0, none⟩ = some (.int .i64 p.d) := hx1.cell (by go_simp)
      have hc1 : w1.cell? ⟨w.heap.size, 1, none⟩ = some G := hx1.cell (by go_simp)
      have hc2 : w1.cell? ⟨w.heap.size, 2, none⟩ = some (.int .i64 p.gl) := hx1.cell (by go_simp)
      have hc3 : w1.cell? ⟨w.heap.size, 3, none⟩ = some T := hx1.cell (by go_simp)
      have hc4 : w1.cell? ⟨w.heap.size, 4, none⟩ = some (.slice A3 p.ch.length c3) := hx1.cell (by go_simp)
      have HX1 := Lib.hid (HRP.out.2.trans hx1)
      have HT1 := Lib.hid (HT.out.ext hx1)
      have HR1 := Lib.hid (RP.ext _ _ _ _ hx1 HRP.out.1)
      clear hx1
      go_wp2_with fail
      refine (kLooser_any p _ _ HR1.out).mono ?_
      rintro e w2 ⟨P, Q, b, rfl, hB, hK⟩
      have HBK := Lib.hid (And.intro hB hK)
      clear hB hK
      go_wp2_with fail
      refine (kLoses_any w1 w2 P Q b 0 p k HT1.out HBK.out.2 HBK.out.1 (by omega) HOK.out.1 HLO.out.2).mono ?_
      rintro e w3 ⟨rfl, hK3, hB3⟩
      have HX3 := Lib.hid (HX1.out.trans hK3.ext)
      clear hK3 hB3
      go_wp2_with fail
      go_ret2
      exact ⟨ret_two (v_bool (by rw [HLO.out.1])) (v_int (by rw [HLO.out.1])), HX3.out⟩
  · have e1 : (Rk.check p != 0) = true := by rw [bne_iff_ne]; exact h0
    have HP := Lib.hid (Rk.lost_no (f := f) h0)
    clear h0
    go_enter Tryd.func8, Tryd.ntmps8
    go_wp2_with fail
    refine (kCheck_any p _ _ HRP.out.1).mono ?_
    rintro e w1 ⟨rfl, hx1⟩
    have HX1 := Lib.hid (HRP.out.2.trans hx1)
    clear hx1
    go_wp2_with fail
    go_ret2
    exact ⟨ret_two (v_bool (by rw [HP.out])) (v_int (by rw [HP.out])), HX1.out⟩
end Go.Proofs.YtdbolgollpnfdaaDoor
