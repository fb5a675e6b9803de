/- PERILS, in plain terms: Least loses the chunk, and no lesser set does. -/
import Derived.Test.YtdbolgollpnfdaaDoorRiskX
namespace Rk
open Cd
theorem left_all {p : Pe} (h : Ok p) : left p.at' (2 ^ p.ch.length - 1) = 0 := by
  have key : ∀ k, k ≤ p.at'.length → leftTo p.at' (2 ^ p.ch.length - 1) k = 0 := by
    intro k
    induction k with
    | zero => intro _; exact leftTo_zero _ _
    | succ k ih =>
      intro hk
      rw [leftTo_succ, if_neg, ih (by omega)]
      rintro ⟨h1, h2⟩
      have hg : p.at'.getD k (-1) = p.at'[k] := by rw [List.getD_eq_getElem?_getD, List.getElem?_eq_getElem (by omega)]; rfl
      have hb := h.at_ok _ (List.getElem_mem (show k < p.at'.length by omega))
      rw [hg] at h1 h2
      obtain ⟨d, hd⟩ : ∃ d : Nat, p.at'[k] = d := ⟨p.at'[k].toNat, by omega⟩
      rw [hd] at hb h2
      have hdl : d < p.ch.length := by omega
      rw [Int.toNat_natCast] at h2
      unfold bitAt at h2
      have h3 : (2 ^ p.ch.length - 1).testBit d = true := by rw [Nat.testBit_two_pow_sub_one]; simpa using hdl
      rw [Nat.testBit_eq_decide_div_mod_eq] at h3
      simp [h2] at h3
  exact key _ (Nat.le_refl _)
theorem pick_zero (rows : List (List UInt8)) : pick rows 0 = [] := by
  have : ∀ k, pickTo rows 0 k = [] := by
    intro k
    induction k with
    | zero => rfl
    | succ k ih => rw [pickTo_no (by unfold bitAt; simp), ih]
  exact this _
theorem loses_all {p : Pe} (h : Ok p) : loses p (2 ^ p.ch.length - 1) = true := by
  rw [loses_def, left_all h]
  have hk := check_ok h.code
  unfold can
  have : Gf.stairs p.d.toNat (pick (rowsOf p.d p.gs p.gl) ((0 : Nat) : Int).toNat) = [] := by
    rw [Int.toNat_natCast, pick_zero]; rfl
  rw [this]
  simp
  omega
theorem least_loses {fst : Nat → Nat → Bool} {p : Pe} (h : Ok p) : ∀ k, loses p (leastTo fst p k) = true
  | 0 => by rw [leastTo_zero]; exact loses_all h
  | k + 1 => by
    have ih := least_loses (fst := fst) h k
    by_cases hc : (cnt k < cnt (leastTo fst p k) ∨ cnt k = cnt (leastTo fst p k) ∧ fst k (leastTo fst p k) = true)
    · cases hl : loses p k with
      | true => rw [leastTo_yes hc hl]; exact hl
      | false => rw [leastTo_not hl]; exact ih
    · rw [leastTo_no hc]; exact ih
theorem least_min {fst : Nat → Nat → Bool} {p : Pe} : ∀ k j, j < k → loses p j = true → cnt (leastTo fst p k) ≤ cnt j
  | 0, _, hj, _ => absurd hj (by omega)
  | k + 1, j, hj, hl => by
    by_cases hc : (cnt k < cnt (leastTo fst p k) ∨ cnt k = cnt (leastTo fst p k) ∧ fst k (leastTo fst p k) = true)
    · cases hlk : loses p k with
      | true =>
        rw [leastTo_yes hc hlk]
        rcases Nat.lt_or_ge j k with h1 | h1
        · have := least_min (fst := fst) k j h1 hl
          omega
        · obtain rfl : j = k := by omega
          exact Nat.le_refl _
      | false =>
        rw [leastTo_not hlk]
        rcases Nat.lt_or_ge j k with h1 | h1
        · exact least_min k j h1 hl
        · obtain rfl : j = k := by omega
          rw [hlk] at hl; cases hl
    · rw [leastTo_no hc]
      rcases Nat.lt_or_ge j k with h1 | h1
      · exact least_min k j h1 hl
      · obtain rfl : j = k := by omega
        omega
theorem low_all : (List.range 512).all (fun L => (List.range 9).all fun d => bitAt L d != 1 || (decide (2 ^ d ≤ L) && (cnt (L - 2 ^ d) + 1 == cnt L))) = true := by kernel_rfl
theorem low_cnt {L d : Nat} (hL : L < 512) (hd : d < 9) (hb : bitAt L d = 1) : 2 ^ d ≤ L ∧ cnt (L - 2 ^ d) + 1 = cnt L := by
  have h1 := List.all_eq_true.1 low_all L (by simpa using hL)
  have h2 := List.all_eq_true.1 h1 d (by simpa using hd)
  simp only [hb, bne_self_eq_false, Bool.false_or, Bool.and_eq_true, decide_eq_true_eq, beq_iff_eq] at h2
  exact h2
/-- Least: what the law says of it. -/
theorem least_spec {fst : Nat → Nat → Bool} {p : Pe} (h : check p = 0) : least fst p < 2 ^ p.ch.length ∧ loses p (least fst p) = true ∧ ∀ j, j < 2 ^ p.ch.length → loses p j = true → cnt (least fst p) ≤ cnt j := by
  rw [least_ok h]
  exact ⟨leastTo_lt _ _ _ (Nat.le_refl _), least_loses (ok_of h) _, least_min _⟩
theorem least_drop {fst : Nat → Nat → Bool} {p : Pe} (h : check p = 0) (h9 : p.ch.length ≤ 9) {d : Nat} (hd : d < p.ch.length) (hb : bitAt (least fst p) d = 1) :
    2 ^ d ≤ least fst p ∧ loses p (least fst p - 2 ^ d) = false := by
  obtain ⟨h1, h2, h3⟩ := least_spec (fst := fst) h
  have h512 : 2 ^ p.ch.length ≤ 2 ^ 9 := Nat.pow_le_pow_right (by omega) h9
  have hl := low_cnt (L := least fst p) (by omega) (by omega) hb
  refine ⟨hl.1, ?_⟩
  cases hlo : loses p (least fst p - 2 ^ d) with
  | false => rfl
  | true =>
    have := h3 _ (Nat.lt_of_le_of_lt (Nat.sub_le _ _) h1) hlo
    omega
theorem cntF_le : ∀ k n, cntF k n ≤ k
  | 0, _ => Nat.le_refl _
  | k + 1, n => by
    have := cntF_le k (n / 2)
    rw [cntF]
    omega
theorem cntF_more : ∀ k n, n < 2 ^ k → cntF (k + 1) n = cntF k n
  | 0, n, h => by
    obtain rfl : n = 0 := by omega
    rfl
  | k + 1, n, h => by
    rw [cntF, cntF_more k (n / 2) (by rw [Nat.pow_succ] at h; omega)]
    rfl
theorem cntF_step {n : Nat} (h : n < 65536) : cntF 16 n = n % 2 + cntF 16 (n / 2) := by
  rw [cntF_more 15 (n / 2) (by omega)]
  rfl
theorem cntF_zero : ∀ k, cntF k 0 = 0
  | 0 => rfl
  | k + 1 => by rw [cntF, Nat.zero_div, cntF_zero k]
end Rk
