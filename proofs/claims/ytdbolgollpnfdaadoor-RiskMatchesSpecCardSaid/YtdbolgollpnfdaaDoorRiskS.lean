/- PERILS, in plain terms: sums over all sets of domains. -/
import Derived.Test.YtdbolgollpnfdaaDoorRiskN
namespace Rk
open Cd
def sumTo (f : Nat → Nat) : Nat → Nat
  | 0 => 0
  | k + 1 => sumTo f k + f k
theorem sumTo_congr {f g : Nat → Nat} : ∀ {k : Nat}, (∀ i, i < k → f i = g i) → sumTo f k = sumTo g k
  | 0, _ => rfl
  | k + 1, h => by rw [sumTo, sumTo, sumTo_congr (fun i hi => h i (by omega)), h k (by omega)]
theorem sumTo_le {f g : Nat → Nat} : ∀ {k : Nat}, (∀ i, i < k → f i ≤ g i) → sumTo f k ≤ sumTo g k
  | 0, _ => Nat.le_refl _
  | k + 1, h => Nat.add_le_add (sumTo_le (fun i hi => h i (by omega))) (h k (by omega))
theorem sumTo_add (f g : Nat → Nat) : ∀ k, sumTo (fun i => f i + g i) k = sumTo f k + sumTo g k
  | 0 => rfl
  | k + 1 => by rw [sumTo, sumTo, sumTo, sumTo_add f g k]; omega
theorem sumTo_mul (c : Nat) (f : Nat → Nat) : ∀ k, sumTo (fun i => c * f i) k = c * sumTo f k
  | 0 => rfl
  | k + 1 => by rw [sumTo, sumTo, sumTo_mul c f k, Nat.mul_add]
theorem sumTo_split (f : Nat → Nat) (a : Nat) : ∀ b, sumTo f (a + b) = sumTo f a + sumTo (fun i => f (a + i)) b
  | 0 => rfl
  | b + 1 => by rw [← Nat.add_assoc, sumTo, sumTo, sumTo_split f a b]; omega
theorem lossTo_sum (p : Pe) : ∀ k, lossTo p k = sumTo (fun f => if loses p f then weight p.ch f else 0) k
  | 0 => lossTo_zero p
  | k + 1 => by rw [lossTo_succ, lossTo_sum p k]; rfl
theorem bitAt_high {f k i : Nat} (h : i < k) : bitAt (2 ^ k + f) i = bitAt f i := by
  unfold bitAt
  have h1 : 2 ^ k = 2 ^ i * (2 * 2 ^ (k - i - 1)) := by
    rw [← Nat.pow_succ', ← Nat.pow_add]
    congr 1
    omega
  rw [h1, Nat.mul_add_div (Nat.two_pow_pos i), Nat.mul_add_mod]
theorem bitAt_top {f k : Nat} (h : f < 2 ^ k) : bitAt (2 ^ k + f) k = 1 := by
  unfold bitAt
  rw [Nat.add_div_left _ (Nat.two_pow_pos k), Nat.div_eq_of_lt h]
theorem bitAt_none {f k : Nat} (h : f < 2 ^ k) : bitAt f k = 0 := by
  unfold bitAt
  rw [Nat.div_eq_of_lt h]
theorem weightTo_high (ch : List Int) (f k : Nat) : ∀ j, j ≤ k → weightTo ch (2 ^ k + f) j = weightTo ch f j
  | 0, _ => by rw [weightTo_zero, weightTo_zero]
  | j + 1, h => by rw [weightTo_succ, weightTo_succ, weightTo_high ch f k j (by omega), bitAt_high (by omega)]
theorem weight_total {ch : List Int} (h : ∀ c ∈ ch, 0 ≤ c ∧ c ≤ 16) : ∀ k, k ≤ ch.length → sumTo (fun f => weightTo ch f k) (2 ^ k) = 16 ^ k
  | 0, _ => by
    show sumTo _ 1 = 1
    rw [sumTo, sumTo, weightTo_zero]
  | k + 1, hk => by
    have ih := weight_total h k (by omega)
    rw [show 2 ^ (k + 1) = 2 ^ k + 2 ^ k from by rw [Nat.pow_succ]; omega, sumTo_split]
    have hc : 0 ≤ ch.getD k 0 ∧ ch.getD k 0 ≤ 16 := by
      rw [List.getD_eq_getElem?_getD, List.getElem?_eq_getElem (by omega)]
      exact h _ (List.getElem_mem _)
    have e1 : sumTo (fun f => weightTo ch f (k + 1)) (2 ^ k) = (16 - (ch.getD k 0).toNat) * 16 ^ k := by
      rw [← ih, ← sumTo_mul]
      refine sumTo_congr fun f hf => ?_
      rw [weightTo_succ, bitAt_none hf, factor_zero rfl, Nat.mul_comm]
    have e2 : sumTo (fun f => weightTo ch (2 ^ k + f) (k + 1)) (2 ^ k) = (ch.getD k 0).toNat * 16 ^ k := by
      rw [← ih, ← sumTo_mul]
      refine sumTo_congr fun f hf => ?_
      rw [weightTo_succ, bitAt_top hf, factor_one (by decide), weightTo_high _ _ _ _ (Nat.le_refl k), Nat.mul_comm]
    rw [e1, e2, ← Nat.add_mul, Nat.pow_succ, Nat.mul_comm]
    congr 1
    omega
theorem loss_le {p : Pe} (h : ∀ c ∈ p.ch, 0 ≤ c ∧ c ≤ 16) : loss p ≤ 16 ^ p.ch.length := by
  rw [loss_def, lossTo_sum, ← weight_total h p.ch.length (Nat.le_refl _)]
  refine sumTo_le fun f _ => ?_
  rw [← weight_def]
  split
  · exact Nat.le_refl _
  · exact Nat.zero_le _
/-- The chance in millionths, rounded up. -/
def mill (p : Pe) : Nat := if check p = 0 then (loss p * 1000 / 16 ^ p.ch.length) * 1000 + (loss p * 1000 % 16 ^ p.ch.length * 1000 + 16 ^ p.ch.length - 1) / 16 ^ p.ch.length else 0
theorem mill_ok {p : Pe} (h : check p = 0) : mill p = (loss p * 1000 / 16 ^ p.ch.length) * 1000 + (loss p * 1000 % 16 ^ p.ch.length * 1000 + 16 ^ p.ch.length - 1) / 16 ^ p.ch.length := if_pos h
theorem mill_no {p : Pe} (h : check p ≠ 0) : mill p = 0 := if_neg h
/-- The sign of a difference. -/
def sign (x y : Nat) : Int := if x < y then -1 else if y < x then 1 else 0
def cmp (p q : Pe) : Int × Int :=
  if check p ≠ 0 then (0, check p) else if check q ≠ 0 then (0, check q)
  else (sign (loss p * 16 ^ (q.ch.length - p.ch.length)) (loss q * 16 ^ (p.ch.length - q.ch.length)), 0)
theorem cmp_no {p q : Pe} (h : check p ≠ 0) : cmp p q = (0, check p) := if_pos h
theorem cmp_no2 {p q : Pe} (h : check p = 0) (h2 : check q ≠ 0) : cmp p q = (0, check q) := by rw [cmp, if_neg (by simp [h]), if_pos h2]
theorem cmp_ok {p q : Pe} (h : check p = 0) (h2 : check q = 0) : cmp p q = (sign (loss p * 16 ^ (q.ch.length - p.ch.length)) (loss q * 16 ^ (p.ch.length - q.ch.length)), 0) := by rw [cmp, if_neg (by simp [h]), if_neg (by simp [h2])]
attribute [irreducible] mill cmp
end Rk
