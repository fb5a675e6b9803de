/- BITS of sets, in plain terms. -/
import Derived.Test.YtgkohfmgdejkpaaDoorCode
namespace Cd
open Gf
theorem bit_test (s i : Nat) : bitAt s i = 1 ↔ s.testBit i = true := by
  unfold bitAt
  rw [Nat.testBit_eq_decide_div_mod_eq, decide_eq_true_eq]
theorem bit_01 (s i : Nat) : bitAt s i = 0 ∨ bitAt s i = 1 := by unfold bitAt; omega
theorem bit_or (s i j : Nat) : bitAt (s ||| 2 ^ i) j = 1 ↔ bitAt s j = 1 ∨ j = i := by
  rw [bit_test, bit_test, Nat.testBit_or, Nat.testBit_two_pow, Bool.or_eq_true, decide_eq_true_eq]
  exact or_congr Iff.rfl eq_comm
theorem bit_set : ∀ (g : List Int) (s j : Nat), (∀ i ∈ g, 0 ≤ i) → (bitAt (setOf s g) j = 1 ↔ bitAt s j = 1 ∨ (j : Int) ∈ g)
  | [], s, j, _ => by rw [setOf_nil]; simp
  | i :: g, s, j, h => by
    have e : setOf s (i :: g) = setOf (s ||| 2 ^ i.toNat) g := by unfold setOf; rfl
    rw [e, bit_set g _ j fun x hx => h x (by simp [hx]), bit_or, List.mem_cons, or_assoc]
    have h0 := h i (by simp)
    have : j = i.toNat ↔ (j : Int) = i := by omega
    rw [this]
end Cd
