/- THE FIELD OVER BYTES: what the walks return, as bytes and strings of bytes. No program in sight. -/
import Derived.Test.YtdbolgollpnfdaaDoorGf
import Derived.Test.YtdbolgollpnfdaaDoorLib
namespace Gf
/-- The product of two bytes. -/
def mul (a b : UInt8) : UInt8 := UInt8.ofNat (mulN a.toNat b.toNat)
theorem lt8 (a : UInt8) : a.toNat < 256 := a.toNat_lt
theorem mul_toNat (a b : UInt8) : (mul a b).toNat = mulN a.toNat b.toNat := by
  unfold mul
  have := mulN_lt (a := a.toNat) (b := b.toNat) (lt8 a)
  simp
  omega
theorem mulI_toNat (a b : UInt8) : mulI (a.toNat : Int) (b.toNat : Int) = ((mul a b).toNat : Int) := by rw [mulI_nat, mul_toNat]
theorem mul_comm (a b : UInt8) : mul a b = mul b a := by rw [← UInt8.toNat_inj, mul_toNat, mul_toNat, mulN_comm (lt8 a) (lt8 b)]
theorem mul_assoc (a b c : UInt8) : mul (mul a b) c = mul a (mul b c) := by rw [← UInt8.toNat_inj]; simp only [mul_toNat]; exact mulN_assoc (lt8 a) (lt8 b) (lt8 c)
theorem mul_zero (a : UInt8) : mul a 0 = 0 := by rw [← UInt8.toNat_inj, mul_toNat]; exact mulN_zero2 _
theorem zero_mul (a : UInt8) : mul 0 a = 0 := by rw [mul_comm, mul_zero]
theorem mul_one (a : UInt8) : mul a 1 = a := by rw [← UInt8.toNat_inj, mul_toNat]; exact mulN_one2 (lt8 a)
theorem one_mul (a : UInt8) : mul 1 a = a := by rw [mul_comm, mul_one]
theorem mul_xor (a b c : UInt8) : mul a (b ^^^ c) = mul a b ^^^ mul a c := by rw [← UInt8.toNat_inj]; simp only [mul_toNat, UInt8.toNat_xor]; exact mulN_lin2 _ _ _ (lt8 b) (lt8 c)
theorem xor_mul (a b c : UInt8) : mul (a ^^^ b) c = mul a c ^^^ mul b c := by rw [mul_comm, mul_xor, mul_comm c a, mul_comm c b]
theorem mul_eq_zero {a b : UInt8} : mul a b = 0 ↔ a = 0 ∨ b = 0 := by
  rw [← UInt8.toNat_inj, mul_toNat, ← UInt8.toNat_inj (a := a), ← UInt8.toNat_inj (a := b)]
  exact mulN_eq_zero (lt8 a) (lt8 b)
/-- The inverse; 0 for 0. -/
def inv (a : UInt8) : UInt8 := UInt8.ofNat (invN a.toNat)
theorem inv_toNat (a : UInt8) : (inv a).toNat = invN a.toNat := by
  unfold inv
  have := invN_lt a.toNat
  simp
  omega
theorem mul_inv {a : UInt8} (h : a ≠ 0) : mul a (inv a) = 1 := by
  rw [← UInt8.toNat_inj, mul_toNat, inv_toNat]
  exact Gf.mul_invN (lt8 a) (fun e => h (by rw [← UInt8.toNat_inj]; exact e))
theorem inv_mul {a : UInt8} (h : a ≠ 0) : mul (inv a) a = 1 := by rw [mul_comm, mul_inv h]
theorem xor_assoc (a b c : UInt8) : a ^^^ b ^^^ c = a ^^^ (b ^^^ c) := UInt8.xor_assoc a b c
theorem xor_comm (a b : UInt8) : a ^^^ b = b ^^^ a := UInt8.xor_comm a b

/-- The sum of two strings, the shorter one filled up with zeros. -/
def sum (s t : List UInt8) : List UInt8 := (List.range (max s.length t.length)).map fun k => s.getD k 0 ^^^ t.getD k 0
def scale (c : UInt8) (s : List UInt8) : List UInt8 := s.map (mul c)
/-- The byte at place k of the sum of the strings with coefficients, from the first n of them. -/
def comb (coef : List UInt8) (parts : List (List UInt8)) (k : Nat) : Nat → UInt8
  | 0 => 0
  | n + 1 => comb coef parts k n ^^^ mul (coef.getD n 0) ((parts.getD n []).getD k 0)
/-- Combine's string. -/
def combine (coef : List UInt8) (parts : List (List UInt8)) : List UInt8 := (List.range (parts.headD []).length).map fun k => comb coef parts k coef.length
/-- Whether Combine takes its arguments. -/
def combOk (coef : List UInt8) (parts : List (List UInt8)) : Bool := coef.length == parts.length && parts.all fun p => p.length == (parts.headD []).length
/-- Both results of Combine. -/
def combS (coef : List UInt8) (parts : List (List UInt8)) : List UInt8 := if combOk coef parts then combine coef parts else []
def combE (coef : List UInt8) (parts : List (List UInt8)) : Int := if combOk coef parts then 0 else 1
theorem combS_ok {coef : List UInt8} {parts : List (List UInt8)} (h : combOk coef parts = true) : combS coef parts = combine coef parts := if_pos h
theorem combS_no {coef : List UInt8} {parts : List (List UInt8)} (h : combOk coef parts = false) : combS coef parts = [] := if_neg (by rw [h]; simp)
theorem combE_ok {coef : List UInt8} {parts : List (List UInt8)} (h : combOk coef parts = true) : combE coef parts = 0 := if_pos h
theorem combE_no {coef : List UInt8} {parts : List (List UInt8)} (h : combOk coef parts = false) : combE coef parts = 1 := if_neg (by rw [h]; simp)
theorem combOk_ne {coef : List UInt8} {parts : List (List UInt8)} (h : coef.length ≠ parts.length) : combOk coef parts = false := by
  unfold combOk
  rw [show (coef.length == parts.length) = false from by simpa using h]
  rfl
attribute [irreducible] combS combE mul inv
end Gf
