/- THE SPECIFICATION OF PERILS, in plain terms: before, millionths. -/
import Derived.Test.YtdbolgollpnfdaaDoorRiskT
import Derived.Test.YtdbolgollpnfdaaDoorRiskE
namespace Rk
/-- Which of two sets has the least element in which they differ, of the first n. -/
def bef : Nat → Nat → Nat → Bool
  | 0, _, _ => false
  | n + 1, a, b => if a % 2 ≠ b % 2 then decide (a % 2 = 1) else bef n (a / 2) (b / 2)
theorem bef_diff {n a b : Nat} (h : a % 2 ≠ b % 2) : bef (n + 1) a b = decide (a % 2 = 1) := if_pos h
theorem bef_same {n a b : Nat} (h : a % 2 = b % 2) : bef (n + 1) a b = bef n (a / 2) (b / 2) := if_neg (by simp [h])
theorem bef_eq : ∀ (n a : Nat), bef n a a = false
  | 0, _ => rfl
  | n + 1, a => by rw [bef_same rfl, bef_eq n]
/-- The least element of a set, as a set. -/
def lowN : Nat → Nat → Nat
  | 0, _ => 0
  | n + 1, x => if x % 2 = 1 then 1 else 2 * lowN n (x / 2)
theorem and_even (a y : Nat) : a &&& (2 * y) = 2 * (a / 2 &&& y) := by
  apply Nat.eq_of_testBit_eq
  intro i
  cases i with
  | zero => simp [Nat.testBit_zero]
  | succ i =>
    rw [Nat.testBit_and, Nat.testBit_succ, Nat.testBit_succ, Nat.testBit_succ]
    rw [Nat.mul_div_cancel_left _ (by decide : 0 < 2), Nat.mul_div_cancel_left _ (by decide : 0 < 2), Nat.testBit_and]
theorem xor_half (a b : Nat) : (a ^^^ b) / 2 = a / 2 ^^^ b / 2 := by
  apply Nat.eq_of_testBit_eq
  intro i
  rw [← Nat.testBit_succ, Nat.testBit_xor, Nat.testBit_xor, Nat.testBit_succ, Nat.testBit_succ]
theorem xor_low (a b : Nat) : (a ^^^ b) % 2 = (a % 2 + b % 2) % 2 := by
  have h := Nat.testBit_xor a b 0
  rw [Nat.testBit_zero, Nat.testBit_zero, Nat.testBit_zero] at h
  have ha := Nat.mod_two_eq_zero_or_one a
  have hb := Nat.mod_two_eq_zero_or_one b
  have hx := Nat.mod_two_eq_zero_or_one (a ^^^ b)
  rcases ha with ha | ha <;> rcases hb with hb | hb <;> rcases hx with hx | hx <;> simp only [ha, hb, hx] at h ⊢ <;> revert h <;> decide
/-- The first one has the least element in which they differ. -/
theorem bef_low : ∀ (n a b : Nat), bef n a b = decide (a &&& lowN n (a ^^^ b) ≠ 0)
  | 0, a, b => by simp [bef, lowN]
  | n + 1, a, b => by
    have hx := xor_low a b
    by_cases h : a % 2 = b % 2
    · have h0 : ¬ (a ^^^ b) % 2 = 1 := by omega
      rw [bef_same h, bef_low n, lowN, if_neg h0, and_even, xor_half]
      congr 1
      apply propext
      constructor
      · intro h1 h2; exact h1 (by omega)
      · intro h1 h2; exact h1 (by omega)
    · have h0 : (a ^^^ b) % 2 = 1 := by omega
      rw [bef_diff h, lowN, if_pos h0, Nat.and_one_is_mod]
      congr 1
      apply propext
      constructor <;> intro h1 <;> omega
/-- The digits of a quotient: what is out, and what is left, after k of them. -/
def digTo (x T : Nat) : Nat → Nat × Nat
  | 0 => (x / T, x % T)
  | k + 1 => ((digTo x T k).1 * 10 + (digTo x T k).2 * 10 / T, (digTo x T k).2 * 10 % T)
theorem digTo_zero (x T : Nat) : digTo x T 0 = (x / T, x % T) := rfl
theorem digTo_next (x T k : Nat) : digTo x T (k + 1) = ((digTo x T k).1 * 10 + (digTo x T k).2 * 10 / T, (digTo x T k).2 * 10 % T) := rfl
theorem digTo_law {x T : Nat} (hT : 0 < T) : ∀ k, (digTo x T k).1 * T + (digTo x T k).2 = x * 10 ^ k ∧ (digTo x T k).2 < T
  | 0 => by
    rw [digTo_zero]
    have := Nat.div_add_mod x T
    rw [Nat.mul_comm] at this
    exact ⟨by rw [Nat.pow_zero, Nat.mul_one]; exact this, Nat.mod_lt _ hT⟩
  | k + 1 => by
    obtain ⟨h1, h2⟩ := digTo_law (x := x) hT k
    rw [digTo_next]
    obtain ⟨o, ho⟩ : ∃ o, (digTo x T k).1 = o := ⟨_, rfl⟩
    obtain ⟨r, hr⟩ : ∃ r, (digTo x T k).2 = r := ⟨_, rfl⟩
    rw [ho, hr] at h1 ⊢
    have h3 := Nat.div_add_mod (r * 10) T
    refine ⟨?_, Nat.mod_lt _ hT⟩
    show (o * 10 + r * 10 / T) * T + r * 10 % T = x * 10 ^ (k + 1)
    rw [Nat.add_mul, Nat.pow_succ, ← Nat.mul_assoc, ← h1, Nat.add_mul]
    rw [Nat.mul_comm T] at h3
    have e1 : o * 10 * T = o * T * 10 := by rw [Nat.mul_assoc, Nat.mul_comm 10, ← Nat.mul_assoc]
    rw [e1]
    omega
def digs (x T : Nat) : Nat := if 0 < (digTo x T 6).2 then (digTo x T 6).1 + 1 else (digTo x T 6).1
/-- Two ways to round up are the same. -/
theorem up_one {T y a b : Nat} (ha : y ≤ a * T) (ha2 : a * T < y + T) (hb : y ≤ b * T) (hb2 : b * T < y + T) : a = b := by
  have key : ∀ {a b : Nat}, y ≤ a * T → b * T < y + T → b ≤ a := fun {a b} h1 h2 => by
    apply Classical.byContradiction
    intro h
    have h3 : (a + 1) * T ≤ b * T := Nat.mul_le_mul_right T (by omega)
    rw [Nat.succ_mul] at h3
    omega
  have := key ha hb2
  have := key hb ha2
  omega
theorem digs_up {x T : Nat} (hT : 0 < T) : x * 1000000 ≤ digs x T * T ∧ digs x T * T < x * 1000000 + T := by
  obtain ⟨h1, h2⟩ := digTo_law (x := x) hT 6
  unfold digs
  obtain ⟨o, ho⟩ : ∃ o, (digTo x T 6).1 = o := ⟨_, rfl⟩
  obtain ⟨r, hr⟩ : ∃ r, (digTo x T 6).2 = r := ⟨_, rfl⟩
  rw [ho, hr] at h1 ⊢
  rw [hr] at h2
  rw [show (10 : Nat) ^ 6 = 1000000 from rfl] at h1
  split
  · rw [Nat.succ_mul]; omega
  · omega
theorem mill_up {x T : Nat} (hT : 0 < T) : x * 1000000 ≤ ((x * 1000 / T) * 1000 + (x * 1000 % T * 1000 + T - 1) / T) * T ∧ ((x * 1000 / T) * 1000 + (x * 1000 % T * 1000 + T - 1) / T) * T < x * 1000000 + T := by
  obtain ⟨A, hA⟩ : ∃ A, x * 1000 / T = A := ⟨_, rfl⟩
  obtain ⟨B, hB⟩ : ∃ B, x * 1000 % T = B := ⟨_, rfl⟩
  have h1 := Nat.div_add_mod (x * 1000) T
  rw [hA, hB, Nat.mul_comm T A] at h1
  rw [hA, hB]
  obtain ⟨C, hC⟩ : ∃ C, (B * 1000 + T - 1) / T = C := ⟨_, rfl⟩
  have h2 := Nat.div_add_mod (B * 1000 + T - 1) T
  have h3 := Nat.mod_lt (B * 1000 + T - 1) hT
  rw [hC, Nat.mul_comm T C] at h2
  rw [hC, Nat.add_mul]
  have e1 : A * 1000 * T = A * T * 1000 := by rw [Nat.mul_assoc, Nat.mul_comm 1000, ← Nat.mul_assoc]
  rw [e1]
  omega
/-- Both ways to reckon the millionths are the same. -/
theorem mill_digs {p : Pe} (h : check p = 0) : mill p = digs (loss p) (16 ^ p.ch.length) := by
  have hT : 0 < 16 ^ p.ch.length := Nat.pow_pos (by decide)
  rw [mill_ok h]
  obtain ⟨a1, a2⟩ := mill_up (x := loss p) hT
  obtain ⟨b1, b2⟩ := digs_up (x := loss p) hT
  exact up_one a1 a2 b1 b2
end Rk
namespace Go.Proofs.YtdbolgollpnfdaaDoor
open Go.RowKit
theorem low_all : (List.range 4096).all (fun x => bits .and .i64 (x : Int) (-(x : Int)) == ((Rk.lowN 12 x : Nat) : Int)) = true := by kernel_rfl
theorem low_and {x : Nat} (h : x < 4096) : bits .and .i64 (x : Int) (-(x : Int)) = ((Rk.lowN 12 x : Nat) : Int) := by
  have := List.all_eq_true.1 low_all x (List.mem_range.2 h)
  simpa using this
theorem lowN_le : ∀ n x, Rk.lowN n x ≤ 2 ^ n
  | 0, _ => Nat.zero_le _
  | n + 1, x => by
    have ih := lowN_le n (x / 2)
    rw [Rk.lowN, Nat.pow_succ]
    split
    · have := Nat.two_pow_pos n; omega
    · omega
/-- What the program asks of two sets is what the specification asks. -/
theorem first_bef {a b : Nat} (ha : a < 4096) (hb : b < 4096) : firstB a b = Rk.bef 12 a b := by
  have hx : a ^^^ b < 4096 := Nat.xor_lt_two_pow (n := 12) ha hb
  have hl := lowN_le 12 (a ^^^ b)
  unfold firstB
  rw [low_and hx, and64 a _ (by omega) (by omega), Rk.bef_low]
  by_cases h : a &&& Rk.lowN 12 (a ^^^ b) = 0
  · rw [h]; simp
  · simp only [h, ne_eq, not_false_eq_true, decide_true]
    rw [bne_iff_ne]
    omega
end Go.Proofs.YtdbolgollpnfdaaDoor
