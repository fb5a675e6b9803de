/- THE LAW RiskIsMonotone: its walk. -/
import Derived.Test.YtaemjkfmbnhaoaaDoorRiskV
import Derived.Test.YtaemjkfmbnhaoaaDoorRiskU
import Derived.Test.YtaemjkfmbnhaoaaDoorRiskR
namespace Go.Proofs.YtaemjkfmbnhaoaaDoor
open Go.RowKit
theorem mono_nums {X M m : Nat} (hle : X ≤ M) (hpos : 0 < M) (h16 : M ≤ 68719476736) (hb : X * 1000000 ≤ m * M ∧ (0 < m → (m - 1) * M < X * 1000000)) :
    0 ≤ (X : Int) ∧ (X : Int) ≤ (M : Int) ∧ (M : Int) ≤ 68719476736 ∧ 1 ≤ (M : Int) ∧ 0 ≤ (m : Int) ∧ (m : Int) ≤ 1000000 ∧
      (∃ P : Int, wrap64 ((m : Int) * (M : Int)) = P ∧ (X : Int) * 1000000 ≤ P) ∧
      (0 < (m : Int) → ∃ Q : Int, wrap64 (((m : Int) - 1) * (M : Int)) = Q ∧ Q < (X : Int) * 1000000) := by
  have hm6 : m ≤ 1000000 := by
    rcases Nat.lt_or_ge 1000000 m with h | h
    · exfalso
      have h1 := hb.2 (by omega)
      have h2 : 1000000 * M ≤ (m - 1) * M := Nat.mul_le_mul_right _ (by omega)
      omega
    · exact h
  have hP : m * M ≤ 1000000 * 68719476736 := Nat.mul_le_mul hm6 h16
  have hQ : (m - 1) * M ≤ 1000000 * 68719476736 := Nat.mul_le_mul (by omega) h16
  refine ⟨by omega, by omega, by omega, by omega, by omega, by omega, ⟨((m * M : Nat) : Int), ?_, ?_⟩, fun h => ⟨(((m - 1) * M : Nat) : Int), ?_, ?_⟩⟩
  · rw [← Int.natCast_mul]
    exact wrap_nat _ (Nat.lt_of_le_of_lt hP (by decide))
  · have := hb.1
    omega
  · have e : ((m : Int) - 1) = ((m - 1 : Nat) : Int) := by omega
    rw [e, ← Int.natCast_mul]
    exact wrap_nat _ (Nat.lt_of_le_of_lt hQ (by decide))
  · have := hb.2 (by omega)
    omega
theorem at_len {p : Rk.Pe} (h : Rk.check p = 0) : 0 < p.at'.length ∧ p.at'.length ≤ 24 := by
  have ho := Rk.ok_of h
  have hk := Cd.check_ok ho.code
  have := ho.len
  omega
theorem rem_range {a : Nat} {c : Int} (h : 0 ≤ c ∧ c ≤ 16) : ∃ r : Int, (a : Int).tmod (17 - c) = r ∧ 0 ≤ r ∧ r < 17 - c := by
  obtain ⟨k, hk⟩ : ∃ k : Nat, 17 - c = k := ⟨(17 - c).toNat, by omega⟩
  rw [hk]
  refine ⟨((a % k : Nat) : Int), rem_nat, by omega, ?_⟩
  have := Nat.mod_lt a (show 0 < k by omega)
  omega
theorem set_or {l : List Int} {k : Nat} (i : Nat) : (l.set k (-1)).getD i (-1) = l.getD i (-1) ∨ (l.set k (-1)).getD i (-1) = -1 := by
  rw [List.getD_eq_getElem?_getD, List.getD_eq_getElem?_getD, List.getElem?_set]
  split
  · split
    · exact .inr rfl
    · rename_i h1 h2
      subst h1
      rw [List.getElem?_eq_none (by omega)]
      exact .inl rfl
  · exact .inl rfl
theorem at_set {p : Rk.Pe} (h : Rk.check p = 0) (k : Nat) : ∀ x ∈ p.at'.set k (-1), -9223372036854775808 ≤ x ∧ x ≤ 9223372036854775807 := fun x hx => by
  have ho := Rk.ok_of h
  have hf := ho.few
  rcases List.mem_or_eq_of_mem_set hx with h1 | rfl
  · have := ho.at_ok x h1; omega
  · omega
theorem ch_ok {p : Rk.Pe} (h : Rk.check p = 0) : ∀ x ∈ p.ch, -9223372036854775808 ≤ x ∧ x ≤ 9223372036854775807 := fun x hx => by
  have := (Rk.ok_of h).ch_ok x hx
  omega
theorem wrap_two (n : Nat) (h : n < 62) : IntKind.i64.wrap (2 ^ n) = ((2 ^ n : Nat) : Int) := by
  rw [nat_pow_cast]
  have h1 := pow_lt62 n h
  exact wrap_small _ (Int.natCast_nonneg _) (by omega)
/-- The numbers of a peril of few domains: Loss, Total, Millionths. -/
theorem mono_facts {p : Rk.Pe} (h0 : Rk.check p = 0) (h9 : p.ch.length ≤ 9) :
    0 ≤ ((Rk.lossOf p : Nat) : Int) ∧ ((Rk.lossOf p : Nat) : Int) ≤ ((Rk.total p : Nat) : Int) ∧ ((Rk.total p : Nat) : Int) ≤ 68719476736 ∧ 1 ≤ ((Rk.total p : Nat) : Int) ∧ 0 ≤ ((Rk.mill p : Nat) : Int) ∧ ((Rk.mill p : Nat) : Int) ≤ 1000000 ∧
      (∃ P : Int, wrap64 (((Rk.mill p : Nat) : Int) * ((Rk.total p : Nat) : Int)) = P ∧ ((Rk.lossOf p : Nat) : Int) * 1000000 ≤ P) ∧
      (0 < ((Rk.mill p : Nat) : Int) → ∃ Q : Int, wrap64 ((((Rk.mill p : Nat) : Int) - 1) * ((Rk.total p : Nat) : Int)) = Q ∧ Q < ((Rk.lossOf p : Nat) : Int) * 1000000) := by
  have ho := Rk.ok_of h0
  have hle := Rk.loss_le ho.ch_ok
  have hpos : 0 < (16 : Nat) ^ p.ch.length := Nat.pow_pos (by omega)
  have h16 : (16 : Nat) ^ p.ch.length ≤ 16 ^ 9 := Nat.pow_le_pow_right (by omega) h9
  have hb := Rk.mill_bounds hpos (Rk.mill_ok h0)
  rw [Rk.lossOf_ok h0, Rk.total_ok h0]
  obtain ⟨X, hX⟩ : ∃ X, Rk.loss p = X := ⟨_, rfl⟩
  obtain ⟨M, hM⟩ : ∃ M, (16 : Nat) ^ p.ch.length = M := ⟨_, rfl⟩
  obtain ⟨m, hm⟩ : ∃ m, Rk.mill p = m := ⟨_, rfl⟩
  rw [hX, hM, hm] at hb
  rw [hX, hM] at hle
  rw [hM] at hpos h16
  rw [hX, hM, hm]
  exact mono_nums hle hpos (Nat.le_trans h16 (by decide)) hb
end Go.Proofs.YtaemjkfmbnhaoaaDoor
