/- PERILS, in plain terms: copies of one piece; all pieces in one domain. -/
import Derived.Test.YtaemjkfmbnhaoaaDoorRiskV
namespace Rk
open Cd
/-- Are the first k domains of S all in f? -/
def subTo (S f : Nat) : Nat → Bool
  | 0 => true
  | k + 1 => subTo S f k && (!S.testBit k || f.testBit k)
theorem subTo_iff (S f : Nat) : ∀ k, subTo S f k = true ↔ ∀ i, i < k → S.testBit i = true → f.testBit i = true
  | 0 => ⟨fun _ i hi => absurd hi (by omega), fun _ => rfl⟩
  | k + 1 => by
    rw [subTo, Bool.and_eq_true, subTo_iff S f k]
    constructor
    · rintro ⟨h1, h2⟩ i hi hs
      rcases Nat.lt_or_ge i k with h3 | h3
      · exact h1 i h3 hs
      · obtain rfl : i = k := by omega
        rw [hs] at h2
        simpa using h2
    · intro h
      refine ⟨fun i hi => h i (by omega), ?_⟩
      cases hs : S.testBit k with
      | false => rfl
      | true => rw [h k (by omega) hs]; rfl
theorem subTo_high {S f k : Nat} (hf : f < 2 ^ k) : ∀ j, j ≤ k → subTo S (2 ^ k + f) j = subTo S f j
  | 0, _ => rfl
  | j + 1, h => by
    rw [subTo, subTo, subTo_high hf j (by omega)]
    have h1 := bitAt_high (f := f) (show j < k by omega)
    rw [bitAt_testBit, bitAt_testBit] at h1
    have : (2 ^ k + f).testBit j = f.testBit j := by
      cases ha : (2 ^ k + f).testBit j <;> cases hb : f.testBit j <;> rw [ha, hb] at h1 <;> first | rfl | cases h1
    rw [this]
/-- The product of the chances of the domains of S, times 16 for each other one: of the first k. -/
def prodTo (ch : List Int) (S : Nat) : Nat → Nat
  | 0 => 1
  | k + 1 => prodTo ch S k * (if S.testBit k then (ch.getD k 0).toNat else 16)
theorem sum_sub {ch : List Int} (h : ∀ c ∈ ch, 0 ≤ c ∧ c ≤ 16) (S : Nat) : ∀ k, k ≤ ch.length → sumTo (fun f => if subTo S f k then weightTo ch f k else 0) (2 ^ k) = prodTo ch S k
  | 0, _ => by
    show sumTo _ 1 = 1
    rw [sumTo, sumTo, weightTo_zero]
    rfl
  | k + 1, hk => by
    have ih := sum_sub h S k (by omega)
    rw [show 2 ^ (k + 1) = 2 ^ k + 2 ^ k from by rw [Nat.pow_succ]; omega, sumTo_split]
    have hc : 0 ≤ ch.getD k 0 ∧ ch.getD k 0 ≤ 16 := by
      rw [List.getD_eq_getElem?_getD, List.getElem?_eq_getElem (by omega)]
      exact h _ (List.getElem_mem _)
    have e2 : sumTo (fun f => if subTo S (2 ^ k + f) (k + 1) then weightTo ch (2 ^ k + f) (k + 1) else 0) (2 ^ k) = (ch.getD k 0).toNat * prodTo ch S k := by
      rw [← ih, ← sumTo_mul]
      refine sumTo_congr fun f hf => ?_
      have hb : (2 ^ k + f).testBit k = true := bit_one.1 (bitAt_top hf)
      rw [subTo, subTo_high hf k (Nat.le_refl k), hb, Bool.or_true, Bool.and_true]
      split
      · rw [weightTo_succ, bitAt_top hf, factor_one (by decide), weightTo_high _ _ _ _ (Nat.le_refl k), Nat.mul_comm]
      · rw [Nat.mul_zero]
    have e1 : sumTo (fun f => if subTo S f (k + 1) then weightTo ch f (k + 1) else 0) (2 ^ k) = (if S.testBit k then 0 else 16 - (ch.getD k 0).toNat) * prodTo ch S k := by
      rw [← ih, ← sumTo_mul]
      refine sumTo_congr fun f hf => ?_
      have hb : f.testBit k = false := bit_zero.1 (bitAt_none hf)
      rw [subTo, hb, Bool.or_false]
      cases hs : S.testBit k with
      | true => simp
      | false =>
        simp only [Bool.not_false, Bool.and_true]
        split
        · rw [weightTo_succ, bitAt_none hf, factor_zero rfl, Nat.mul_comm]; rfl
        · simp
    rw [e1, e2, ← Nat.add_mul, prodTo, Nat.mul_comm]
    congr 1
    obtain ⟨x, hx⟩ : ∃ x : Nat, (ch.getD k 0).toNat = x := ⟨_, rfl⟩
    have hx16 : x ≤ 16 := by omega
    rw [hx]
    clear e1 e2 ih hx hc
    cases S.testBit k with
    | true => simp
    | false => simp only [Bool.false_eq_true, if_false]; omega
/-- Loss, if exactly the sets that hold S lose the chunk. -/
theorem loss_sub {p : Pe} (h : ∀ c ∈ p.ch, 0 ≤ c ∧ c ≤ 16) (S : Nat) (hl : ∀ f, f < 2 ^ p.ch.length → loses p f = subTo S f p.ch.length) : loss p = prodTo p.ch S p.ch.length := by
  rw [loss_def, lossTo_sum, ← sum_sub h S p.ch.length (Nat.le_refl _)]
  refine sumTo_congr fun f hf => ?_
  rw [hl f hf, weight_def]
theorem can_one_all : (List.range 5).all (fun g => (List.range (2 ^ (g + 1))).all fun m => can 1 (g : Int) [] (m : Int) == decide (m ≠ 0)) = true := by kernel_rfl
/-- Copies of one piece: any of them does. -/
theorem can_one {g m : Nat} (hg : g < 5) (hm : m < 2 ^ (g + 1)) : can 1 (g : Int) [] (m : Int) = decide (m ≠ 0) := by
  have h1 := List.all_eq_true.1 can_one_all g (by simpa using hg)
  have h2 := List.all_eq_true.1 h1 m (by simpa using hm)
  simpa using h2
theorem left_zero {at' : List Int} {f : Nat} : left at' f = 0 ↔ ∀ i, i < at'.length → 0 ≤ at'.getD i (-1) → f.testBit (at'.getD i (-1)).toNat = true := by
  constructor
  · intro h i hi h0
    have := leftTo_bit at' f at'.length i
    rw [show leftTo at' f at'.length = 0 from h, Nat.zero_testBit] at this
    have h2 := of_decide_eq_false this.symm
    cases hf : f.testBit (at'.getD i (-1)).toNat with
    | true => rfl
    | false => exact absurd ⟨hi, h0, hf⟩ h2
  · intro h
    apply Nat.eq_of_testBit_eq
    intro i
    rw [Nat.zero_testBit]
    show (leftTo at' f at'.length).testBit i = false
    rw [leftTo_bit, decide_eq_false_iff_not]
    rintro ⟨h1, h2, h3⟩
    rw [h i h1 h2] at h3
    cases h3
/-- At least one copy stands in domain i. -/
def hasTo (at' : List Int) : Nat → Nat
  | 0 => 0
  | k + 1 => hasTo at' k ||| 2 ^ (at'.getD k 0).toNat
theorem hasTo_bit {at' : List Int} (h : ∀ x ∈ at', 0 ≤ x) (j : Nat) : ∀ k, k ≤ at'.length → ((hasTo at' k).testBit j = true ↔ ∃ i, i < k ∧ at'.getD i (-1) = (j : Int))
  | 0, _ => by
    rw [hasTo, Nat.zero_testBit]
    exact ⟨(fun h => by cases h), fun ⟨i, hi, _⟩ => absurd hi (by omega)⟩
  | k + 1, hk => by
    have e : at'.getD k 0 = at'.getD k (-1) := by rw [List.getD_eq_getElem?_getD, List.getD_eq_getElem?_getD, List.getElem?_eq_getElem (by omega)]; rfl
    have hx : 0 ≤ at'.getD k (-1) := by
      rw [List.getD_eq_getElem?_getD, List.getElem?_eq_getElem (by omega)]
      exact h _ (List.getElem_mem (by omega))
    rw [hasTo, Nat.testBit_or, Bool.or_eq_true, hasTo_bit h j k (by omega), Nat.testBit_two_pow, decide_eq_true_eq, e]
    constructor
    · rintro (⟨i, hi, h2⟩ | h2)
      · exact ⟨i, by omega, h2⟩
      · exact ⟨k, by omega, by omega⟩
    · rintro ⟨i, hi, h2⟩
      rcases Nat.lt_or_ge i k with h3 | h3
      · exact .inl ⟨i, h3, h2⟩
      · obtain rfl : i = k := by omega
        exact .inr (by omega)
theorem copies_loses {g : Nat} (hg : g < 5) {at' ch : List Int} (hl : at'.length = g + 1) (ha : ∀ x ∈ at', 0 ≤ x ∧ x < ch.length) (f : Nat) :
    loses ⟨1, [], g, at', ch⟩ f = subTo (hasTo at' at'.length) f ch.length := by
  have hlt : left at' f < 2 ^ (g + 1) := by rw [← hl]; exact leftTo_lt _ _ _
  have e : loses ⟨1, [], g, at', ch⟩ f = decide (left at' f = 0) := by
    rw [loses_def]
    show (!can 1 (g : Int) [] (left at' f : Nat)) = _
    rw [can_one hg hlt]
    by_cases h : left at' f = 0 <;> simp [h]
  rw [e]
  apply Bool.eq_iff_iff.2
  rw [decide_eq_true_eq, left_zero, subTo_iff]
  have hg2 : ∀ i, i < at'.length → 0 ≤ at'.getD i (-1) ∧ at'.getD i (-1) < ch.length := fun i hi => by
    rw [List.getD_eq_getElem?_getD, List.getElem?_eq_getElem hi]
    exact ha _ (List.getElem_mem hi)
  constructor
  · intro h j _ hj
    obtain ⟨i, hi, h2⟩ := (hasTo_bit (fun x hx => (ha x hx).1) j _ (Nat.le_refl _)).1 hj
    have := h i hi (hg2 i hi).1
    rw [h2, Int.toNat_natCast] at this
    exact this
  · intro h i hi _
    have hb := hg2 i hi
    obtain ⟨j, hj⟩ : ∃ j : Nat, at'.getD i (-1) = j := ⟨(at'.getD i (-1)).toNat, by omega⟩
    rw [hj, Int.toNat_natCast]
    exact h j (by omega) ((hasTo_bit (fun x hx => (ha x hx).1) j _ (Nat.le_refl _)).2 ⟨i, hi, hj⟩)
end Rk
