/- PERILS, in plain terms: all pieces in one domain. -/
import Derived.Test.YtaemjkfmbnhaoaaDoorRiskB
namespace Rk
open Cd
theorem pick_all {rows : List (List UInt8)} {m : Nat} (h : ∀ i, i < rows.length → m.testBit i = true) {r : List UInt8} (hr : r ∈ rows) : r ∈ pick rows m := by
  obtain ⟨i, hi, rfl⟩ := List.getElem_of_mem hr
  simp only [pick, pickTo, List.mem_filterMap]
  exact ⟨i, by simpa using hi, by rw [if_pos (bit_one.2 (h i hi)), List.getElem?_eq_getElem hi]⟩
theorem unit_mem {d : Nat} {gs : List (List Int)} {gl : Nat} {j : Nat} (h : j < d) : rowOf d (unitAt j) ∈ Cd.rows d gs gl := by
  simp only [Cd.rows, List.mem_append, List.mem_map]
  exact .inl (.inl ⟨j, by simpa using h, rfl⟩)
theorem span_units {n : Nat} {L : List (List UInt8)} (h : ∀ j, j < n → rowOf n (unitAt j) ∈ L) (v : Nat → UInt8) : Gf.SpanL n L v := by
  have h1 : Gf.SpanL n L fun i => Gf.sm n fun j => Gf.mul (v j) (Gf.vec (rowOf n (unitAt j)) i) := Gf.InSpan.sum v (fun j => Gf.vec (rowOf n (unitAt j))) n fun j hj => Gf.SpanL.mem (h j hj)
  refine h1.congr fun i hi => ?_
  have hg : ∀ j, Gf.vec (rowOf n (unitAt j)) i = unitAt j i := fun j => Gf.getD_map_range n _ hi
  rw [Gf.sm_one (p := i) _ hi fun j _ hj => by rw [hg, unitAt_ne (Ne.symm hj), Gf.mul_zero], hg, unitAt_eq, Gf.mul_one]
/-- All pieces suffice. -/
theorem can_full {d gl : Int} {gs : List (List Int)} (h : Cd.check d gs gl = 0) {m : Nat} (hm : m < 2 ^ (rowsOf d gs gl).length) (hb : ∀ i, i < (rowsOf d gs gl).length → m.testBit i = true) : can d gl gs (m : Int) = true := by
  unfold can
  simp only [decide_eq_true_eq]
  refine ⟨h, by omega, by rw [Go.Proofs.YtaemjkfmbnhaoaaDoor.nat_pow_cast]; omega, ?_⟩
  rw [Int.toNat_natCast]
  have hw : ∀ r ∈ pick (rowsOf d gs gl) m, r.length = d.toNat := fun r hr => by
    have := pickTo_mem hr
    rw [rowsOf_ok h] at this
    exact rows_width this
  rw [Gf.stairs_iff hw]
  refine fun v => span_units (fun j hj => pick_all hb ?_) v
  rw [rowsOf_ok h]
  exact unit_mem hj
theorem can_none {d gl : Int} {gs : List (List Int)} (h : Cd.check d gs gl = 0) : can d gl gs ((0 : Nat) : Int) = false := by
  have hk := check_ok h
  unfold can
  have : Gf.stairs d.toNat (pick (rowsOf d gs gl) ((0 : Nat) : Int).toNat) = [] := by
    rw [Int.toNat_natCast, pick_zero]; rfl
  rw [this]
  simp
  omega
/-- All pieces in one domain. -/
theorem one_loses {p : Pe} (h : check p = 0) {k : Nat} (hk : k < p.ch.length) (ha : ∀ x ∈ p.at', x = (k : Int)) (f : Nat) : loses p f = subTo (2 ^ k) f p.ch.length := by
  have ho := ok_of h
  have hck := check_ok ho.code
  have hg : ∀ i, i < p.at'.length → p.at'.getD i (-1) = k := fun i hi => by
    rw [List.getD_eq_getElem?_getD, List.getElem?_eq_getElem hi]
    exact ha _ (List.getElem_mem hi)
  have hrl : (rowsOf p.d p.gs p.gl).length = p.at'.length := by
    rw [rowsOf_ok ho.code, rows_len]
    have := ho.len
    omega
  have hs : subTo (2 ^ k) f p.ch.length = f.testBit k := by
    apply Bool.eq_iff_iff.2
    rw [subTo_iff]
    constructor
    · intro h; exact h k hk (Nat.testBit_two_pow_self)
    · intro h i _ hi
      rw [Nat.testBit_two_pow, decide_eq_true_eq] at hi
      rw [← hi]; exact h
  rw [loses_def, hs]
  cases hf : f.testBit k with
  | true =>
    have hz : left p.at' f = 0 := left_zero.2 fun i hi _ => by rw [hg i hi, Int.toNat_natCast]; exact hf
    rw [hz, can_none ho.code]; rfl
  | false =>
    have hall : ∀ i, i < (rowsOf p.d p.gs p.gl).length → (left p.at' f).testBit i = true := fun i hi => by
      rw [hrl] at hi
      show (leftTo p.at' f p.at'.length).testBit i = true
      rw [leftTo_bit, decide_eq_true_eq, hg i hi, Int.toNat_natCast]
      exact ⟨hi, by omega, hf⟩
    rw [can_full ho.code (left_bound ho f) hall]; rfl
/-- Loss of a chunk whose pieces are all in one domain. -/
theorem one_loss {p : Pe} (h : check p = 0) {k : Nat} (hk : k < p.ch.length) (ha : ∀ x ∈ p.at', x = (k : Int)) : loss p = prodTo p.ch (2 ^ k) p.ch.length :=
  loss_sub (ok_of h).ch_ok _ fun f _ => one_loses h hk ha f
theorem prodTo_one {ch : List Int} {k : Nat} : ∀ j, prodTo ch (2 ^ k) j = if k < j then (ch.getD k 0).toNat * 16 ^ (j - 1) else 16 ^ j
  | 0 => by rw [if_neg (by omega)]; rfl
  | j + 1 => by
    rw [prodTo, prodTo_one j, Nat.testBit_two_pow]
    by_cases h1 : k = j
    · subst h1
      rw [if_neg (by omega), if_pos (by simp), if_pos (by omega), Nat.mul_comm]
      rfl
    · rw [if_neg (show ¬ (decide (k = j) = true) by simpa using h1)]
      by_cases h2 : k < j
      · obtain ⟨i, rfl⟩ : ∃ i, j = i + 1 := ⟨j - 1, by omega⟩
        rw [if_pos h2, if_pos (by omega), Nat.mul_assoc, ← Nat.pow_succ]
        rfl
      · rw [if_neg h2, if_neg (by omega), Nat.pow_succ]
end Rk
