/- CODES, in plain terms: what decoding says of pieces of which one was turned. -/
import Derived.Test.YtgkohfmgdejkpaaDoorDec
namespace Cd
open Gf Go.Proofs.YtgkohfmgdejkpaaDoor
variable {d gl : Int} {gs : List (List Int)}
theorem chunk_len (h : check d gs gl = 0) {n m : Nat} (hc : can d gl gs (m : Int) = true) {pieces : List (List UInt8)} (hp : ∀ k, k < (rowsOf d gs gl).length → bitAt m k = 1 → (pieces.getD k []).length = sizeN d.toNat n) : (chunkOf d gl gs n m pieces).length = n := by
  have hk := check_ok h
  have hl : (solved d gl gs m pieces).flatten.length = d.toNat * sizeN d.toNat n := by
    have h1 := solved_len d gl gs m pieces
    have h2 : ∀ p ∈ solved d gl gs m pieces, p.length = sizeN d.toNat n := fun p hp' => by
      obtain ⟨i, hi, rfl⟩ := List.getElem_of_mem hp'
      have := solved_even h hc hp (i := i) (by omega)
      rw [List.getD_eq_getElem?_getD, List.getElem?_eq_getElem hi] at this
      exact this
    have h3 : ∀ (l : List (List UInt8)) (c : Nat), (∀ p ∈ l, p.length = c) → l.flatten.length = l.length * c := by
      intro l c
      induction l with
      | nil => intro _; simp
      | cons x r ih =>
        intro hx
        rw [List.flatten_cons, List.length_append, ih fun p hp => hx p (by simp [hp]), hx x (by simp), List.length_cons, Nat.succ_mul]
        omega
    rw [h3 _ _ h2, h1]
  have := size_ge (d := d.toNat) (by omega) n
  unfold chunkOf
  rw [List.length_take]
  omega
theorem badLen_not {m size : Nat} {l : List (List UInt8)} (h : ∀ k, k < l.length → bitAt m k = 1 → (l.getD k []).length = size) : badLen size m l = false := by
  rw [← Bool.not_eq_true, badLen_iff]
  rintro ⟨k, h1, h2, h3⟩
  exact h3 (h k h1 h2)
/-- All pieces as they were, and too few. -/
theorem dec_lost (h : check d gs gl = 0) {m : Nat} (hm : m < 2 ^ (rowsOf d gs gl).length) (hc : can d gl gs (m : Int) = false) {data : List UInt8} (hl : data.length ≤ 4096) :
    decE d gl gs (data.length : Int) (m : Int) (encode d gl gs data) = 17 ∧ decS d gl gs (data.length : Int) (m : Int) (encode d gl gs data) = [] := by
  have hk := check_ok h
  have he := decE_lost (n := (data.length : Int)) (m := (m : Int)) (pieces := encode d gl gs data) h (badArgs_not hl hm (encode_len _ _ _ _)) (badLen_not fun k hk _ => by
    rw [Int.toNat_natCast]
    exact encode_even h data (by rw [encode_len] at hk; exact hk)) hc
  exact ⟨he, decS_no (by rw [he]; decide)⟩
theorem bit_less {m k j : Nat} (hk : bitAt m k = 1) (h : bitAt (m - 2 ^ k) j = 1) : j ≠ k ∧ bitAt m j = 1 := by
  unfold bitAt at *
  have hp : 0 < 2 ^ k := Nat.two_pow_pos k
  obtain ⟨q, hq⟩ : ∃ q, m / 2 ^ k = q := ⟨_, rfl⟩
  obtain ⟨r, hr⟩ : ∃ r, m % 2 ^ k = r := ⟨_, rfl⟩
  have hrl : r < 2 ^ k := by rw [← hr]; exact Nat.mod_lt _ hp
  have hm : m = 2 ^ k * q + r := by rw [← hq, ← hr]; exact (Nat.div_add_mod m (2 ^ k)).symm
  rw [hq] at hk
  obtain ⟨p, rfl⟩ : ∃ p, q = 2 * p + 1 := ⟨q / 2, by omega⟩
  have hs : m - 2 ^ k = 2 ^ k * (2 * p) + r := by rw [hm, Nat.mul_succ]; omega
  rw [hs] at h
  rcases Nat.lt_trichotomy j k with hj | hj | hj
  · refine ⟨by omega, ?_⟩
    obtain ⟨c, rfl⟩ : ∃ c, k = j + (c + 1) := ⟨k - j - 1, by omega⟩
    have e1 : ∀ x, 2 ^ (j + (c + 1)) * x = 2 ^ j * (2 * (2 ^ c * x)) := fun x => by rw [Nat.pow_add, Nat.pow_succ]; simp [Nat.mul_left_comm, Nat.mul_comm]
    rw [e1, Nat.mul_add_div (Nat.two_pow_pos j)] at h
    rw [hm, e1, Nat.mul_add_div (Nat.two_pow_pos j)]
    omega
  · subst hj
    rw [Nat.mul_add_div hp, Nat.div_eq_of_lt hrl] at h
    omega
  · refine ⟨by omega, ?_⟩
    obtain ⟨c, rfl⟩ : ∃ c, j = k + (c + 1) := ⟨j - k - 1, by omega⟩
    rw [Nat.pow_add, ← Nat.div_div_eq_div_mul, Nat.mul_add_div hp, Nat.div_eq_of_lt hrl, Nat.pow_succ, Nat.mul_comm (2 ^ c) 2, ← Nat.div_div_eq_div_mul] at h
    rw [hm, Nat.pow_add, ← Nat.div_div_eq_div_mul, Nat.mul_add_div hp, Nat.div_eq_of_lt hrl, Nat.pow_succ, Nat.mul_comm (2 ^ c) 2, ← Nat.div_div_eq_div_mul]
    rw [show (2 * p + 1 + 0) / 2 = p from by omega]
    rw [show (2 * p + 0) / 2 = p from by omega] at h
    exact h
/-- One of the pieces that are given is another one. -/
theorem dec_turned (h : check d gs gl = 0) {m k : Nat} (hm : m < 2 ^ (rowsOf d gs gl).length) (hc : can d gl gs (m : Int) = true) (hk : k < (rowsOf d gs gl).length) (hb : bitAt m k = 1) {data : List UInt8} (hl : data.length ≤ 4096) {b : List UInt8}
    (hbl : b.length = ((encode d gl gs data).getD k []).length) (hne : b ≠ (encode d gl gs data).getD k []) :
    (decE d gl gs (data.length : Int) (m : Int) ((encode d gl gs data).set k b) = 14 ∨ decE d gl gs (data.length : Int) (m : Int) ((encode d gl gs data).set k b) = 0 ∧ decS d gl gs (data.length : Int) (m : Int) ((encode d gl gs data).set k b) ≠ data) ∧
    (can d gl gs ((m - 2 ^ k : Nat) : Int) = true → decE d gl gs (data.length : Int) (m : Int) ((encode d gl gs data).set k b) = 14) := by
  obtain ⟨l, hll⟩ : ∃ l, (encode d gl gs data).set k b = l := ⟨_, rfl⟩
  have hkl : k < (encode d gl gs data).length := by rw [encode_len]; exact hk
  have hlen : l.length = (rowsOf d gs gl).length := by rw [← hll, List.length_set, encode_len]
  have hget : ∀ j, l.getD j [] = if j = k then b else (encode d gl gs data).getD j [] := fun j => by rw [← hll]; exact getD_set hkl
  have hev : ∀ j, j < l.length → bitAt m j = 1 → (l.getD j []).length = sizeN d.toNat data.length := fun j hj _ => by
    rw [hget]
    split
    · rw [hbl]; exact encode_even h data hk
    · exact encode_even h data (by omega)
  have hba := badArgs_not (d := d) (gl := gl) (gs := gs) hl hm hlen
  have hbn := badLen_not hev
  rw [hll]
  have hcl := chunk_len h hc (pieces := l) (fun j hj hbj => hev j (by omega) hbj)
  obtain ⟨c, hcc⟩ : ∃ c, chunkOf d gl gs data.length m l = c := ⟨_, rfl⟩
  rw [hcc] at hcl
  have hcne : badOne m (encode d gl gs c) l = false → c ≠ data := fun hbo he => by
    rw [← Bool.not_eq_true, badOne_iff] at hbo
    refine hbo ⟨k, by omega, hb, ?_⟩
    rw [hget, if_pos rfl, he]
    exact Ne.symm hne
  cases hbo : badOne m (encode d gl gs c) l with
  | true =>
    have he := decE_bad (n := (data.length : Int)) (m := (m : Int)) (pieces := l) h hba (by rw [Int.toNat_natCast, Int.toNat_natCast]; exact hbn) hc (by rw [Int.toNat_natCast, Int.toNat_natCast, hcc]; exact hbo)
    exact ⟨.inl he, fun _ => he⟩
  | false =>
    have he := decE_ok (n := (data.length : Int)) (m := (m : Int)) (pieces := l) h hba (by rw [Int.toNat_natCast, Int.toNat_natCast]; exact hbn) hc (by rw [Int.toNat_natCast, Int.toNat_natCast, hcc]; exact hbo)
    have hs := decS_ok he
    rw [Int.toNat_natCast, Int.toNat_natCast, hcc] at hs
    refine ⟨.inr ⟨he, by rw [hs]; exact hcne hbo⟩, fun hc2 => ?_⟩
    exfalso
    refine hcne hbo (enc_inj h hc2 hcl fun j hj hbj => ?_)
    obtain ⟨h1, h2⟩ := bit_less hb hbj
    rw [← Bool.not_eq_true, badOne_iff] at hbo
    have h3 : (encode d gl gs c).getD j [] = l.getD j [] := Classical.byContradiction fun hx => hbo ⟨j, by omega, h2, hx⟩
    rw [h3, hget, if_neg h1]
end Cd
