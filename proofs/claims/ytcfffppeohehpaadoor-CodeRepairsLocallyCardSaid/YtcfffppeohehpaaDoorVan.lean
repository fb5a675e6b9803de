/- CODES, in plain terms: a loss of data pieces that the local parities and the global ones repair. -/
import Derived.Test.YtcfffppeohehpaaDoorEnc
namespace Gf
/-- The powers of the points. -/
def al (i k : Nat) : UInt8 := UInt8.ofNat (powN 2 ((i * k) % 255))
theorem al_toNat (i k : Nat) : (al i k).toNat = powN 2 (i * k) := by
  have h : powN 2 ((i * k) % 255) < 256 := powN_lt _
  rw [al, UInt8.toNat_ofNat', Nat.mod_eq_of_lt (by omega), ← powN_mod (by decide) (by decide)]
theorem al_succ (i k : Nat) : al i (k + 1) = mul (al i k) (al i 1) := by
  rw [← UInt8.toNat_inj, mul_toNat, al_toNat, al_toNat, al_toNat, Nat.mul_succ, powN_add (by decide), Nat.mul_one]
theorem al_ne (i k : Nat) : al i k ≠ 0 := fun h => powN_ne_zero (a := 2) (by decide) (by decide) (i * k) (by rw [← al_toNat, h]; rfl)
theorem al_inj {i j : Nat} (hi : i < 255) (hj : j < 255) (h : al i 1 = al j 1) : i = j :=
  powN_inj hi hj (by have := congrArg UInt8.toNat h; rw [al_toNat, al_toNat, Nat.mul_one, Nat.mul_one] at this; exact this)
/-- The product of the differences from points. -/
def pr (x : UInt8) : List UInt8 → UInt8
  | [] => 1
  | p :: ps => mul (x ^^^ p) (pr x ps)
theorem pr_zero {x : UInt8} : ∀ {ps : List UInt8}, x ∈ ps → pr x ps = 0
  | [], h => by cases h
  | p :: ps, h => by
    rw [pr, mul_eq_zero]
    rcases List.mem_cons.1 h with rfl | h
    · exact .inl (by simp)
    · exact .inr (pr_zero h)
theorem pr_ne {x : UInt8} : ∀ {ps : List UInt8}, x ∉ ps → pr x ps ≠ 0
  | [], _ => by rw [pr]; decide
  | p :: ps, h => by
    rw [pr, Ne, mul_eq_zero, not_or]
    refine ⟨fun h0 => h ?_, pr_ne fun h1 => h (List.mem_cons_of_mem _ h1)⟩
    rw [xor_eq_zero] at h0
    rw [h0]
    exact List.mem_cons_self
theorem kill {n gl : Nat} {M : List (List UInt8)} (h : ∀ j, j < gl → SpanL n M (fun i => al i (j + 1))) :
    ∀ (ps : List UInt8) (k : Nat), 0 < k → k + ps.length ≤ gl → SpanL n M (fun i => mul (pr (al i 1) ps) (al i k))
  | [], k, hk, hl => by
    refine (h (k - 1) (by simp at hl; omega)).congr fun i _ => ?_
    rw [pr, one_mul, Nat.sub_add_cancel (by omega)]
  | p :: ps, k, hk, hl => by
    have hl' : k + 1 + ps.length ≤ gl := by simp at hl; omega
    have h1 := kill h ps (k + 1) (by omega) hl'
    have h2 := kill h ps k hk (by omega)
    refine (h1.add (h2.smul p)).congr fun i _ => ?_
    rw [pr, al_succ i k, xor_mul, xor_mul]
    congr 1
    · rw [mul_comm (al i 1) (pr (al i 1) ps), mul_assoc, mul_comm (al i 1) (al i k)]
    · rw [mul_assoc]
theorem unit_of {n q : Nat} {M : List (List UInt8)} {v : Nat → UInt8} (hq : q < n) (hv : SpanL n M v) (hvq : v q ≠ 0) (hk : ∀ i, i < n → i ≠ q → v i ≠ 0 → SpanL n M (unit i)) : SpanL n M (unit q) := by
  have hs : SpanL n M (fun i => sm n fun j => mul (if j = q then 0 else v j) ((if j ≠ q ∧ v j ≠ 0 then unit j else fun _ => 0) i)) := by
    refine InSpan.sum (fun j => if j = q then 0 else v j) (fun j => if j ≠ q ∧ v j ≠ 0 then unit j else fun _ => 0) n fun j hj => ?_
    by_cases h : j ≠ q ∧ v j ≠ 0
    · rw [if_pos h]; exact hk j hj h.1 h.2
    · rw [if_neg h]; exact InSpan.zero _ _ _ fun _ _ => rfl
  refine ((hv.add hs).smul (inv (v q))).congr fun i hi => ?_
  have hone : sm n (fun j => mul (if j = q then 0 else v j) ((if j ≠ q ∧ v j ≠ 0 then unit j else fun _ => 0) i)) = mul (if i = q then 0 else v i) ((if i ≠ q ∧ v i ≠ 0 then unit i else fun _ => 0) i) := by
    refine sm_one _ hi fun j _ hji => ?_
    by_cases h : j ≠ q ∧ v j ≠ 0
    · rw [if_pos h, unit, if_neg (Ne.symm hji), mul_zero]
    · rw [if_neg h, mul_zero]
  rw [hone]
  by_cases hiq : i = q
  · subst hiq
    rw [unit, if_pos rfl, if_pos rfl, zero_mul, UInt8.xor_zero, inv_mul hvq]
  · rw [if_neg hiq, unit, if_neg hiq]
    by_cases h0 : v i = 0
    · rw [h0, zero_mul, UInt8.xor_zero, mul_zero]
    · rw [if_pos ⟨hiq, h0⟩, unit, if_pos rfl, mul_one, UInt8.xor_self, mul_zero]
/-- Unknown places of which there are at most as many as powers. -/
theorem kill_all {n gl : Nat} {M : List (List UInt8)} (hn : n ≤ 255) (h : ∀ j, j < gl → SpanL n M (fun i => al i (j + 1))) (S : List Nat) (hS : S.length ≤ gl) (hnd : S.Nodup) (hlt : ∀ i ∈ S, i < n)
    (hk : ∀ i, i < n → i ∉ S → SpanL n M (unit i)) : ∀ i, i < n → SpanL n M (unit i) := by
  intro q hq
  by_cases hin : q ∈ S
  · have hlen : (S.erase q).length + 1 = S.length := by
      rw [List.length_erase_of_mem hin]
      have := List.length_pos_of_mem hin
      omega
    have h1 := kill h ((S.erase q).map fun i => al i 1) 1 (by omega) (by rw [List.length_map]; omega)
    refine unit_of hq h1 ?_ fun i hi hiq hv => ?_
    · rw [Ne, mul_eq_zero, not_or]
      refine ⟨pr_ne fun hm => ?_, al_ne _ _⟩
      obtain ⟨j, hj, he⟩ := List.mem_map.1 hm
      have hj2 := (List.Nodup.mem_erase_iff hnd).1 hj
      exact hj2.1 (al_inj (by have := hlt j hj2.2; omega) (by omega) he)
    · refine hk i hi fun his => hv ?_
      rw [mul_eq_zero]
      exact .inl (pr_zero (List.mem_map.2 ⟨i, (List.Nodup.mem_erase_iff hnd).2 ⟨hiq, his⟩, rfl⟩))
  · exact hk q hq hin
end Gf
