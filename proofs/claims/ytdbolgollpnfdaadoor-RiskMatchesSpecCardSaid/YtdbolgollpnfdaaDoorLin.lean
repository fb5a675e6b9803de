/- LINEAR ALGEBRA over bytes, in plain terms: sums, spans, and that more vectors than coordinates depend on each other. No program in sight. -/
import Derived.Test.YtdbolgollpnfdaaDoorGfB
namespace Gf
/-- The sum of f 0 .. f (k-1). -/
def sm : Nat → (Nat → UInt8) → UInt8
  | 0, _ => 0
  | k + 1, f => sm k f ^^^ f k
theorem sm_congr {f g : Nat → UInt8} : ∀ {k : Nat}, (∀ j, j < k → f j = g j) → sm k f = sm k g
  | 0, _ => rfl
  | k + 1, h => by rw [sm, sm, sm_congr (k := k) fun j hj => h j (by omega), h k (by omega)]
theorem sm_zero : ∀ {k : Nat} {f : Nat → UInt8}, (∀ j, j < k → f j = 0) → sm k f = 0
  | 0, _, _ => rfl
  | k + 1, f, h => by rw [sm, sm_zero (k := k) fun j hj => h j (by omega), h k (by omega)]; rfl
theorem xor4b (a b c d : UInt8) : (a ^^^ b) ^^^ (c ^^^ d) = (a ^^^ c) ^^^ (b ^^^ d) := by
  rw [xor_assoc, xor_assoc, ← xor_assoc b c d, xor_comm b c, xor_assoc c b d]
theorem sm_add (f g : Nat → UInt8) : ∀ k, sm k (fun j => f j ^^^ g j) = sm k f ^^^ sm k g
  | 0 => by simp [sm]
  | k + 1 => by rw [sm, sm, sm, sm_add f g k, xor4b]
theorem sm_mul (c : UInt8) (f : Nat → UInt8) : ∀ k, mul c (sm k f) = sm k (fun j => mul c (f j))
  | 0 => mul_zero c
  | k + 1 => by rw [sm, mul_xor, sm_mul c f k, sm]
theorem sm_swap (f : Nat → Nat → UInt8) : ∀ m k, sm m (fun i => sm k (fun j => f i j)) = sm k (fun j => sm m (fun i => f i j))
  | 0, k => (sm_zero fun _ _ => rfl).symm
  | m + 1, k => by rw [sm, sm_swap f m k, ← sm_add]; rfl
theorem sm_one {p : Nat} (f : Nat → UInt8) : ∀ {k : Nat}, p < k → (∀ j, j < k → j ≠ p → f j = 0) → sm k f = f p
  | 0, h, _ => by omega
  | k + 1, h, hz => by
    rw [sm]
    by_cases hp : p = k
    · subst hp
      rw [sm_zero fun j hj => hz j (by omega) (by omega)]
      exact UInt8.zero_xor
    · rw [sm_one f (by omega) fun j hj hne => hz j (by omega) hne, hz k (by omega) (Ne.symm hp)]
      exact UInt8.xor_zero
/-- All indices but p. -/
def skip (p j : Nat) : Nat := if j < p then j else j + 1
theorem skip_ne (p j : Nat) : skip p j ≠ p := by unfold skip; split <;> omega
theorem skip_lt {p j k : Nat} (h : j < k) : skip p j < k + 1 := by unfold skip; split <;> omega
theorem skip_of {p j k : Nat} (hp : p < k + 1) (hj : j < k + 1) (hne : j ≠ p) : ∃ i, i < k ∧ skip p i = j := by
  by_cases h : j < p
  · exact ⟨j, by omega, if_pos h⟩
  · exact ⟨j - 1, by omega, by unfold skip; rw [if_neg (by omega)]; omega⟩
theorem sm_skip {p : Nat} (f : Nat → UInt8) : ∀ {k : Nat}, p < k + 1 → sm (k + 1) f = sm k (fun j => f (skip p j)) ^^^ f p
  | 0, h => by
    obtain rfl : p = 0 := by omega
    rfl
  | k + 1, h => by
    by_cases hp : p = k + 1
    · subst hp
      rw [sm]
      congr 1
      exact sm_congr fun j hj => by unfold skip; rw [if_pos (by omega)]
    · rw [sm, sm_skip f (show p < k + 1 by omega), sm]
      have e : skip p k = k + 1 := if_neg (by omega)
      rw [e, xor_assoc, xor_assoc, xor_comm (f p)]
theorem xor_eq_zero {a b : UInt8} : a ^^^ b = 0 ↔ a = b := by
  constructor
  · intro h
    have : a ^^^ b ^^^ b = b := by rw [h]; exact UInt8.zero_xor
    rwa [xor_assoc, UInt8.xor_self, UInt8.xor_zero] at this
  · rintro rfl; exact UInt8.xor_self
/-- MORE VECTORS THAN COORDINATES DEPEND ON EACH OTHER. -/
theorem depend : ∀ (m k : Nat) (a : Nat → Nat → UInt8), m < k → ∃ x : Nat → UInt8, (∃ j, j < k ∧ x j ≠ 0) ∧ ∀ i, i < m → sm k (fun j => mul (x j) (a j i)) = 0
  | 0, k, a, h => ⟨fun _ => 1, ⟨0, h, by decide⟩, fun i hi => by omega⟩
  | m + 1, k, a, h => by
    by_cases hz : ∀ j, j < k → a j m = 0
    · obtain ⟨x, hx, he⟩ := depend m k a (by omega)
      refine ⟨x, hx, fun i hi => ?_⟩
      by_cases him : i = m
      · subst him
        exact sm_zero fun j hj => by rw [hz j hj, mul_zero]
      · exact he i (by omega)
    · have hz' : ∃ p, p < k ∧ a p m ≠ 0 := by
        apply Classical.byContradiction
        intro hn
        exact hz fun j hj => Classical.byContradiction fun hne => hn ⟨j, hj, hne⟩
      obtain ⟨p, hp, hpm⟩ := hz'
      obtain ⟨k, rfl⟩ : ∃ l, k = l + 1 := ⟨k - 1, by omega⟩
      obtain ⟨x, ⟨j0, hj0, hx0⟩, he⟩ := depend m k (fun j i => a (skip p j) i ^^^ mul (mul (a (skip p j) m) (inv (a p m))) (a p i)) (by omega)
      let s := sm k (fun j => mul (x j) (mul (a (skip p j) m) (inv (a p m))))
      have hback : ∀ j, j < k → ∃ i, i < k ∧ skip p i = skip p j ∧ i = j := fun j hj => ⟨j, hj, rfl, rfl⟩
      have hinj : ∀ i j, skip p i = skip p j → i = j := by
        intro i j hij
        unfold skip at hij
        split at hij <;> split at hij <;> omega
      let y : Nat → UInt8 := fun q => if q = p then s else x (if q < p then q else q - 1)
      have hy : ∀ j, y (skip p j) = x j := by
        intro j
        show (if skip p j = p then s else x (if skip p j < p then skip p j else skip p j - 1)) = x j
        rw [if_neg (skip_ne p j)]
        congr 1
        unfold skip
        by_cases hjp : j < p
        · rw [if_pos hjp, if_pos hjp]
        · rw [if_neg hjp, if_neg (by omega)]; omega
      have hyp : y p = s := if_pos rfl
      refine ⟨y, ⟨skip p j0, skip_lt hj0, by rw [hy]; exact hx0⟩, fun i hi => ?_⟩
      rw [sm_skip _ hp, hyp]
      have e1 : sm k (fun j => mul (y (skip p j)) (a (skip p j) i)) = sm k (fun j => mul (x j) (a (skip p j) i)) := sm_congr fun j _ => by rw [hy]
      rw [e1]
      have e2 : mul s (a p i) = sm k (fun j => mul (x j) (mul (mul (a (skip p j) m) (inv (a p m))) (a p i))) := by
        rw [mul_comm, sm_mul]
        exact sm_congr fun j _ => by rw [mul_comm, mul_assoc]
      rw [e2, ← sm_add]
      by_cases him : i = m
      · subst him
        refine sm_zero fun j _ => ?_
        rw [mul_assoc (a (skip p j) i), inv_mul hpm, mul_one]
        exact UInt8.xor_self
      · rw [← he i (by omega)]
        exact sm_congr fun j _ => by rw [mul_xor]

/-- v is a combination of the m vectors vs, on the first n places. -/
def InSpan (n m : Nat) (vs : Nat → Nat → UInt8) (v : Nat → UInt8) : Prop := ∃ c : Nat → UInt8, ∀ i, i < n → v i = sm m (fun k => mul (c k) (vs k i))
theorem InSpan.zero (n m : Nat) (vs : Nat → Nat → UInt8) {v : Nat → UInt8} (h : ∀ i, i < n → v i = 0) : InSpan n m vs v :=
  ⟨fun _ => 0, fun i hi => by rw [h i hi, sm_zero fun j _ => zero_mul _]⟩
theorem InSpan.add {n m : Nat} {vs : Nat → Nat → UInt8} {u v : Nat → UInt8} (hu : InSpan n m vs u) (hv : InSpan n m vs v) : InSpan n m vs fun i => u i ^^^ v i := by
  obtain ⟨c, hc⟩ := hu
  obtain ⟨d, hd⟩ := hv
  exact ⟨fun k => c k ^^^ d k, fun i hi => by show u i ^^^ v i = _; rw [hc i hi, hd i hi, ← sm_add]; exact sm_congr fun j _ => by rw [xor_mul]⟩
theorem InSpan.smul {n m : Nat} {vs : Nat → Nat → UInt8} {v : Nat → UInt8} (a : UInt8) (hv : InSpan n m vs v) : InSpan n m vs fun i => mul a (v i) := by
  obtain ⟨d, hd⟩ := hv
  exact ⟨fun k => mul a (d k), fun i hi => by show mul a (v i) = _; rw [hd i hi, sm_mul]; exact sm_congr fun j _ => by rw [mul_assoc]⟩
theorem InSpan.mem {n m : Nat} {vs : Nat → Nat → UInt8} {k : Nat} (hk : k < m) : InSpan n m vs (vs k) :=
  ⟨fun j => if j = k then 1 else 0, fun i _ => by rw [sm_one (p := k) _ hk fun j _ hne => by simp [hne, zero_mul]]; simp [one_mul]⟩
theorem InSpan.congr {n m : Nat} {vs : Nat → Nat → UInt8} {u v : Nat → UInt8} (h : InSpan n m vs u) (he : ∀ i, i < n → v i = u i) : InSpan n m vs v := by
  obtain ⟨c, hc⟩ := h
  exact ⟨c, fun i hi => by rw [he i hi, hc i hi]⟩
theorem InSpan.sum {n m : Nat} {vs : Nat → Nat → UInt8} (c : Nat → UInt8) (us : Nat → Nat → UInt8) : ∀ k, (∀ j, j < k → InSpan n m vs (us j)) → InSpan n m vs fun i => sm k fun j => mul (c j) (us j i)
  | 0, _ => InSpan.zero n m vs fun _ _ => rfl
  | k + 1, h => (InSpan.sum c us k fun j hj => h j (by omega)).add ((h k (by omega)).smul (c k))
/-- What is in the span of vectors of a span is in it. -/
theorem InSpan.trans {n m k : Nat} {vs us : Nat → Nat → UInt8} {v : Nat → UInt8} (h : InSpan n k us v) (hu : ∀ j, j < k → InSpan n m vs (us j)) : InSpan n m vs v := by
  obtain ⟨c, hc⟩ := h
  exact (InSpan.sum c us k hu).congr hc
/-- k vectors in the span of fewer depend on each other. -/
theorem InSpan.depend {n m k : Nat} {vs us : Nat → Nat → UInt8} (h : m < k) (hu : ∀ j, j < k → InSpan n m vs (us j)) :
    ∃ x : Nat → UInt8, (∃ j, j < k ∧ x j ≠ 0) ∧ ∀ i, i < n → sm k (fun j => mul (x j) (us j i)) = 0 := by
  have hc : ∃ c : Nat → Nat → UInt8, ∀ j, j < k → ∀ i, i < n → us j i = sm m (fun l => mul (c j l) (vs l i)) := by
    refine ⟨fun j => if hj : j < k then (hu j hj).choose else fun _ => 0, fun j hj => ?_⟩
    simp only [hj, ↓reduceDIte]
    exact (hu j hj).choose_spec
  obtain ⟨c, hc⟩ := hc
  obtain ⟨x, hx, he⟩ := Gf.depend m k c h
  refine ⟨x, hx, fun i hi => ?_⟩
  have e : sm k (fun j => mul (x j) (us j i)) = sm k (fun j => sm m (fun l => mul (x j) (mul (c j l) (vs l i)))) := sm_congr fun j hj => by rw [hc j hj i hi, sm_mul]
  rw [e, sm_swap]
  refine sm_zero fun l hl => ?_
  have e2 : sm k (fun j => mul (x j) (mul (c j l) (vs l i))) = mul (vs l i) (sm k (fun j => mul (x j) (c j l))) := by
    rw [sm_mul]
    exact sm_congr fun j _ => by rw [← mul_assoc, mul_comm]
  rw [e2, he l hl, mul_zero]
end Gf
