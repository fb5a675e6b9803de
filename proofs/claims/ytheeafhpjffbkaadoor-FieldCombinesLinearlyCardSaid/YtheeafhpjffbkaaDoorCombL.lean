/- COMBINING IS LINEAR: the plain law. No program in sight. -/
import Derived.Test.YtheeafhpjffbkaaDoorGfB
namespace Gf
theorem tab_at {α : Type} {n j : Nat} {f : Nat → α} {d : α} (h : j < n) : ((List.range n).map f).getD j d = f j := by
  simp [List.getD_eq_getElem?_getD, h]
theorem comb_xor {c1 c2 c3 : List UInt8} {p1 p2 p3 : List (List UInt8)} {k : Nat} : ∀ m, (∀ j, j < m → mul (c3.getD j 0) ((p3.getD j []).getD k 0) = mul (c1.getD j 0) ((p1.getD j []).getD k 0) ^^^ mul (c2.getD j 0) ((p2.getD j []).getD k 0)) →
    comb c3 p3 k m = comb c1 p1 k m ^^^ comb c2 p2 k m
  | 0, _ => by unfold comb; decide
  | m + 1, h => by
    have ih := comb_xor (c1 := c1) (c2 := c2) (c3 := c3) (p1 := p1) (p2 := p2) (p3 := p3) (k := k) m (fun j hj => h j (by omega))
    unfold comb
    rw [ih, h m (by omega), UInt8.xor_assoc, UInt8.xor_assoc, ← UInt8.xor_assoc (comb c2 p2 k m), UInt8.xor_comm (comb c2 p2 k m), UInt8.xor_assoc (mul _ _)]
theorem comb_mul {c1 c3 : List UInt8} {p1 p3 : List (List UInt8)} {k : Nat} (d : UInt8) : ∀ m, (∀ j, j < m → mul (c3.getD j 0) ((p3.getD j []).getD k 0) = mul d (mul (c1.getD j 0) ((p1.getD j []).getD k 0))) →
    comb c3 p3 k m = mul d (comb c1 p1 k m)
  | 0, _ => (mul_zero d).symm
  | m + 1, h => by
    have ih := comb_mul (c1 := c1) (c3 := c3) (p1 := p1) (p3 := p3) (k := k) d m (fun j hj => h j (by omega))
    unfold comb
    rw [ih, h m (by omega), mul_xor]
theorem combine_sum {c1 c2 c3 : List UInt8} {p1 p2 p3 : List (List UInt8)} {n L0 : Nat} (h1 : c1.length = n) (h2 : c2.length = n) (h3 : c3.length = n)
    (l1 : (p1.headD []).length = L0) (l2 : (p2.headD []).length = L0) (l3 : (p3.headD []).length = L0)
    (h : ∀ k, k < L0 → ∀ j, j < n → mul (c3.getD j 0) ((p3.getD j []).getD k 0) = mul (c1.getD j 0) ((p1.getD j []).getD k 0) ^^^ mul (c2.getD j 0) ((p2.getD j []).getD k 0)) :
    combine c3 p3 = sum (combine c1 p1) (combine c2 p2) := by
  unfold combine sum
  rw [l1, l2, l3, h1, h2, h3]
  simp only [List.length_map, List.length_range, Nat.max_self]
  apply List.map_congr_left
  intro k hk
  have hk := List.mem_range.1 hk
  rw [tab_at hk, tab_at hk]
  exact comb_xor n (fun j hj => h k hk j hj)
theorem combine_mul {c1 c3 : List UInt8} {p1 p3 : List (List UInt8)} {n L0 : Nat} (d : UInt8) (h1 : c1.length = n) (h3 : c3.length = n)
    (l1 : (p1.headD []).length = L0) (l3 : (p3.headD []).length = L0)
    (h : ∀ k, k < L0 → ∀ j, j < n → mul (c3.getD j 0) ((p3.getD j []).getD k 0) = mul d (mul (c1.getD j 0) ((p1.getD j []).getD k 0))) :
    combine c3 p3 = scale d (combine c1 p1) := by
  unfold combine scale
  rw [l1, l3, h1, h3, List.map_map]
  apply List.map_congr_left
  intro k hk
  exact comb_mul d n (fun j hj => h k (List.mem_range.1 hk) j hj)
/-- The lists that the law makes. -/
def tabs (n : Nat) (f : Nat → UInt8) : List UInt8 := (List.range n).map f
def sums (n : Nat) (x y : List (List UInt8)) : List (List UInt8) := (List.range n).map fun j => sum (x.getD j []) (y.getD j [])
theorem sum_length {s t : List UInt8} {L0 : Nat} (h : s.length = L0) (h' : t.length = L0) : (sum s t).length = L0 := by unfold sum; simp [h, h']
theorem combOk_of {c : List UInt8} {p : List (List UInt8)} {n L0 : Nat} (hc : c.length = n) (hp : p.length = n) (h : ∀ j, j < n → (p.getD j []).length = L0) : combOk c p = true := by
  unfold combOk
  rw [hc, hp, beq_self_eq_true, Bool.true_and, List.all_eq_true]
  intro q hq
  obtain ⟨i, hi, rfl⟩ := List.getElem_of_mem hq
  have e1 := h i (by omega)
  have e0 := h 0 (by omega)
  rw [show p.getD 0 [] = p.headD [] from by cases p <;> rfl] at e0
  rw [show p.getD i [] = p[i] from by simp [List.getD_eq_getElem?_getD, hi]] at e1
  rw [e1, e0, beq_self_eq_true]
theorem head_len {p : List (List UInt8)} {n L0 : Nat} (hp : p.length = n) (h0 : n = 0 → L0 = 0) (h : ∀ j, j < n → (p.getD j []).length = L0) : (p.headD []).length = L0 := by
  cases p with
  | nil => simp at hp; rw [h0 hp.symm]; rfl
  | cons q l => exact h 0 (by simp at hp; omega)
/-- Both laws of combining, and the third: a factor. -/
theorem linear {n L0 : Nat} {pa pb : Nat → UInt8} {x y : List (List UInt8)} (c : UInt8) (hx : x.length = n) (hy : y.length = n) (h0 : n = 0 → L0 = 0) (hL : ∀ j, j < n → (x.getD j []).length = L0 ∧ (y.getD j []).length = L0) :
    combE (tabs n pa) x = 0 ∧ combE (tabs n pb) x = 0 ∧ combE (tabs n fun j => pa j ^^^ pb j) x = 0 ∧ combE (tabs n pa) y = 0 ∧ combE (tabs n pa) (sums n x y) = 0 ∧ combE (tabs n fun j => mul c (pa j)) x = 0 ∧
    combS (tabs n fun j => pa j ^^^ pb j) x = sum (combS (tabs n pa) x) (combS (tabs n pb) x) ∧
    combS (tabs n pa) (sums n x y) = sum (combS (tabs n pa) x) (combS (tabs n pa) y) ∧
    combS (tabs n fun j => mul c (pa j)) x = scale c (combS (tabs n pa) x) := by
  have ht : ∀ f, (tabs n f).length = n := fun f => by unfold tabs; simp
  have hs : (sums n x y).length = n := by unfold sums; simp
  have hsL : ∀ j, j < n → ((sums n x y).getD j []).length = L0 := fun j hj => by
    unfold sums
    rw [tab_at hj]
    exact sum_length (hL j hj).1 (hL j hj).2
  have kx : ∀ f, combOk (tabs n f) x = true := fun f => combOk_of (ht f) hx (fun j hj => (hL j hj).1)
  have ky : ∀ f, combOk (tabs n f) y = true := fun f => combOk_of (ht f) hy (fun j hj => (hL j hj).2)
  have ks : ∀ f, combOk (tabs n f) (sums n x y) = true := fun f => combOk_of (ht f) hs hsL
  have lx := head_len hx h0 (fun j hj => (hL j hj).1)
  have ly := head_len hy h0 (fun j hj => (hL j hj).2)
  have ls := head_len hs h0 hsL
  refine ⟨combE_ok (kx _), combE_ok (kx _), combE_ok (kx _), combE_ok (ky _), combE_ok (ks _), combE_ok (kx _), ?_, ?_, ?_⟩
  · rw [combS_ok (kx _), combS_ok (kx _), combS_ok (kx _)]
    refine combine_sum (ht _) (ht _) (ht _) lx lx lx ?_
    intro k hk j hj
    unfold tabs
    rw [tab_at hj, tab_at hj, tab_at hj, xor_mul]
  · rw [combS_ok (ks _), combS_ok (kx _), combS_ok (ky _)]
    refine combine_sum (ht _) (ht _) (ht _) lx ly ls ?_
    intro k hk j hj
    unfold tabs sums
    rw [tab_at hj, tab_at hj]
    unfold sum
    rw [tab_at (by rw [(hL j hj).1, (hL j hj).2]; omega), mul_xor]
  · rw [combS_ok (kx _), combS_ok (kx _)]
    refine combine_mul c (ht _) (ht _) lx lx ?_
    intro k hk j hj
    unfold tabs
    rw [tab_at hj, tab_at hj, mul_assoc]
end Gf
