/- THE WALKS over the decoding of the specification of codes, and over CodeDecodesAsSpecified. -/
import Derived.Test.YtgkohfmgdejkpaaDoorRefOne
import Derived.Test.YtgkohfmgdejkpaaDoorTrip
import Derived.Test.YtgkohfmgdejkpaaDoorDecY
import Derived.Test.YtgkohfmgdejkpaaDoorSane7
/- THE SPECIFICATION'S SOLVING of equations, in plain terms: it finds what they fit. -/
namespace Cd
open Gf
def swapR (l : List (List UInt8)) (p a : Nat) : List (List UInt8) := (l.set p (l.getD a [])).set a (l.getD p [])
theorem swapR_len (l : List (List UInt8)) (p a : Nat) : (swapR l p a).length = l.length := by simp [swapR]
theorem getD_set_eq {α : Type} {l : List α} {i : Nat} {x y : α} (h : i < l.length) : (l.set i x).getD i y = x := by
  rw [List.getD_eq_getElem?_getD, List.getElem?_set_self h]; rfl
theorem getD_set_ne2 {α : Type} {l : List α} {i j : Nat} {x y : α} (h : i ≠ j) : (l.set i x).getD j y = l.getD j y := by
  rw [List.getD_eq_getElem?_getD, List.getD_eq_getElem?_getD, List.getElem?_set_ne h]
theorem swapR_a {l : List (List UInt8)} {p a : Nat} (ha : a < l.length) : (swapR l p a).getD a [] = l.getD p [] := getD_set_eq (by simpa using ha)
theorem swapR_p {l : List (List UInt8)} {p a : Nat} (hp : p < l.length) (h : p ≠ a) : (swapR l p a).getD p [] = l.getD a [] := by
  unfold swapR
  rw [getD_set_ne2 (Ne.symm h), getD_set_eq hp]
theorem swapR_other {l : List (List UInt8)} {p a k : Nat} (h : k ≠ p) (h2 : k ≠ a) : (swapR l p a).getD k [] = l.getD k [] := by
  unfold swapR
  rw [getD_set_ne2 (Ne.symm h2), getD_set_ne2 (Ne.symm h)]
/-- All rows but a, of the first m, made 0 at a. -/
def elimTo (l : List (List UInt8)) (a : Nat) : Nat → List (List UInt8)
  | 0 => l
  | m + 1 => if m = a then elimTo l a m else (elimTo l a m).set m (lessR ((elimTo l a m).getD m []) ((elimTo l a m).getD a []) a)
theorem elimTo_zero (l : List (List UInt8)) (a : Nat) : elimTo l a 0 = l := rfl
theorem elimTo_skip (l : List (List UInt8)) (a : Nat) : elimTo l a (a + 1) = elimTo l a a := by rw [elimTo, if_pos rfl]
theorem elimTo_next {l : List (List UInt8)} {a m : Nat} (h : m ≠ a) : elimTo l a (m + 1) = (elimTo l a m).set m (lessR ((elimTo l a m).getD m []) ((elimTo l a m).getD a []) a) := by rw [elimTo, if_neg h]
theorem elimTo_len (l : List (List UInt8)) (a : Nat) : ∀ m, (elimTo l a m).length = l.length
  | 0 => rfl
  | m + 1 => by
    have ih := elimTo_len l a m
    by_cases h : m = a
    · subst h; rw [elimTo_skip, ih]
    · rw [elimTo_next h, List.length_set, ih]
theorem elimTo_get {l : List (List UInt8)} {a : Nat} : ∀ {m k : Nat}, m ≤ l.length → (elimTo l a m).getD k [] = if k < m ∧ k ≠ a then lessR (l.getD k []) (l.getD a []) a else l.getD k []
  | 0, k, _ => by rw [elimTo_zero, if_neg (by omega)]
  | m + 1, k, hm => by
    have ih := fun k => elimTo_get (l := l) (a := a) (m := m) (k := k) (by omega)
    by_cases h : m = a
    · subst h
      rw [elimTo_skip, ih]
      by_cases hk : k < m ∧ k ≠ m
      · rw [if_pos hk, if_pos ⟨by omega, hk.2⟩]
      · rw [if_neg hk, if_neg (by omega)]
    · rw [elimTo_next h]
      by_cases hk : k = m
      · subst hk
        rw [getD_set_eq (by rw [elimTo_len]; omega), if_pos ⟨by omega, h⟩, ih, ih, if_neg (by omega), if_neg (by omega)]
      · rw [getD_set_ne2 (Ne.symm hk), ih]
        by_cases hk2 : k < m ∧ k ≠ a
        · rw [if_pos hk2, if_pos ⟨by omega, hk2.2⟩]
        · rw [if_neg hk2, if_neg (by omega)]
/-- The first row from a on that is not 0 at a. -/
def pivFrom (l : List (List UInt8)) (a : Nat) : Nat := ((List.range l.length).find? fun k => decide (a ≤ k) && decide ((l.getD k []).getD a 0 ≠ 0)).getD 0
theorem pivFrom_at {l : List (List UInt8)} {a p : Nat} (hp : p < l.length) (ha : a ≤ p) (h : (l.getD p []).getD a 0 ≠ 0) (hb : ∀ j, a ≤ j → j < p → (l.getD j []).getD a 0 = 0) : pivFrom l a = p := by
  have : (List.range l.length).find? (fun k => decide (a ≤ k) && decide ((l.getD k []).getD a 0 ≠ 0)) = some p := by
    rw [List.find?_range_eq_some]
    refine ⟨?_, by simpa using hp, fun j hj => ?_⟩
    · rw [decide_eq_true ha, decide_eq_true h]; rfl
    · by_cases h0 : a ≤ j
      · rw [hb j h0 hj]; simp
      · simp [h0]
  rw [pivFrom, this]
  rfl
def gjStep (l : List (List UInt8)) (a : Nat) : List (List UInt8) := elimTo (swapR l (pivFrom l a) a) a l.length
def gjTo (l : List (List UInt8)) : Nat → List (List UInt8)
  | 0 => l
  | a + 1 => gjStep (gjTo l a) a
theorem gjTo_zero (l : List (List UInt8)) : gjTo l 0 = l := rfl
theorem gjTo_next (l : List (List UInt8)) (a : Nat) : gjTo l (a + 1) = elimTo (swapR (gjTo l a) (pivFrom (gjTo l a) a) a) a (gjTo l a).length := rfl
/-- The state after a columns. -/
structure GJ (n N : Nat) (l : List (List UInt8)) (a : Nat) : Prop where
  size : l.length = N
  len : ∀ r ∈ l, r.length = n + 1
  diag : ∀ i, i < a → i < N ∧ (l.getD i []).getD i 0 ≠ 0 ∧ ∀ k, k < N → k ≠ i → (l.getD k []).getD i 0 = 0
  span : ∀ v, SpanL n l v
/-- There is a pivot. -/
theorem GJ.pivot {n N a : Nat} {l : List (List UInt8)} (h : GJ n N l a) (ha : a < n) : ∃ p, a ≤ p ∧ p < N ∧ (l.getD p []).getD a 0 ≠ 0 := by
  apply Classical.byContradiction
  intro hno
  have hz : ∀ k, a ≤ k → k < N → (l.getD k []).getD a 0 = 0 := fun k h1 h2 => Classical.byContradiction fun h3 => hno ⟨k, h1, h2, h3⟩
  obtain ⟨c, hc⟩ := h.span (unit a)
  rw [h.size] at hc
  have hc0 : ∀ j, j < a → c j = 0 := fun j hj => by
    obtain ⟨d1, d2, d3⟩ := h.diag j hj
    have h1 := hc j (by omega)
    rw [sm_one (p := j) _ d1 fun k hk hne => by
      show mul (c k) ((l.getD k []).getD j 0) = 0
      rw [d3 k hk hne, mul_zero]] at h1
    rw [unit, if_neg (by omega)] at h1
    exact Classical.byContradiction fun hne => mul_ne_zero hne d2 h1.symm
  have h2 := hc a ha
  rw [sm_zero fun k hk => by
    show mul (c k) ((l.getD k []).getD a 0) = 0
    by_cases hka : k < a
    · rw [hc0 k hka, zero_mul]
    · rw [hz k (by omega) hk, mul_zero]] at h2
  rw [unit, if_pos rfl] at h2
  exact absurd h2 (by decide)
theorem pivFrom_spec {l : List (List UInt8)} {a p : Nat} (hp : p < l.length) (ha : a ≤ p) (h : (l.getD p []).getD a 0 ≠ 0) : a ≤ pivFrom l a ∧ pivFrom l a < l.length ∧ (l.getD (pivFrom l a) []).getD a 0 ≠ 0 ∧ ∀ j, a ≤ j → j < pivFrom l a → (l.getD j []).getD a 0 = 0 := by
  induction p using Nat.strongRecOn with
  | ind p ih =>
    by_cases hb : ∀ j, a ≤ j → j < p → (l.getD j []).getD a 0 = 0
    · have he := pivFrom_at hp ha h hb
      rw [he]
      exact ⟨ha, hp, h, hb⟩
    · have : ∃ j, a ≤ j ∧ j < p ∧ (l.getD j []).getD a 0 ≠ 0 := by
        apply Classical.byContradiction
        intro hn
        exact hb fun j h1 h2 => Classical.byContradiction fun h3 => hn ⟨j, h1, h2, h3⟩
      obtain ⟨j, j1, j2, j3⟩ := this
      exact ih j j2 (by omega) j1 j3
theorem getD_mem2 {α : Type} {l : List α} {x y : α} (h : x ∈ l) : ∃ k, k < l.length ∧ l.getD k y = x := by
  obtain ⟨k, hk, rfl⟩ := List.getElem_of_mem h
  exact ⟨k, hk, by rw [List.getD_eq_getElem?_getD, List.getElem?_eq_getElem hk]; rfl⟩
theorem GJ.swap {n N a : Nat} {l : List (List UInt8)} (h : GJ n N l a) {p : Nat} (h1 : a ≤ p) (h2 : p < N) : GJ n N (swapR l p a) a := by
  have hget : ∀ k, k < N → ∃ j, j < N ∧ (swapR l p a).getD k [] = l.getD j [] ∧ (k < a → j = k) ∧ (a ≤ k → a ≤ j) := fun k hk => by
    by_cases hka : k = a
    · subst hka
      exact ⟨p, h2, swapR_a (by rw [h.size]; exact hk), by omega, by omega⟩
    · by_cases hkp : k = p
      · subst hkp
        exact ⟨a, by omega, swapR_p (by rw [h.size]; exact hk) hka, by omega, by omega⟩
      · exact ⟨k, hk, swapR_other hkp hka, fun _ => rfl, id⟩
  refine ⟨by rw [swapR_len, h.size], fun r hr => ?_, fun i hi => ?_, fun v => (h.span v).mono fun x hx => ?_⟩
  · obtain ⟨k, hk, rfl⟩ := getD_mem2 (y := []) hr
    rw [swapR_len, h.size] at hk
    obtain ⟨j, j1, j2, _⟩ := hget k hk
    rw [j2]
    exact h.len _ (getD_mem (by rw [h.size]; exact j1))
  · obtain ⟨d1, d2, d3⟩ := h.diag i hi
    refine ⟨d1, ?_, fun k hk hne => ?_⟩
    · obtain ⟨j, j1, j2, j3, _⟩ := hget i d1
      rw [j2, j3 hi]
      exact d2
    · obtain ⟨j, j1, j2, j3, j4⟩ := hget k hk
      rw [j2]
      refine d3 j j1 ?_
      by_cases hka : k < a
      · rw [j3 hka]; exact hne
      · have := j4 (by omega)
        omega
  · obtain ⟨k, hk, rfl⟩ := getD_mem2 (y := []) hx
    rw [h.size] at hk
    by_cases hka : k = a
    · by_cases hpa : p = a
      · subst hpa
        rw [hka, ← swapR_a (p := p) (a := p) (by rw [h.size]; exact h2)]
        exact getD_mem (by rw [swapR_len, h.size]; exact h2)
      · rw [hka, ← swapR_p (by rw [h.size]; exact h2) hpa]
        exact getD_mem (by rw [swapR_len, h.size]; exact h2)
    · by_cases hkp : k = p
      · rw [hkp, ← swapR_a (p := p) (a := a) (by rw [h.size]; omega)]
        exact getD_mem (by rw [swapR_len, h.size]; omega)
      · rw [← swapR_other hkp hka]
        exact getD_mem (by rw [swapR_len, h.size]; exact hk)
theorem GJ.elim {n N a : Nat} {l : List (List UInt8)} (h : GJ n N l a) (haN : a < N) (han : a < n) (hne : (l.getD a []).getD a 0 ≠ 0) : GJ n N (elimTo l a l.length) (a + 1) := by
  have hget : ∀ k, k < N → k ≠ a → (elimTo l a l.length).getD k [] = lessR (l.getD k []) (l.getD a []) a := fun k hk hka => by
    rw [elimTo_get (Nat.le_refl _), if_pos ⟨by rw [h.size]; exact hk, hka⟩]
  have hgeta : (elimTo l a l.length).getD a [] = l.getD a [] := by rw [elimTo_get (Nat.le_refl _), if_neg (by omega)]
  have hlen : ∀ k, k < N → (l.getD k []).length = n + 1 := fun k hk => h.len _ (getD_mem (by rw [h.size]; exact hk))
  have hsz : (elimTo l a l.length).length = N := by rw [elimTo_len, h.size]
  refine ⟨hsz, fun r hr => ?_, fun i hi => ?_, fun v => (h.span v).trans fun x hx => ?_⟩
  · obtain ⟨k, hk, rfl⟩ := getD_mem2 (y := []) hr
    rw [hsz] at hk
    by_cases hka : k = a
    · rw [hka, hgeta]; exact hlen a haN
    · rw [hget k hk hka, lessR_len]; exact hlen k hk
  · by_cases hia : i = a
    · subst hia
      refine ⟨haN, by rw [hgeta]; exact hne, fun k hk hki => ?_⟩
      rw [hget k hk hki]
      exact lessR_zero (by rw [hlen k hk]; omega) hne
    · obtain ⟨d1, d2, d3⟩ := h.diag i (by omega)
      have ha0 : (l.getD a []).getD i 0 = 0 := d3 a haN (Ne.symm hia)
      have hkeep : ∀ k, k < N → ((elimTo l a l.length).getD k []).getD i 0 = (l.getD k []).getD i 0 := fun k hk => by
        by_cases hka : k = a
        · rw [hka, hgeta]
        · rw [hget k hk hka, lessR_get (by rw [hlen k hk]; omega), ha0, mul_zero, UInt8.xor_zero]
      refine ⟨d1, by rw [hkeep i d1]; exact d2, fun k hk hki => ?_⟩
      rw [hkeep k hk]
      exact d3 k hk hki
  · obtain ⟨k, hk, rfl⟩ := getD_mem2 (y := []) hx
    rw [h.size] at hk
    have hma := SpanL.mem (n := n) (getD_mem (l := elimTo l a l.length) (k := a) (x := []) (by rw [hsz]; exact haN))
    rw [hgeta] at hma
    by_cases hka : k = a
    · rw [hka]; exact hma
    · have hmk := SpanL.mem (n := n) (getD_mem (l := elimTo l a l.length) (k := k) (x := []) (by rw [hsz]; exact hk))
      rw [hget k hk hka] at hmk
      refine (hmk.add (hma.smul (mul ((l.getD k []).getD a 0) (inv ((l.getD a []).getD a 0))))).congr fun i hi => ?_
      have e : vec (lessR (l.getD k []) (l.getD a []) a) i = _ := lessR_get (by rw [hlen k hk]; omega)
      rw [e]
      show (l.getD k []).getD i 0 = (l.getD k []).getD i 0 ^^^ mul _ ((l.getD a []).getD i 0) ^^^ mul _ ((l.getD a []).getD i 0)
      rw [xor_assoc, UInt8.xor_self, UInt8.xor_zero]
/-- Every step goes. -/
theorem gj_good {n N : Nat} {l : List (List UInt8)} (h : GJ n N l 0) : ∀ a, a ≤ n → GJ n N (gjTo l a) a
  | 0, _ => h
  | a + 1, ha => by
    have ih := gj_good h a (by omega)
    obtain ⟨q, q1, q2, q3⟩ := ih.pivot (by omega)
    obtain ⟨p1, p2, p3, _⟩ := pivFrom_spec (by rw [ih.size]; exact q2) q1 q3
    rw [ih.size] at p2
    have hs := ih.swap p1 p2
    rw [gjTo_next, ← swapR_len (gjTo l a) (pivFrom (gjTo l a) a) a]
    refine hs.elim (by omega) (by omega) ?_
    rw [swapR_a (by rw [ih.size]; omega)]
    exact p3
/-- All equations hold of what the data are. -/
def EqsOf (n : Nat) (D : Nat → UInt8) (l : List (List UInt8)) : Prop := ∀ r ∈ l, r.length = n + 1 ∧ r.getD n 0 = sm n fun i => mul (r.getD i 0) (D i)
theorem eqs_less {n : Nat} {D : Nat → UInt8} {r o : List UInt8} {a : Nat} (hr : r.length = n + 1 ∧ r.getD n 0 = sm n fun i => mul (r.getD i 0) (D i)) (ho : o.length = n + 1 ∧ o.getD n 0 = sm n fun i => mul (o.getD i 0) (D i)) :
    (lessR r o a).length = n + 1 ∧ (lessR r o a).getD n 0 = sm n fun i => mul ((lessR r o a).getD i 0) (D i) := by
  refine ⟨by rw [lessR_len, hr.1], ?_⟩
  rw [lessR_get (by rw [hr.1]; omega), hr.2, ho.2, sm_mul, ← sm_add]
  refine sm_congr fun i hi => ?_
  rw [lessR_get (by rw [hr.1]; omega), xor_mul]
  congr 1
  exact (mul_assoc _ _ _).symm
theorem eqs_step {n a : Nat} {D : Nat → UInt8} {l : List (List UInt8)} (h : EqsOf n D l) {p : Nat} (ha : a < l.length) (hp : p < l.length) : EqsOf n D (elimTo (swapR l p a) a l.length) := by
  have hs : EqsOf n D (swapR l p a) := fun r hr => by
    obtain ⟨k, hk, rfl⟩ := getD_mem2 (y := []) hr
    rw [swapR_len] at hk
    by_cases hka : k = a
    · rw [hka, swapR_a ha]; exact h _ (getD_mem hp)
    · by_cases hkp : k = p
      · rw [hkp, swapR_p hp (by omega)]; exact h _ (getD_mem ha)
      · rw [swapR_other hkp hka]; exact h _ (getD_mem hk)
  intro r hr
  obtain ⟨k, hk, rfl⟩ := getD_mem2 (y := []) hr
  rw [elimTo_len, swapR_len] at hk
  rw [elimTo_get (by rw [swapR_len]; exact Nat.le_refl _)]
  have e1 := hs _ (getD_mem (l := swapR l p a) (k := k) (x := []) (by rw [swapR_len]; exact hk))
  split
  · exact eqs_less e1 (hs _ (getD_mem (l := swapR l p a) (k := a) (x := []) (by rw [swapR_len]; exact ha)))
  · exact e1
theorem gj_eqs {n N : Nat} {D : Nat → UInt8} {l : List (List UInt8)} (h : GJ n N l 0) (he : EqsOf n D l) : ∀ a, a ≤ n → EqsOf n D (gjTo l a)
  | 0, _ => he
  | a + 1, ha => by
    have ih := gj_eqs h he a (by omega)
    have hg := gj_good h a (by omega)
    obtain ⟨q, q1, q2, q3⟩ := hg.pivot (by omega)
    obtain ⟨p1, p2, p3, _⟩ := pivFrom_spec (by rw [hg.size]; exact q2) q1 q3
    rw [gjTo_next]
    exact eqs_step ih (by rw [hg.size]; omega) p2
/-- What the specification solves equations for. -/
def solvedR (l : List (List UInt8)) (n : Nat) : List UInt8 := (List.range n).map fun a => mul (((gjTo l n).getD a []).getD n 0) (inv (((gjTo l n).getD a []).getD a 0))
theorem solvedR_len (l : List (List UInt8)) (n : Nat) : (solvedR l n).length = n := by simp [solvedR]
/-- THE SPECIFICATION SOLVES EQUATIONS FOR WHAT THEY FIT. -/
theorem solvedR_fits {n N : Nat} {D : Nat → UInt8} {l : List (List UInt8)} (h : GJ n N l 0) (he : EqsOf n D l) {a : Nat} (ha : a < n) : (solvedR l n).getD a 0 = D a := by
  have hg := gj_good h n (Nat.le_refl _)
  have hq := gj_eqs h he n (Nat.le_refl _)
  obtain ⟨d1, d2, _⟩ := hg.diag a ha
  obtain ⟨_, e2⟩ := hq _ (getD_mem (l := gjTo l n) (k := a) (x := []) (by rw [hg.size]; exact d1))
  unfold solvedR
  rw [getD_map_range _ _ ha, e2, sm_one (p := a) _ ha fun j hj hne => by
    obtain ⟨_, _, j3⟩ := hg.diag j hj
    rw [j3 a d1 (Ne.symm hne), zero_mul]]
  rw [mul_comm, ← mul_assoc, inv_mul d2, one_mul]
/-- The equations of one offset, from the first k pieces. -/
def eqTo (R : List (List UInt8)) (m : Nat) (pieces : List (List UInt8)) (x : Nat) : Nat → List (List UInt8)
  | 0 => []
  | k + 1 => if bitAt m k = 1 then eqTo R m pieces x k ++ [R.getD k [] ++ [(pieces.getD k []).getD x 0]] else eqTo R m pieces x k
theorem eqTo_zero (R : List (List UInt8)) (m : Nat) (pieces : List (List UInt8)) (x : Nat) : eqTo R m pieces x 0 = [] := rfl
theorem eqTo_yes {R : List (List UInt8)} {m : Nat} {pieces : List (List UInt8)} {x k : Nat} (h : bitAt m k = 1) : eqTo R m pieces x (k + 1) = eqTo R m pieces x k ++ [R.getD k [] ++ [(pieces.getD k []).getD x 0]] := if_pos h
theorem eqTo_no {R : List (List UInt8)} {m : Nat} {pieces : List (List UInt8)} {x k : Nat} (h : bitAt m k ≠ 1) : eqTo R m pieces x (k + 1) = eqTo R m pieces x k := if_neg h
theorem eqTo_len (R : List (List UInt8)) (m : Nat) (pieces : List (List UInt8)) (x : Nat) : ∀ k, (eqTo R m pieces x k).length ≤ k
  | 0 => Nat.le_refl _
  | k + 1 => by
    have ih := eqTo_len R m pieces x k
    by_cases h : bitAt m k = 1
    · rw [eqTo_yes h]; simp; omega
    · rw [eqTo_no h]; omega
theorem eqTo_mem {R : List (List UInt8)} {m : Nat} {pieces : List (List UInt8)} {x : Nat} {r : List UInt8} : ∀ {k : Nat}, r ∈ eqTo R m pieces x k ↔ ∃ j, j < k ∧ bitAt m j = 1 ∧ r = R.getD j [] ++ [(pieces.getD j []).getD x 0]
  | 0 => by simp [eqTo]
  | k + 1 => by
    by_cases h : bitAt m k = 1
    · rw [eqTo_yes h, List.mem_append, List.mem_singleton, eqTo_mem]
      constructor
      · rintro (⟨j, h1, h2, h3⟩ | h3)
        · exact ⟨j, by omega, h2, h3⟩
        · exact ⟨k, by omega, h, h3⟩
      · rintro ⟨j, h1, h2, h3⟩
        by_cases hj : j = k
        · subst hj; exact .inr h3
        · exact .inl ⟨j, by omega, h2, h3⟩
    · rw [eqTo_no h, eqTo_mem]
      constructor
      · rintro ⟨j, h1, h2, h3⟩; exact ⟨j, by omega, h2, h3⟩
      · rintro ⟨j, h1, h2, h3⟩
        by_cases hj : j = k
        · subst hj; exact absurd h2 h
        · exact ⟨j, by omega, h2, h3⟩
theorem app_get {r : List UInt8} {b : UInt8} {i : Nat} (h : i < r.length) : (r ++ [b]).getD i 0 = r.getD i 0 := by
  rw [List.getD_eq_getElem?_getD, List.getElem?_append_left h, List.getD_eq_getElem?_getD]
theorem app_last {r : List UInt8} {b : UInt8} {n : Nat} (h : r.length = n) : (r ++ [b]).getD n 0 = b := by
  subst h
  rw [List.getD_eq_getElem?_getD, List.getElem?_append_right (Nat.le_refl _)]
  simp
/-- The equations of a set that suffices begin the solving. -/
theorem eqs_good {d gl m : Nat} {gs : List (List Int)} {R pieces : List (List UInt8)} (hR : rowsOf (d : Int) gs (gl : Int) = R) (hc : can d gl gs (m : Int) = true) (x : Nat) : GJ d (eqTo R m pieces x R.length).length (eqTo R m pieces x R.length) 0 := by
  obtain ⟨h0, _, h2⟩ := can_def.1 hc
  have hw : ∀ k, k < R.length → (R.getD k []).length = d := fun k hk => by
    rw [← hR] at hk ⊢
    have := rowsOf_at h0 hk
    simpa using this
  refine ⟨rfl, fun r hr => ?_, fun i hi => by omega, ?_⟩
  · obtain ⟨j, h1, _, rfl⟩ := eqTo_mem.1 hr
    rw [List.length_append, hw j h1]; rfl
  · rw [Int.toNat_natCast, Gf.stairs_iff (fun r hr => by have := rowsOf_width h0 (pickTo_mem hr); simpa using this)] at h2
    intro v
    refine (h2 v).trans fun y hy => ?_
    rw [hR] at hy
    have hy2 : ∃ j, j < R.length ∧ bitAt m j = 1 ∧ y = R.getD j [] := by
      unfold pick pickTo at hy
      obtain ⟨j, hj, h3⟩ := List.mem_filterMap.1 hy
      have hj := List.mem_range.1 hj
      split at h3
      · rename_i hb
        rw [List.getElem?_eq_getElem hj] at h3
        injection h3 with h3
        exact ⟨j, hj, hb, by rw [← h3, List.getD_eq_getElem?_getD, List.getElem?_eq_getElem hj]; rfl⟩
      · cases h3
    obtain ⟨j, h3, h4, rfl⟩ := hy2
    refine (SpanL.mem (eqTo_mem.2 ⟨j, h3, h4, rfl⟩)).congr fun i hi => ?_
    exact (app_get (by rw [hw j h3]; exact hi)).symm
/-- The bytes of all data pieces. -/
def dataR (R : List (List UInt8)) (d sz m : Nat) (pieces : List (List UInt8)) : List UInt8 := (List.range (d * sz)).map fun t => (solvedR (eqTo R m pieces (t % sz) R.length) d).getD (t / sz) 0
theorem dataR_len (R : List (List UInt8)) (d sz m : Nat) (pieces : List (List UInt8)) : (dataR R d sz m pieces).length = d * sz := by simp [dataR]
/-- Pieces that a chunk has are solved for it. -/
theorem dataR_fits {d gl m : Nat} {gs : List (List Int)} {R pieces : List (List UInt8)} {X : List UInt8} (hR : rowsOf (d : Int) gs (gl : Int) = R) (hc : can d gl gs (m : Int) = true) (hp : ∀ k, k < R.length → bitAt m k = 1 → pieces.getD k [] = (encode d gl gs X).getD k []) :
    (dataR R d (sizeN d X.length) m pieces).take X.length = X := by
  obtain ⟨h0, _, _⟩ := can_def.1 hc
  have hk := check_ok h0
  have hd : 0 < d := by omega
  obtain ⟨sz, hsz⟩ : ∃ sz, sizeN d X.length = sz := ⟨_, rfl⟩
  have hfull : dataR R d sz m pieces = fill (d * sz) X := by
    apply List.ext_getElem
    · rw [dataR_len, fill_len (by rw [← hsz]; exact size_ge hd _)]
    · intro t h1 h2
      have ht : t < d * sz := by rw [dataR_len] at h1; exact h1
      have hs0 : 0 < sz := by
        rcases Nat.eq_zero_or_pos sz with h | h
        · rw [h] at ht; simp at ht
        · exact h
      have htd : t / sz < d := (Nat.div_lt_iff_lt_mul hs0).2 ht
      have hx : t % sz < sz := Nat.mod_lt _ hs0
      have e1 : (dataR R d sz m pieces)[t] = (solvedR (eqTo R m pieces (t % sz) R.length) d).getD (t / sz) 0 := by simp [dataR]
      have heq : EqsOf d (fun i => dataAt d X i (t % sz)) (eqTo R m pieces (t % sz) R.length) := fun r hr => by
        obtain ⟨j, j1, j2, rfl⟩ := eqTo_mem.1 hr
        have hj : j < (rowsOf (d : Int) gs (gl : Int)).length := by rw [hR]; exact j1
        have hw := rowsOf_at h0 hj
        rw [hR, Int.toNat_natCast] at hw
        have hf := (encode_fits h0 X hj).2 (t % sz) (by rw [Int.toNat_natCast, hsz]; exact hx)
        rw [Int.toNat_natCast, hR] at hf
        refine ⟨by rw [List.length_append, hw]; rfl, ?_⟩
        rw [app_last hw, hp j j1 j2, hf]
        refine sm_congr fun i hi => ?_
        rw [app_get (by rw [hw]; exact hi)]
      have hg := eqs_good (pieces := pieces) hR hc (t % sz)
      have hs := solvedR_fits hg heq htd
      rw [e1, hs]
      unfold dataAt
      rw [cuts_get htd, hsz, cutAt_get hx]
      have e2 : t / sz * sz + t % sz = t := by rw [Nat.mul_comm]; exact Nat.div_add_mod t sz
      rw [e2, List.getD_eq_getElem?_getD, List.getElem?_eq_getElem h2]
      rfl
  rw [hsz, hfull, fill_take]
attribute [irreducible] gjTo elimTo swapR pivFrom
end Cd

/- THE WALKS over the specification of codes: equation, solved. -/
namespace Go.Proofs.YtgkohfmgdejkpaaDoor
open Go.RowKit
theorem ent_rinv : ∀ args w, (callFunc 71 args).run Tryd.prog w = .ok (.enter 71 args) w := enters_of Tryd.func71 (by kernel_rfl) rfl
theorem rd_of_mem {w0 w : World} {L : List LRow} (h : Owns w0 w L) {A : Option Addr} {c : Nat} {r : List UInt8} (hm : byteRow A c r ∈ L) : Rd w A (r.map bv) := by
  obtain ⟨k, hk, e⟩ := List.getElem_of_mem hm
  exact h.rd k (n := r.length) (by rw [List.getElem?_eq_getElem hk, e]; rfl)
theorem rs_of_mem {w0 w : World} {L : List LRow} (h : Owns w0 w L) {A : Option Addr} {c m : Nat} {r : List UInt8} (hm : byteRow A c r ∈ L) (hl : r.length = m) (hm2 : m ≤ 9223372036854775807) : Rs RB w (.slice A m c) r := by
  subst hl
  exact Rs.of_rd (rd_of_mem h hm) hm2
theorem RowsIn.put {vs : List Value} {L : List LRow} {rs : List (List UInt8)} (h : RowsIn vs L rs) {k m : Nat} {A2 : Option Addr} {c2 : Nat} {q : List UInt8} (hq : q.length = m) (hm : (⟨.slice A2 m c2, 5, 1, m, q.map bv⟩ : LRow) ∈ L) : RowsIn (vs.set k (.slice A2 m c2)) L (rs.set k q) := by
  subst hq
  refine ⟨by simp [h.1], fun j r hj => ?_⟩
  by_cases hjk : k = j
  · subst hjk
    have hk : k < rs.length := by
      have := (List.getElem?_eq_some_iff.1 hj).1
      simpa using this
    rw [List.getElem?_set_self hk] at hj
    injection hj with hj
    subst hj
    exact ⟨A2, c2, List.getElem?_set_self (by rw [h.1]; exact hk), hm⟩
  · rw [List.getElem?_set_ne hjk] at hj ⊢
    exact h.2 j r hj
theorem RowsIn.putR {vs : List Value} {L : List LRow} {rs : List (List UInt8)} (h : RowsIn vs L rs) {k m : Nat} {A2 : Option Addr} {c2 : Nat} {q : List UInt8} (hq : q.length = m) (hm : byteRow A2 c2 q ∈ L) : RowsIn (vs.set k (.slice A2 m c2)) L (rs.set k q) := by
  subst hq
  exact h.put rfl hm
theorem RowsIn.at {vs : List Value} {L : List LRow} {rs : List (List UInt8)} (h : RowsIn vs L rs) {k m : Nat} (hk : k < rs.length) (hm : (rs.getD k []).length = m) : ∃ A2 c2, vs[k]? = some (.slice A2 m c2) ∧ byteRow A2 c2 (rs.getD k []) ∈ L := by
  subst hm
  have e : rs[k]? = some (rs.getD k []) := by rw [List.getD_eq_getElem?_getD, List.getElem?_eq_getElem hk]; rfl
  exact h.2 k _ e
theorem ownsRow_some {w : World} {B e n c : Nat} {A : Option Addr} {xs : List Value} (h : w.ownsRow B e 1 (.slice A n c) n xs) (hn : 0 < n) : ∃ g, A = some ⟨g, 0, none⟩ := by
  rcases h.2 with ⟨h2, h0⟩ | ⟨g, cap, cur, hv, _⟩
  · omega
  · injection hv with e1
    exact ⟨g, e1⟩
theorem rEq_ok (d gl k : Nat) (b : UInt8) (gs : List (List Int)) (G : Value) (w : World) (hG : Rs (Rs RI) w G gs) (h0 : Cd.check d gs gl = 0) (hk : k < d + gs.length + gl) :
    Calls Tryd.prog 58 #[.agg #[.int .i64 d, G, .int .i64 gl], .int .i64 k, bv b] w fun e w' => ∃ A c, e = .returned (.slice A (d + 1) c) ∧ Ext w w' ∧ w'.ownsRow w.heap.size 5 1 (.slice A (d + 1) c) (d + 1) (((List.range d).map (Cd.rowAt d gs k) ++ [b]).map bv) := by
  have hx0 := (Ext.refl w).alloc (.cells #[.int .i64 d, G, .int .i64 gl] 24)
  have HX := Lib.hid (And.intro hx0 (Rs.ext (Rs.ext RI.ext) _ _ _ _ hx0 hG))
  obtain ⟨GA, Gc, rfl, hgl⟩ := hG.form
  have hck := Cd.check_ok h0
  have hd16 : d ≤ 16 := by omega
  have HC := Lib.hid (And.intro h0 hk)
  clear hG hx0 h0 hk hck
  go_enter Tryd.func58, Tryd.ntmps58
  go_wp2_with fail
  refine (rRow_ok d gl k gs _ _ HX.out.2 HC.out.1 HC.out.2).mono ?_
  rintro e w1 ⟨A1, c1, rfl, hx1, ho1⟩
  have HO1 := Lib.hid (And.intro hx1 ho1)
  clear hx1 ho1
  go_wp2_with (at_builtin; refine wpl_append_new (w.alloc (.cells #[.int .i64 d, .slice GA gs.length Gc, .int .i64 gl] 24)) 57 5 rfl _ _ rfl Tryd.underlying57 info_u8 rfl rfl HO1.out.2 HO1.out.1 rfl rfl (by omega) (by omega) ?_; intro A' c' w2 ho hx _)
  have HO := Lib.hid (And.intro hx ho)
  clear hx ho
  go_wp2_with fail
  go_ret
  refine ⟨A', c', rfl, HX.out.1.trans HO.out.1, own_older ?_ HX.out.1.size⟩
  rw [List.map_append]
  exact HO.out.2
noncomputable def elim_set_code : Code := ((Tryd.f59.body.bind (regionOf 14)).getD .skip)
def elim_set_dsts : List (Option Nat) := [some 51, some 52, some 53, some 54, some 55, some 56, some 57, some 58, some 59, some 60, some 61, some 62, some 63, none]
theorem elim_set_apart : apartD elim_set_dsts = true := by decide +kernel
set_option maxRecDepth 1000000 in
set_option maxHeartbeats 16000000 in
theorem elim_set (g n cl k xa m cr co : Nat) (RA OA : Option Addr) (r o q : List UInt8) (vs : List Value) (M0 : List LRow) (w wr : World) (hk : k < n) (hxa : xa < n) (hm : r.length = m) (hmo : o.length = m) (hl : m ≤ 1000) (ha : xa < m) (ho : Hid (o.getD xa 0 ≠ 0)) (hq : Hid (q = Cd.lessR r o xa)) (hv1 : Hid (vs[k]? = some (.slice RA m cr))) (hv2 : Hid (vs[xa]? = some (.slice OA m co))) (hm1 : Hid (byteRow RA cr r ∈ M0)) (hm2 : Hid (byteRow OA co o ∈ M0)) (HOO : Hid (Owns w wr.drew (⟨.slice (some ⟨g, 0, none⟩) n cl, 57, 1, n, vs⟩ :: (M0 ++ [])))) (c1 c2 c3 c4 c6 c7 c9 c10 c11 c12 c13 c14 c15 c16 c17 c18 c19 c20 c21 c22 c23 c24 c25 c26 c27 c28 c29 c30 c31 c32 c33 c34 c35 c36 c37 c38 c39 c40 c41 c42 c43 c44 c45 c46 c47 c48 c49 c50 c51 c52 c53 c54 c55 c56 c57 c58 c59 c60 c61 c62 c63 c64 c65 c66 c67 c68 c69 c70 c71 c72 c73 c74 c75 c76 c77 c78 c79 c80 c81 c82 c83 c84 c85 c86 c87 c88 : Value) (df : List Deferred) (K : Act → World → Prop)
    (hK : ∀ (A2 : Option Addr) (ce : Nat) (u51 u52 u53 u54 u55 u56 u57 u58 u59 u60 u61 u62 u63 : Value) (wx : World), Owns w wx (⟨.slice (some ⟨g, 0, none⟩) n cl, 57, 1, n, vs.set k (.slice A2 m ce)⟩ :: (M0 ++ [(⟨.slice A2 m ce, 5, 1, m, q.map bv⟩ : LRow)])) → K ⟨#[.slice (some ⟨g, 0, none⟩) n cl, c1, c2, c3, c4, .int .i64 xa, c6, c7, .int .i64 k, c9, c10, c11, c12, c13, c14, c15, c16, c17, c18, c19, c20, c21, c22, c23, c24, c25, c26, c27, c28, c29, c30, c31, c32, c33, c34, c35, c36, c37, c38, c39, c40, c41, c42, c43, c44, c45, c46, c47, c48, c49, c50, u51, u52, u53, u54, u55, u56, u57, u58, u59, u60, u61, u62, u63, c64, c65, c66, c67, c68, c69, c70, c71, c72, c73, c74, c75, c76, c77, c78, c79, c80, c81, c82, c83, c84, c85, c86, c87, c88], df⟩ wx) :
    Code.wp Tryd.prog elim_set_code (AtEnd K) ⟨#[.slice (some ⟨g, 0, none⟩) n cl, c1, c2, c3, c4, .int .i64 xa, c6, c7, .int .i64 k, c9, c10, c11, c12, c13, c14, c15, c16, c17, c18, c19, c20, c21, c22, c23, c24, c25, c26, c27, c28, c29, c30, c31, c32, c33, c34, c35, c36, c37, c38, c39, c40, c41, c42, c43, c44, c45, c46, c47, c48, c49, c50, c51, c52, c53, c54, c55, c56, c57, c58, c59, c60, c61, c62, c63, c64, c65, c66, c67, c68, c69, c70, c71, c72, c73, c74, c75, c76, c77, c78, c79, c80, c81, c82, c83, c84, c85, c86, c87, c88], df⟩ wr := by
  conv => arg 2; whnf
  refine region_inv (by kernel_rfl) [[], [], [], [], [2, 3], [4], [], [], [6, 7], [8], [], [5, 9, 10], [0, 1, 0, 1, 2, 3, 4, 5, 6, 7, 8, 9, 10, 11], [12, 11, 11, 0, 1, 2, 3, 4, 5, 6, 7, 8, 9, 10, 11]] (by kernel_rfl) [0, 1, 2, 3, 4, 5, 6, 7, 8, 9, 10, 11, 12, 13] (by decide +kernel) (by decide +kernel) (by decide +kernel) (fun L a wc => ∃ (A2 : Option Addr) (ce : Nat), Inv elim_set_dsts [.slice (some ⟨g, 0, none⟩) n cl, .int .i64 k, .slice (some ⟨g, 0, none⟩) n cl, .int .i64 k, .pointer (some ⟨g, k, none⟩), .slice RA m cr, .slice (some ⟨g, 0, none⟩) n cl, .int .i64 xa, .pointer (some ⟨g, xa, none⟩), .slice OA m co, .int .i64 xa, .slice A2 m ce, .pointer (some ⟨g, k, none⟩), undef] ⟨#[.slice (some ⟨g, 0, none⟩) n cl, c1, c2, c3, c4, .int .i64 xa, c6, c7, .int .i64 k, c9, c10, c11, c12, c13, c14, c15, c16, c17, c18, c19, c20, c21, c22, c23, c24, c25, c26, c27, c28, c29, c30, c31, c32, c33, c34, c35, c36, c37, c38, c39, c40, c41, c42, c43, c44, c45, c46, c47, c48, c49, c50, c51, c52, c53, c54, c55, c56, c57, c58, c59, c60, c61, c62, c63, c64, c65, c66, c67, c68, c69, c70, c71, c72, c73, c74, c75, c76, c77, c78, c79, c80, c81, c82, c83, c84, c85, c86, c87, c88], df⟩ L a ∧ Hid (Owns w wc ((if L 13 = true then ⟨.slice (some ⟨g, 0, none⟩) n cl, 57, 1, n, vs.set k (.slice A2 m ce)⟩ else ⟨.slice (some ⟨g, 0, none⟩) n cl, 57, 1, n, vs⟩) :: (M0 ++ (if L 11 = true then [(⟨.slice A2 m ce, 5, 1, m, q.map bv⟩ : LRow)] else []))))) ⟨none, 0, Inv.start, HOO⟩ ?_ ?_
  · refine ⟨?_, ?_, ?_, ?_, ?_, ?_, ?_, ?_, ?_, ?_, ?_, ?_, ?_, ?_, trivial⟩
    · -- 0 move
      rintro L a wc ⟨A2, ce, hv, HO⟩ hL hc hd
      exact wpOp_val rfl rfl (ex_move rfl ((hv.fixed 0 (by decide)).trans rfl)) ⟨A2, ce, hv.put elim_set_apart 0 rfl (Nat.le_of_ble_eq_true rfl) (Nat.le_of_ble_eq_true rfl) rfl, HO⟩
    · -- 1 move
      rintro L a wc ⟨A2, ce, hv, HO⟩ hL hc hd
      exact wpOp_val rfl rfl (ex_move rfl ((hv.fixed 8 (by decide)).trans rfl)) ⟨A2, ce, hv.put elim_set_apart 1 rfl (Nat.le_of_ble_eq_true rfl) (Nat.le_of_ble_eq_true rfl) rfl, HO⟩
    · -- 2 move
      rintro L a wc ⟨A2, ce, hv, HO⟩ hL hc hd
      exact wpOp_val rfl rfl (ex_move rfl ((hv.fixed 0 (by decide)).trans rfl)) ⟨A2, ce, hv.put elim_set_apart 2 rfl (Nat.le_of_ble_eq_true rfl) (Nat.le_of_ble_eq_true rfl) rfl, HO⟩
    · -- 3 move
      rintro L a wc ⟨A2, ce, hv, HO⟩ hL hc hd
      exact wpOp_val rfl rfl (ex_move rfl ((hv.fixed 8 (by decide)).trans rfl)) ⟨A2, ce, hv.put elim_set_apart 3 rfl (Nat.le_of_ble_eq_true rfl) (Nat.le_of_ble_eq_true rfl) rfl, HO⟩
    · -- 4 index
      rintro L a wc ⟨A2, ce, hv, HO⟩ hL hc hd
      have b1 : (0 : Int) ≤ (k : Int) := by omega
      have b2 : (k : Int) < (n : Int) := by omega
      exact wpOp_val rfl rfl (ex_index rfl (hv.get 2 rfl rfl (hd 2 (by decide))) (hv.get 3 rfl rfl (hd 3 (by decide))) (by go_simp)) ⟨A2, ce, hv.put elim_set_apart 4 rfl (Nat.le_of_ble_eq_true rfl) (Nat.le_of_ble_eq_true rfl) rfl, HO⟩
    · -- 5 load
      rintro L a wc ⟨A2, ce, hv, HO⟩ hL hc hd
      have n13 : L 13 = false := Bool.eq_false_iff.2 fun h => Bool.false_ne_true (hL.symm.trans (hc 11 (hc 13 h 11 (by decide)) 5 (by decide)))
      have hO := HO.out
      simp only [n13, Bool.false_eq_true, if_false] at hO
      have eX : wc.cell? ⟨g, k, none⟩ = some (.slice RA m cr) := hO.cell 0 rfl k hv1.out
      exact wpOp_val rfl rfl (ex_load rfl (hv.get 4 rfl rfl (hd 4 (by decide))) (by go_simp)) ⟨A2, ce, hv.put elim_set_apart 5 rfl (Nat.le_of_ble_eq_true rfl) (Nat.le_of_ble_eq_true rfl) rfl, HO⟩
    · -- 6 move
      rintro L a wc ⟨A2, ce, hv, HO⟩ hL hc hd
      exact wpOp_val rfl rfl (ex_move rfl ((hv.fixed 0 (by decide)).trans rfl)) ⟨A2, ce, hv.put elim_set_apart 6 rfl (Nat.le_of_ble_eq_true rfl) (Nat.le_of_ble_eq_true rfl) rfl, HO⟩
    · -- 7 move
      rintro L a wc ⟨A2, ce, hv, HO⟩ hL hc hd
      exact wpOp_val rfl rfl (ex_move rfl ((hv.fixed 5 (by decide)).trans rfl)) ⟨A2, ce, hv.put elim_set_apart 7 rfl (Nat.le_of_ble_eq_true rfl) (Nat.le_of_ble_eq_true rfl) rfl, HO⟩
    · -- 8 index
      rintro L a wc ⟨A2, ce, hv, HO⟩ hL hc hd
      have b1 : (0 : Int) ≤ (xa : Int) := by omega
      have b2 : (xa : Int) < (n : Int) := by omega
      exact wpOp_val rfl rfl (ex_index rfl (hv.get 6 rfl rfl (hd 6 (by decide))) (hv.get 7 rfl rfl (hd 7 (by decide))) (by go_simp)) ⟨A2, ce, hv.put elim_set_apart 8 rfl (Nat.le_of_ble_eq_true rfl) (Nat.le_of_ble_eq_true rfl) rfl, HO⟩
    · -- 9 load
      rintro L a wc ⟨A2, ce, hv, HO⟩ hL hc hd
      have n13 : L 13 = false := Bool.eq_false_iff.2 fun h => Bool.false_ne_true (hL.symm.trans (hc 11 (hc 13 h 11 (by decide)) 9 (by decide)))
      have hO := HO.out
      simp only [n13, Bool.false_eq_true, if_false] at hO
      have eX : wc.cell? ⟨g, xa, none⟩ = some (.slice OA m co) := hO.cell 0 rfl xa hv2.out
      exact wpOp_val rfl rfl (ex_load rfl (hv.get 8 rfl rfl (hd 8 (by decide))) (by go_simp)) ⟨A2, ce, hv.put elim_set_apart 9 rfl (Nat.le_of_ble_eq_true rfl) (Nat.le_of_ble_eq_true rfl) rfl, HO⟩
    · -- 10 move
      rintro L a wc ⟨A2, ce, hv, HO⟩ hL hc hd
      exact wpOp_val rfl rfl (ex_move rfl ((hv.fixed 5 (by decide)).trans rfl)) ⟨A2, ce, hv.put elim_set_apart 10 rfl (Nat.le_of_ble_eq_true rfl) (Nat.le_of_ble_eq_true rfl) rfl, HO⟩
    · -- 11 call
      rintro L a wc ⟨A2, ce, hv, HO⟩ hL hc hd
      refine wpOp_call (R := fun v w1 => ∃ A3 c3, v = .slice A3 m c3 ∧ Ext wc w1 ∧ w1.ownsRow wc.heap.size 5 1 (.slice A3 m c3) m (q.map bv)) rfl rfl (ex_call rfl rfl (map3c (hv.get 5 rfl rfl (hd 5 (by decide))) (hv.get 9 rfl rfl (hd 9 (by decide))) (hv.get 10 rfl rfl (hd 10 (by decide)))) (ent_less _ _)) ((rLess_at r o xa m (.slice RA m cr) (.slice OA m co) wc hm (rs_of_mem HO.out (List.mem_cons_of_mem _ (List.mem_append_left _ hm1.out)) hm (by omega)) (rs_of_mem HO.out (List.mem_cons_of_mem _ (List.mem_append_left _ hm2.out)) hmo (by omega)) hl (by omega) ha ho.out).mono (fun e w' ⟨A3, c3, h1, h2, h3⟩ => ⟨_, h1, A3, c3, rfl, h2, by rw [hq.out]; exact h3⟩)) ?_
      rintro v w' ⟨A3, c3, rfl, hx, ho2⟩
      have n13 : L 13 = false := Bool.eq_false_iff.2 fun h => Bool.false_ne_true (hL.symm.trans (hc 13 h 11 (by decide)))
      have h := HO.out.behind hx ho2
      simp only [hL, n13, Bool.false_eq_true, if_false, List.append_nil] at h
      have h2 : Owns w w' ((if L 13 = true then ⟨.slice (some ⟨g, 0, none⟩) n cl, 57, 1, n, vs.set k (.slice A3 m c3)⟩ else ⟨.slice (some ⟨g, 0, none⟩) n cl, 57, 1, n, vs⟩) :: (M0 ++ [(⟨.slice A3 m c3, 5, 1, m, q.map bv⟩ : LRow)])) := by simp only [n13, Bool.false_eq_true, if_false]; simpa using h
      exact ⟨A3, c3, hv.put elim_set_apart 11 rfl (Nat.le_of_ble_eq_true rfl) (Nat.le_of_ble_eq_true rfl) rfl, Lib.hid h2⟩
    · -- 12 index
      rintro L a wc ⟨A2, ce, hv, HO⟩ hL hc hd
      have b1 : (0 : Int) ≤ (k : Int) := by omega
      have b2 : (k : Int) < (n : Int) := by omega
      exact wpOp_val rfl rfl (ex_index rfl (hv.get 0 rfl rfl (hd 0 (by decide))) (hv.get 1 rfl rfl (hd 1 (by decide))) (by go_simp)) ⟨A2, ce, hv.put elim_set_apart 12 rfl (Nat.le_of_ble_eq_true rfl) (Nat.le_of_ble_eq_true rfl) rfl, HO⟩
    · -- 13 store
      rintro L a wc ⟨A2, ce, hv, HO⟩ hL hc hd
      have hO := HO.out
      have h11 : L 11 = true := hd 11 (by decide)
      simp only [hL, h11, Bool.false_eq_true, if_false, if_true] at hO
      have eX : wc.cell? ⟨g, k, none⟩ = some (.slice RA m cr) := hO.cell 0 rfl k hv1.out
      have eF : wc.frozen? ⟨g, k, none⟩ = false := hO.frozen 0 rfl k
      have hS : Owns w (wc.setCell ⟨g, k, none⟩ (.slice A2 m ce)) (⟨.slice (some ⟨g, 0, none⟩) n cl, 57, 1, n, vs.set k (.slice A2 m ce)⟩ :: (M0 ++ (if L 11 = true then [(⟨.slice A2 m ce, 5, 1, m, q.map bv⟩ : LRow)] else []))) := by simp only [h11, if_true]; exact hO.store 0 rfl k (.slice A2 m ce)
      exact wpOp_skip rfl rfl rfl (ex_store rfl (hv.get 12 rfl rfl (hd 12 (by decide))) (hv.get 11 rfl rfl (hd 11 (by decide))) (by go_simp)) ⟨A2, ce, hv.skip 13 rfl, Lib.hid hS⟩
  · rintro L a wc ⟨A2, ce, hv, HO⟩ hall
    show K a wc
    have ha := act_lit a
    rw [hv.size, hv.defers] at ha
    have hl : ∀ f : Nat → Value, ((List.range (⟨#[.slice (some ⟨g, 0, none⟩) n cl, c1, c2, c3, c4, .int .i64 xa, c6, c7, .int .i64 k, c9, c10, c11, c12, c13, c14, c15, c16, c17, c18, c19, c20, c21, c22, c23, c24, c25, c26, c27, c28, c29, c30, c31, c32, c33, c34, c35, c36, c37, c38, c39, c40, c41, c42, c43, c44, c45, c46, c47, c48, c49, c50, c51, c52, c53, c54, c55, c56, c57, c58, c59, c60, c61, c62, c63, c64, c65, c66, c67, c68, c69, c70, c71, c72, c73, c74, c75, c76, c77, c78, c79, c80, c81, c82, c83, c84, c85, c86, c87, c88], df⟩ : Act).tmps.size).map f).toArray = #[f 0, f 1, f 2, f 3, f 4, f 5, f 6, f 7, f 8, f 9, f 10, f 11, f 12, f 13, f 14, f 15, f 16, f 17, f 18, f 19, f 20, f 21, f 22, f 23, f 24, f 25, f 26, f 27, f 28, f 29, f 30, f 31, f 32, f 33, f 34, f 35, f 36, f 37, f 38, f 39, f 40, f 41, f 42, f 43, f 44, f 45, f 46, f 47, f 48, f 49, f 50, f 51, f 52, f 53, f 54, f 55, f 56, f 57, f 58, f 59, f 60, f 61, f 62, f 63, f 64, f 65, f 66, f 67, f 68, f 69, f 70, f 71, f 72, f 73, f 74, f 75, f 76, f 77, f 78, f 79, f 80, f 81, f 82, f 83, f 84, f 85, f 86, f 87, f 88] := fun _ => rfl
    rw [hl] at ha
    simp only [hv.fixed 0 (by decide), hv.fixed 1 (by decide), hv.fixed 2 (by decide), hv.fixed 3 (by decide), hv.fixed 4 (by decide), hv.fixed 5 (by decide), hv.fixed 6 (by decide), hv.fixed 7 (by decide), hv.fixed 8 (by decide), hv.fixed 9 (by decide), hv.fixed 10 (by decide), hv.fixed 11 (by decide), hv.fixed 12 (by decide), hv.fixed 13 (by decide), hv.fixed 14 (by decide), hv.fixed 15 (by decide), hv.fixed 16 (by decide), hv.fixed 17 (by decide), hv.fixed 18 (by decide), hv.fixed 19 (by decide), hv.fixed 20 (by decide), hv.fixed 21 (by decide), hv.fixed 22 (by decide), hv.fixed 23 (by decide), hv.fixed 24 (by decide), hv.fixed 25 (by decide), hv.fixed 26 (by decide), hv.fixed 27 (by decide), hv.fixed 28 (by decide), hv.fixed 29 (by decide), hv.fixed 30 (by decide), hv.fixed 31 (by decide), hv.fixed 32 (by decide), hv.fixed 33 (by decide), hv.fixed 34 (by decide), hv.fixed 35 (by decide), hv.fixed 36 (by decide), hv.fixed 37 (by decide), hv.fixed 38 (by decide), hv.fixed 39 (by decide), hv.fixed 40 (by decide), hv.fixed 41 (by decide), hv.fixed 42 (by decide), hv.fixed 43 (by decide), hv.fixed 44 (by decide), hv.fixed 45 (by decide), hv.fixed 46 (by decide), hv.fixed 47 (by decide), hv.fixed 48 (by decide), hv.fixed 49 (by decide), hv.fixed 50 (by decide), hv.fixed 64 (by decide), hv.fixed 65 (by decide), hv.fixed 66 (by decide), hv.fixed 67 (by decide), hv.fixed 68 (by decide), hv.fixed 69 (by decide), hv.fixed 70 (by decide), hv.fixed 71 (by decide), hv.fixed 72 (by decide), hv.fixed 73 (by decide), hv.fixed 74 (by decide), hv.fixed 75 (by decide), hv.fixed 76 (by decide), hv.fixed 77 (by decide), hv.fixed 78 (by decide), hv.fixed 79 (by decide), hv.fixed 80 (by decide), hv.fixed 81 (by decide), hv.fixed 82 (by decide), hv.fixed 83 (by decide), hv.fixed 84 (by decide), hv.fixed 85 (by decide), hv.fixed 86 (by decide), hv.fixed 87 (by decide), hv.fixed 88 (by decide)] at ha
    rw [ha]
    have hO := HO.out
    simp only [hall 11 (by decide), hall 13 (by decide), if_true] at hO
    exact hK A2 ce _ _ _ _ _ _ _ _ _ _ _ _ _ wc hO
noncomputable def sol_app_code : Code := ((Tryd.f59.body.bind (regionOf 19)).getD .skip)
def sol_app_dsts : List (Option Nat) := [some 69, some 70, some 71, some 72, some 73, some 74, some 75, some 76, some 77, some 78, some 79, some 80, some 81, some 82, some 83, some 84, some 85, some 86, some 87, some 9]
theorem sol_app_apart : apartD sol_app_dsts = true := by decide +kernel
set_option maxRecDepth 1000000 in
set_option maxHeartbeats 16000000 in
theorem sol_app (bX : Addr) (A : Option Addr) (g n cl i ca d m cr : Nat) (xn xd : UInt8) (r : List UInt8) (la vs : List Value) (M0 : List LRow) (w wr : World) (hi8 : i < 1000000) (hin : i < n) (him : i < m) (hdm : d < m) (hne : Hid (xd ≠ 0)) (hv1 : Hid (vs[i]? = some (.slice (some bX) m cr))) (hm1 : Hid (byteRow (some bX) cr r ∈ M0)) (hxn : Hid (∀ w2 : World, Rd w2 (some bX) (r.map bv) → w2.cell? (bX.add d) = some (bv xn))) (hxd : Hid (∀ w2 : World, Rd w2 (some bX) (r.map bv) → w2.cell? (bX.add i) = some (bv xd))) (HOO : Hid (Owns w wr.drew (⟨.slice A i ca, 5, 1, i, la⟩ :: no :: ⟨.slice (some ⟨g, 0, none⟩) n cl, 57, 1, n, vs⟩ :: M0))) (c2 c3 c4 c5 c6 c7 c8 c11 c12 c13 c14 c15 c16 c17 c18 c19 c20 c21 c22 c23 c24 c25 c26 c27 c28 c29 c30 c31 c32 c33 c34 c35 c36 c37 c38 c39 c40 c41 c42 c43 c44 c45 c46 c47 c48 c49 c50 c51 c52 c53 c54 c55 c56 c57 c58 c59 c60 c61 c62 c63 c64 c65 c66 c67 c68 c69 c70 c71 c72 c73 c74 c75 c76 c77 c78 c79 c80 c81 c82 c83 c84 c85 c86 c87 c88 : Value) (df : List Deferred) (K : Act → World → Prop)
    (hK : ∀ (g18 k18 : Nat) (u69 u70 u71 u72 u73 u74 u75 u76 u77 u78 u79 u80 u81 u82 u83 u84 u85 u86 u87 : Value) (wx : World), Owns w wx (⟨.slice (some ⟨g18, 0, none⟩) (i + 1) k18, 5, 1, i + 1, la ++ [bv (Gf.mul xn (Gf.inv xd))]⟩ :: no :: ⟨.slice (some ⟨g, 0, none⟩) n cl, 57, 1, n, vs⟩ :: M0) → K ⟨#[.slice (some ⟨g, 0, none⟩) n cl, .int .i64 d, c2, c3, c4, c5, c6, c7, c8, .slice (some ⟨g18, 0, none⟩) (i + 1) k18, .int .i64 i, c11, c12, c13, c14, c15, c16, c17, c18, c19, c20, c21, c22, c23, c24, c25, c26, c27, c28, c29, c30, c31, c32, c33, c34, c35, c36, c37, c38, c39, c40, c41, c42, c43, c44, c45, c46, c47, c48, c49, c50, c51, c52, c53, c54, c55, c56, c57, c58, c59, c60, c61, c62, c63, c64, c65, c66, c67, c68, u69, u70, u71, u72, u73, u74, u75, u76, u77, u78, u79, u80, u81, u82, u83, u84, u85, u86, u87, c88], df⟩ wx) :
    Code.wp Tryd.prog sol_app_code (AtEnd K) ⟨#[.slice (some ⟨g, 0, none⟩) n cl, .int .i64 d, c2, c3, c4, c5, c6, c7, c8, .slice A i ca, .int .i64 i, c11, c12, c13, c14, c15, c16, c17, c18, c19, c20, c21, c22, c23, c24, c25, c26, c27, c28, c29, c30, c31, c32, c33, c34, c35, c36, c37, c38, c39, c40, c41, c42, c43, c44, c45, c46, c47, c48, c49, c50, c51, c52, c53, c54, c55, c56, c57, c58, c59, c60, c61, c62, c63, c64, c65, c66, c67, c68, c69, c70, c71, c72, c73, c74, c75, c76, c77, c78, c79, c80, c81, c82, c83, c84, c85, c86, c87, c88], df⟩ wr := by
  conv => arg 2; whnf
  refine region_inv (by kernel_rfl) [[], [], [], [1, 2], [3], [], [4, 5], [6], [], [], [8, 9], [10], [], [11, 12], [13], [14], [7, 15, 15], [16], [0, 17, 16], [18, 18, 0, 1, 2, 3, 4, 5, 6, 7, 8, 9, 10, 11, 12, 13, 14, 15, 16, 17, 18]] (by kernel_rfl) [0, 1, 2, 3, 4, 5, 6, 7, 8, 9, 10, 11, 12, 13, 14, 15, 16, 17, 18, 19] (by decide +kernel) (by decide +kernel) (by decide +kernel) (fun L a wc => ∃ (g17 : Nat) (g18 : Nat) (k18 : Nat), InvO sol_app_dsts [.slice A i ca, .slice (some ⟨g, 0, none⟩) n cl, .int .i64 i, .pointer (some ⟨g, i, none⟩), .slice (some bX) m cr, .int .i64 d, .pointer (some (bX.add d)), bv xn, .slice (some ⟨g, 0, none⟩) n cl, .int .i64 i, .pointer (some ⟨g, i, none⟩), .slice (some bX) m cr, .int .i64 i, .pointer (some (bX.add i)), bv xd, bv (Gf.inv xd), bv (Gf.mul xn (Gf.inv xd)), .slice (some ⟨g17, 0, none⟩) 1 1, .slice (some ⟨g18, 0, none⟩) (i + 1) k18, .slice (some ⟨g18, 0, none⟩) (i + 1) k18] ⟨#[.slice (some ⟨g, 0, none⟩) n cl, .int .i64 d, c2, c3, c4, c5, c6, c7, c8, .slice A i ca, .int .i64 i, c11, c12, c13, c14, c15, c16, c17, c18, c19, c20, c21, c22, c23, c24, c25, c26, c27, c28, c29, c30, c31, c32, c33, c34, c35, c36, c37, c38, c39, c40, c41, c42, c43, c44, c45, c46, c47, c48, c49, c50, c51, c52, c53, c54, c55, c56, c57, c58, c59, c60, c61, c62, c63, c64, c65, c66, c67, c68, c69, c70, c71, c72, c73, c74, c75, c76, c77, c78, c79, c80, c81, c82, c83, c84, c85, c86, c87, c88], df⟩ L a ∧ Hid (Owns w wc ((if L 18 = true then ⟨.slice (some ⟨g18, 0, none⟩) (i + 1) k18, 5, 1, i + 1, la ++ [bv (Gf.mul xn (Gf.inv xd))]⟩ else ⟨.slice A i ca, 5, 1, i, la⟩) :: (if L 17 = true then ⟨.slice (some ⟨g17, 0, none⟩) 1 1, 5, 1, 1, [bv (Gf.mul xn (Gf.inv xd))]⟩ else no) :: ⟨.slice (some ⟨g, 0, none⟩) n cl, 57, 1, n, vs⟩ :: M0))) ⟨0, 0, 0, InvO.start, HOO⟩ ?_ ?_
  · refine ⟨?_, ?_, ?_, ?_, ?_, ?_, ?_, ?_, ?_, ?_, ?_, ?_, ?_, ?_, ?_, ?_, ?_, ?_, ?_, ?_, trivial⟩
    · -- 0 move
      rintro L a wc ⟨g17, g18, k18, hv, HO⟩ hL hc hd
      exact wpOp_val rfl rfl (ex_move rfl ((hv.old 19 9 rfl (Bool.eq_false_iff.2 fun h => Bool.false_ne_true (hL.symm.trans (hc 19 h 0 (by decide))))).trans rfl)) ⟨g17, g18, k18, hv.put sol_app_apart 0 rfl (Nat.le_of_ble_eq_true rfl) (Nat.le_of_ble_eq_true rfl) rfl, HO⟩
    · -- 1 move
      rintro L a wc ⟨g17, g18, k18, hv, HO⟩ hL hc hd
      exact wpOp_val rfl rfl (ex_move rfl ((hv.fixed 0 (by decide)).trans rfl)) ⟨g17, g18, k18, hv.put sol_app_apart 1 rfl (Nat.le_of_ble_eq_true rfl) (Nat.le_of_ble_eq_true rfl) rfl, HO⟩
    · -- 2 move
      rintro L a wc ⟨g17, g18, k18, hv, HO⟩ hL hc hd
      exact wpOp_val rfl rfl (ex_move rfl ((hv.fixed 10 (by decide)).trans rfl)) ⟨g17, g18, k18, hv.put sol_app_apart 2 rfl (Nat.le_of_ble_eq_true rfl) (Nat.le_of_ble_eq_true rfl) rfl, HO⟩
    · -- 3 index
      rintro L a wc ⟨g17, g18, k18, hv, HO⟩ hL hc hd
      have b1 : (0 : Int) ≤ (i : Int) := by omega
      have b2 : (i : Int) < (n : Int) := by omega
      exact wpOp_val rfl rfl (ex_index rfl (hv.get 1 rfl rfl (hd 1 (by decide))) (hv.get 2 rfl rfl (hd 2 (by decide))) (by go_simp)) ⟨g17, g18, k18, hv.put sol_app_apart 3 rfl (Nat.le_of_ble_eq_true rfl) (Nat.le_of_ble_eq_true rfl) rfl, HO⟩
    · -- 4 load
      rintro L a wc ⟨g17, g18, k18, hv, HO⟩ hL hc hd
      have eX : wc.cell? ⟨g, i, none⟩ = some (.slice (some bX) m cr) := HO.out.cell 2 rfl i hv1.out
      exact wpOp_val rfl rfl (ex_load rfl (hv.get 3 rfl rfl (hd 3 (by decide))) (by go_simp)) ⟨g17, g18, k18, hv.put sol_app_apart 4 rfl (Nat.le_of_ble_eq_true rfl) (Nat.le_of_ble_eq_true rfl) rfl, HO⟩
    · -- 5 move
      rintro L a wc ⟨g17, g18, k18, hv, HO⟩ hL hc hd
      exact wpOp_val rfl rfl (ex_move rfl ((hv.fixed 1 (by decide)).trans rfl)) ⟨g17, g18, k18, hv.put sol_app_apart 5 rfl (Nat.le_of_ble_eq_true rfl) (Nat.le_of_ble_eq_true rfl) rfl, HO⟩
    · -- 6 index
      rintro L a wc ⟨g17, g18, k18, hv, HO⟩ hL hc hd
      have b1 : (0 : Int) ≤ (d : Int) := by omega
      have b2 : (d : Int) < (m : Int) := by omega
      exact wpOp_val rfl rfl (ex_index rfl (hv.get 4 rfl rfl (hd 4 (by decide))) (hv.get 5 rfl rfl (hd 5 (by decide))) (by go_simp)) ⟨g17, g18, k18, hv.put sol_app_apart 6 rfl (Nat.le_of_ble_eq_true rfl) (Nat.le_of_ble_eq_true rfl) rfl, HO⟩
    · -- 7 load
      rintro L a wc ⟨g17, g18, k18, hv, HO⟩ hL hc hd
      have eN : wc.cell? (bX.add d) = some (bv xn) := hxn.out wc (rd_of_mem HO.out (List.mem_cons_of_mem _ (List.mem_cons_of_mem _ (List.mem_cons_of_mem _ hm1.out))))
      exact wpOp_val rfl rfl (ex_load rfl (hv.get 6 rfl rfl (hd 6 (by decide))) (by go_simp)) ⟨g17, g18, k18, hv.put sol_app_apart 7 rfl (Nat.le_of_ble_eq_true rfl) (Nat.le_of_ble_eq_true rfl) rfl, HO⟩
    · -- 8 move
      rintro L a wc ⟨g17, g18, k18, hv, HO⟩ hL hc hd
      exact wpOp_val rfl rfl (ex_move rfl ((hv.fixed 0 (by decide)).trans rfl)) ⟨g17, g18, k18, hv.put sol_app_apart 8 rfl (Nat.le_of_ble_eq_true rfl) (Nat.le_of_ble_eq_true rfl) rfl, HO⟩
    · -- 9 move
      rintro L a wc ⟨g17, g18, k18, hv, HO⟩ hL hc hd
      exact wpOp_val rfl rfl (ex_move rfl ((hv.fixed 10 (by decide)).trans rfl)) ⟨g17, g18, k18, hv.put sol_app_apart 9 rfl (Nat.le_of_ble_eq_true rfl) (Nat.le_of_ble_eq_true rfl) rfl, HO⟩
    · -- 10 index
      rintro L a wc ⟨g17, g18, k18, hv, HO⟩ hL hc hd
      have b1 : (0 : Int) ≤ (i : Int) := by omega
      have b2 : (i : Int) < (n : Int) := by omega
      exact wpOp_val rfl rfl (ex_index rfl (hv.get 8 rfl rfl (hd 8 (by decide))) (hv.get 9 rfl rfl (hd 9 (by decide))) (by go_simp)) ⟨g17, g18, k18, hv.put sol_app_apart 10 rfl (Nat.le_of_ble_eq_true rfl) (Nat.le_of_ble_eq_true rfl) rfl, HO⟩
    · -- 11 load
      rintro L a wc ⟨g17, g18, k18, hv, HO⟩ hL hc hd
      have eX : wc.cell? ⟨g, i, none⟩ = some (.slice (some bX) m cr) := HO.out.cell 2 rfl i hv1.out
      exact wpOp_val rfl rfl (ex_load rfl (hv.get 10 rfl rfl (hd 10 (by decide))) (by go_simp)) ⟨g17, g18, k18, hv.put sol_app_apart 11 rfl (Nat.le_of_ble_eq_true rfl) (Nat.le_of_ble_eq_true rfl) rfl, HO⟩
    · -- 12 move
      rintro L a wc ⟨g17, g18, k18, hv, HO⟩ hL hc hd
      exact wpOp_val rfl rfl (ex_move rfl ((hv.fixed 10 (by decide)).trans rfl)) ⟨g17, g18, k18, hv.put sol_app_apart 12 rfl (Nat.le_of_ble_eq_true rfl) (Nat.le_of_ble_eq_true rfl) rfl, HO⟩
    · -- 13 index
      rintro L a wc ⟨g17, g18, k18, hv, HO⟩ hL hc hd
      have b1 : (0 : Int) ≤ (i : Int) := by omega
      have b2 : (i : Int) < (m : Int) := by omega
      exact wpOp_val rfl rfl (ex_index rfl (hv.get 11 rfl rfl (hd 11 (by decide))) (hv.get 12 rfl rfl (hd 12 (by decide))) (by go_simp)) ⟨g17, g18, k18, hv.put sol_app_apart 13 rfl (Nat.le_of_ble_eq_true rfl) (Nat.le_of_ble_eq_true rfl) rfl, HO⟩
    · -- 14 load
      rintro L a wc ⟨g17, g18, k18, hv, HO⟩ hL hc hd
      have eN : wc.cell? (bX.add i) = some (bv xd) := hxd.out wc (rd_of_mem HO.out (List.mem_cons_of_mem _ (List.mem_cons_of_mem _ (List.mem_cons_of_mem _ hm1.out))))
      exact wpOp_val rfl rfl (ex_load rfl (hv.get 13 rfl rfl (hd 13 (by decide))) (by go_simp)) ⟨g17, g18, k18, hv.put sol_app_apart 14 rfl (Nat.le_of_ble_eq_true rfl) (Nat.le_of_ble_eq_true rfl) rfl, HO⟩
    · -- 15 call
      rintro L a wc ⟨g17, g18, k18, hv, HO⟩ hL hc hd
      refine wpOp_call (R := fun v w1 => v = bv (Gf.inv xd) ∧ wc = w1) rfl rfl (ex_call rfl rfl (map1c (hv.get 14 rfl rfl (hd 14 (by decide)))) (ent_rinv _ _)) ((rinv_u8 xd hne.out wc).mono (fun e w' h => ⟨_, h.1, rfl, h.2⟩)) ?_
      rintro v w' ⟨rfl, rfl⟩
      exact ⟨g17, g18, k18, hv.put sol_app_apart 15 rfl (Nat.le_of_ble_eq_true rfl) (Nat.le_of_ble_eq_true rfl) rfl, HO⟩
    · -- 16 call
      rintro L a wc ⟨g17, g18, k18, hv, HO⟩ hL hc hd
      refine wpOp_call (R := fun v w1 => v = bv (Gf.mul xn (Gf.inv xd)) ∧ wc = w1) rfl rfl (ex_call rfl rfl (map2c (hv.get 7 rfl rfl (hd 7 (by decide))) (hv.get 15 rfl rfl (hd 15 (by decide)))) (ent_rmul _ _)) ((rmul_u8 xn (Gf.inv xd) wc).mono (fun e w' h => ⟨_, h.1, rfl, h.2⟩)) ?_
      rintro v w' ⟨rfl, rfl⟩
      exact ⟨g17, g18, k18, hv.put sol_app_apart 16 rfl (Nat.le_of_ble_eq_true rfl) (Nat.le_of_ble_eq_true rfl) rfl, HO⟩
    · -- 17 lines
      rintro L a wc ⟨g17, g18, k18, hv, HO⟩ hL hc hd
      have hn := HO.out.new 1 #[bv (Gf.mul xn (Gf.inv xd))] 5 (by simp [maxLen])
      exact wpOp_value rfl rfl (ex_build rfl Tryd.underlying57 info_u8 (hv.get 16 rfl rfl (hd 16 (by decide))) rfl) ⟨wc.heap.size, g18, k18, hv.put sol_app_apart 17 rfl (Nat.le_of_ble_eq_true rfl) (Nat.le_of_ble_eq_true rfl) rfl, Lib.hid hn⟩
    · -- 18 lines
      rintro L a wc ⟨g17, g18, k18, hv, HO⟩ hL hc hd
      refine wpOp_append rfl rfl 57 5 rfl Tryd.underlying57 info_u8 rfl HO.out 0 (congrArg some (if_neg (by simp [hL]))) (hv.get 0 rfl rfl (hd 0 (by decide))) (hv.get 17 rfl rfl (hd 17 (by decide))) (HO.out.cell 1 (congrArg some (if_pos (hd 17 (by decide)))) 0 rfl) rfl (by omega) (by decide) ?_
      intro gg cc w2 hO2
      have hv := hv.reset 19 (Bool.eq_false_iff.2 fun h => Bool.false_ne_true (hL.symm.trans (hc 19 h 18 (by decide)))) (.slice (some ⟨gg, 0, none⟩) (i + 1) cc)
      exact ⟨g17, gg, cc, hv.put sol_app_apart 18 rfl (Nat.le_of_ble_eq_true rfl) (Nat.le_of_ble_eq_true rfl) rfl, Lib.hid hO2⟩
    · -- 19 assign
      rintro L a wc ⟨g17, g18, k18, hv, HO⟩ hL hc hd
      exact wpOp_val rfl rfl (ex_assign rfl (hv.get 18 rfl rfl (hd 18 (by decide)))) ⟨g17, g18, k18, hv.put sol_app_apart 19 rfl (Nat.le_of_ble_eq_true rfl) (Nat.le_of_ble_eq_true rfl) rfl, HO⟩
  · rintro L a wc ⟨g17, g18, k18, hv, HO⟩ hall
    show K a wc
    have ha := act_lit a
    rw [hv.size, hv.defers] at ha
    have hl : ∀ f : Nat → Value, ((List.range (⟨#[.slice (some ⟨g, 0, none⟩) n cl, .int .i64 d, c2, c3, c4, c5, c6, c7, c8, .slice A i ca, .int .i64 i, c11, c12, c13, c14, c15, c16, c17, c18, c19, c20, c21, c22, c23, c24, c25, c26, c27, c28, c29, c30, c31, c32, c33, c34, c35, c36, c37, c38, c39, c40, c41, c42, c43, c44, c45, c46, c47, c48, c49, c50, c51, c52, c53, c54, c55, c56, c57, c58, c59, c60, c61, c62, c63, c64, c65, c66, c67, c68, c69, c70, c71, c72, c73, c74, c75, c76, c77, c78, c79, c80, c81, c82, c83, c84, c85, c86, c87, c88], df⟩ : Act).tmps.size).map f).toArray = #[f 0, f 1, f 2, f 3, f 4, f 5, f 6, f 7, f 8, f 9, f 10, f 11, f 12, f 13, f 14, f 15, f 16, f 17, f 18, f 19, f 20, f 21, f 22, f 23, f 24, f 25, f 26, f 27, f 28, f 29, f 30, f 31, f 32, f 33, f 34, f 35, f 36, f 37, f 38, f 39, f 40, f 41, f 42, f 43, f 44, f 45, f 46, f 47, f 48, f 49, f 50, f 51, f 52, f 53, f 54, f 55, f 56, f 57, f 58, f 59, f 60, f 61, f 62, f 63, f 64, f 65, f 66, f 67, f 68, f 69, f 70, f 71, f 72, f 73, f 74, f 75, f 76, f 77, f 78, f 79, f 80, f 81, f 82, f 83, f 84, f 85, f 86, f 87, f 88] := fun _ => rfl
    rw [hl] at ha
    simp only [hv.fixed 0 (by decide), hv.fixed 1 (by decide), hv.fixed 2 (by decide), hv.fixed 3 (by decide), hv.fixed 4 (by decide), hv.fixed 5 (by decide), hv.fixed 6 (by decide), hv.fixed 7 (by decide), hv.fixed 8 (by decide), hv.fixed 10 (by decide), hv.fixed 11 (by decide), hv.fixed 12 (by decide), hv.fixed 13 (by decide), hv.fixed 14 (by decide), hv.fixed 15 (by decide), hv.fixed 16 (by decide), hv.fixed 17 (by decide), hv.fixed 18 (by decide), hv.fixed 19 (by decide), hv.fixed 20 (by decide), hv.fixed 21 (by decide), hv.fixed 22 (by decide), hv.fixed 23 (by decide), hv.fixed 24 (by decide), hv.fixed 25 (by decide), hv.fixed 26 (by decide), hv.fixed 27 (by decide), hv.fixed 28 (by decide), hv.fixed 29 (by decide), hv.fixed 30 (by decide), hv.fixed 31 (by decide), hv.fixed 32 (by decide), hv.fixed 33 (by decide), hv.fixed 34 (by decide), hv.fixed 35 (by decide), hv.fixed 36 (by decide), hv.fixed 37 (by decide), hv.fixed 38 (by decide), hv.fixed 39 (by decide), hv.fixed 40 (by decide), hv.fixed 41 (by decide), hv.fixed 42 (by decide), hv.fixed 43 (by decide), hv.fixed 44 (by decide), hv.fixed 45 (by decide), hv.fixed 46 (by decide), hv.fixed 47 (by decide), hv.fixed 48 (by decide), hv.fixed 49 (by decide), hv.fixed 50 (by decide), hv.fixed 51 (by decide), hv.fixed 52 (by decide), hv.fixed 53 (by decide), hv.fixed 54 (by decide), hv.fixed 55 (by decide), hv.fixed 56 (by decide), hv.fixed 57 (by decide), hv.fixed 58 (by decide), hv.fixed 59 (by decide), hv.fixed 60 (by decide), hv.fixed 61 (by decide), hv.fixed 62 (by decide), hv.fixed 63 (by decide), hv.fixed 64 (by decide), hv.fixed 65 (by decide), hv.fixed 66 (by decide), hv.fixed 67 (by decide), hv.fixed 68 (by decide), hv.fixed 88 (by decide), hv.get 19 (d := 9) rfl rfl (hall 19 (by decide))] at ha
    rw [ha]
    have hO := HO.out
    simp only [hall 17 (by decide), hall 18 (by decide), if_true] at hO
    exact hK g18 k18 _ _ _ _ _ _ _ _ _ _ _ _ _ _ _ _ _ _ _ wc (hO.drop 1)
set_option maxRecDepth 100000 in
set_option maxHeartbeats 8000000 in
theorem rSolved_any (d n g cl : Nat) (rs : List (List UInt8)) (vs : List Value) (M : List LRow) (w0 w : World) (hd : 1 ≤ d) (hd16 : d ≤ 16) (hn : n ≤ 1000) (hO : Owns w0 w (⟨.slice (some ⟨g, 0, none⟩) n cl, 57, 1, n, vs⟩ :: M)) (hV : RowsIn vs M rs) (hG : Cd.GJ d n rs 0) :
    Calls Tryd.prog 59 #[.slice (some ⟨g, 0, none⟩) n cl, .int .i64 d] w fun e w' => ∃ (vs' : List Value) (X : List LRow) (A : Option Addr) (c : Nat), e = .returned (.slice A d c) ∧ Owns w0 w' (⟨.slice A d c, 5, 1, d, (Cd.solvedR rs d).map bv⟩ :: no :: ⟨.slice (some ⟨g, 0, none⟩) n cl, 57, 1, n, vs'⟩ :: (M ++ X)) := by
  have hgood := fun a ha => Cd.gj_good hG a ha
  have hz := Cd.gjTo_zero rs
  have hdn : d ≤ n := by
    obtain ⟨h1, _, _⟩ := (hgood d (Nat.le_refl _)).diag (d - 1) (by omega)
    omega
  have HG := Lib.hid hgood
  have HS : Hid (Owns w0 w (⟨.slice (some ⟨g, 0, none⟩) n cl, 57, 1, n, vs⟩ :: (M ++ [])) ∧ RowsIn vs (M ++ []) (Cd.gjTo rs 0)) := by
    rw [hz, List.append_nil]
    exact Lib.hid (And.intro hO hV)
  clear hO hV hG hgood hz
  go_enter Tryd.func59, Tryd.ntmps59
  go_wp2_with fail
  go_loopw [5] (fun va wr => ∃ (xa : Nat) (vs : List Value) (X : List LRow), xa ≤ d ∧ va = .int .i64 xa ∧ Hid (Owns w0 wr (⟨.slice (some ⟨g, 0, none⟩) n cl, 57, 1, n, vs⟩ :: (M ++ X)) ∧ RowsIn vs (M ++ X) (Cd.gjTo rs xa))) (fun va _ => d - (intOf va).toNat)
  case atStart => exact ⟨0, vs, [], Nat.zero_le _, rfl, HS⟩
  case round =>
    obtain ⟨xa, vs, X, hxa, rfl, HR⟩ := hrel
    obtain ⟨wo, rfl⟩ : ∃ wo, wo = wr := ⟨_, rfl⟩
    by_cases hlt : xa < d
    · have hgj := HG.out xa (by omega)
      have hnext := Cd.gjTo_next rs xa
      have hro := HR.out.2
      obtain ⟨l, hl⟩ : ∃ l, Cd.gjTo rs xa = l := ⟨_, rfl⟩
      rw [hl] at hgj hnext hro
      obtain ⟨q, q1, q2, q3⟩ := hgj.pivot hlt
      obtain ⟨p1, p2, p3, p4⟩ := Cd.pivFrom_spec (by rw [hgj.size]; exact q2) q1 q3
      obtain ⟨p, hp⟩ : ∃ p, Cd.pivFrom l xa = p := ⟨_, rfl⟩
      rw [hp] at p1 p2 p3 p4 hnext
      rw [hgj.size] at p2 hnext
      have hlen : ∀ k, k < n → (l.getD k []).length = d + 1 := fun k hk => hgj.len _ (Cd.getD_mem (by rw [hgj.size]; exact hk))
      have hsz := hgj.size
      have HL := Lib.hid (And.intro hnext (And.intro hlen (And.intro hsz (And.intro p3 p4))))
      have HO := Lib.hid (And.intro HR.out.1 hro)
      have HGJ := Lib.hid hgj
      have hat : ∀ k, k < n → ∃ A2 c2, vs[k]? = some (.slice A2 (d + 1) c2) ∧ byteRow A2 c2 (l.getD k []) ∈ M ++ X := fun k hk => hro.at (by rw [hsz]; exact hk) (hlen k hk)
      have HAT := Lib.hid hat
      clear hgj hnext hro hl hp q1 q2 q3 p3 p4 hlen hsz HR HS hat
      go_wp2_with fail
      go_loop [6] (fun vq => ∃ k : Nat, xa ≤ k ∧ k ≤ p ∧ vq = .int .i64 k) (fun vq => p - (intOf vq).toNat)
      case atStart => exact ⟨xa, Nat.le_refl _, p1, rfl⟩
      case round =>
        obtain ⟨k, hk1, hk2, rfl⟩ := hrel
        obtain ⟨A2, c2, e1, e2⟩ := HAT.out k (by omega)
        have hcell := HO.out.1.cell 0 rfl k e1
        obtain ⟨bX, rfl, _, hb⟩ := (rd_of_mem HO.out.1 (List.mem_cons_of_mem _ e2)).at (k := xa) (by rw [List.length_map, HL.out.2.1 k (by omega)]; omega)
        have hxr : xa < (l.getD k []).length := by rw [HL.out.2.1 k (by omega)]; omega
        rw [List.getElem_map, ← getD_get (x := (0 : UInt8)) hxr] at hb
        obtain ⟨xb, hxb⟩ : ∃ xb, (l.getD k []).getD xa 0 = xb := ⟨_, rfl⟩
        rw [hxb] at hb
        have HXB := Lib.hid hxb
        have HE := Lib.hid (And.intro e1 e2)
        clear e1 e2 hxr hxb
        by_cases hkp : k = p
        · subst hkp
          have e0 : ((xb.toNat : Int) == 0) = false := by
            rw [beq_eq_false_iff_ne]
            intro h
            apply HL.out.2.2.2.1
            rw [HXB.out]
            exact UInt8.toNat_inj.1 (by simpa using h)
          obtain ⟨A3, c3, f1, f2⟩ := HAT.out xa (by omega)
          have f3 := HE.out.1
          have f4 := HE.out.2
          have hca := HO.out.1.cell 0 rfl xa f1
          have hfa : wo.frozen? ⟨g, xa, none⟩ = false := HO.out.1.frozen 0 rfl xa
          have hfk : wo.frozen? ⟨g, k, none⟩ = false := HO.out.1.frozen 0 rfl k
          have hvx : (vs.set k (.slice A3 (d + 1) c3))[xa]? = some (.slice A3 (d + 1) c3) := by
            by_cases hkx : k = xa
            · rw [hkx]; exact List.getElem?_set_self (List.getElem?_eq_some_iff.1 f1).1
            · rw [List.getElem?_set_ne hkx]; exact f1
          have hcx : (wo.setCell ⟨g, k, none⟩ (.slice A3 (d + 1) c3)).cell? ⟨g, xa, none⟩ = some (.slice A3 (d + 1) c3) := (HO.out.1.store 0 rfl k (.slice A3 (d + 1) c3)).cell 0 rfl xa hvx
          have hfx : (wo.setCell ⟨g, k, none⟩ (.slice A3 (d + 1) c3)).frozen? ⟨g, xa, none⟩ = false := (HO.out.1.store 0 rfl k (.slice A3 (d + 1) c3)).frozen 0 rfl xa
          have hs1 := (HO.out.1.store 0 rfl k (.slice A3 (d + 1) c3)).store 0 rfl xa (.slice (some bX) (d + 1) c2)
          have hr1 := (HO.out.2.putR (k := k) (HL.out.2.1 xa (by omega)) f2).putR (k := xa) (HL.out.2.1 k (by omega)) f4
          have hgs := HGJ.out.swap hk1 p2
          have hga := Cd.swapR_a (l := l) (p := k) (a := xa) (by rw [HL.out.2.2.1]; omega)
          have hel : Cd.gjTo rs (xa + 1) = Cd.elimTo (Cd.swapR l k xa) xa n := HL.out.1
          have hsw : (l.set k (l.getD xa [])).set xa (l.getD k []) = Cd.swapR l k xa := by unfold Cd.swapR; rfl
          rw [hsw] at hr1
          have hne : ((Cd.swapR l k xa).getD xa []).getD xa 0 ≠ 0 := by rw [hga]; exact HL.out.2.2.2.1
          obtain ⟨sw, hswe⟩ : ∃ sw, Cd.swapR l k xa = sw := ⟨_, rfl⟩
          rw [hswe] at hr1 hgs hel hne
          obtain ⟨vs1, hvs1⟩ : ∃ vs1, (vs.set k (.slice A3 (d + 1) c3)).set xa (.slice (some bX) (d + 1) c2) = vs1 := ⟨_, rfl⟩
          rw [hvs1] at hr1
          have hs2 : Owns w0 ((wo.setCell ⟨g, k, none⟩ (.slice A3 (d + 1) c3)).setCell ⟨g, xa, none⟩ (.slice (some bX) (d + 1) c2)) (⟨.slice (some ⟨g, 0, none⟩) n cl, 57, 1, n, vs1⟩ :: (M ++ X)) := by rw [← hvs1]; exact hs1
          have HS1 := Lib.hid (And.intro hs2 hr1)
          have HGS := Lib.hid hgs
          have HEL := Lib.hid (And.intro hel hne)
          clear f1 f2 f3 f4 hvx hs1 hs2 hr1 hgs hga hel hsw hne hswe hvs1
          go_wp2_with fail
          clear hca hfa hfk hcell hb e0 hcx hfx
          go_loopw [8] (fun vk wr => ∃ (j : Nat) (vs : List Value) (Y : List LRow), j ≤ n ∧ vk = .int .i64 j ∧ Hid (Owns w0 wr (⟨.slice (some ⟨g, 0, none⟩) n cl, 57, 1, n, vs⟩ :: (M ++ Y)) ∧ RowsIn vs (M ++ Y) (Cd.elimTo sw xa j))) (fun vk _ => n - (intOf vk).toNat)
          case atStart => exact ⟨0, vs1, X, Nat.zero_le _, rfl, by rw [Cd.elimTo_zero]; exact HS1⟩
          case round =>
            obtain ⟨j, vs2, Y, hj, rfl, HJ⟩ := hrel
            by_cases hjl : j < n
            · by_cases hjp : j = xa
              · have e1 : ((j : Int) != (xa : Int)) = false := by rw [hjp]; simp
                have hs : Cd.elimTo sw xa (j + 1) = Cd.elimTo sw xa j := by rw [hjp]; exact Cd.elimTo_skip sw xa
                have HSK := Lib.hid hs
                clear hjp hs
                go_wp2_with fail
                go_roundw
                case rel => exact ⟨j + 1, vs2, Y, by omega, by go_num, by rw [HSK.out]; exact HJ⟩
                case measure => simp [intOf]; omega
              · have e1 : ((j : Int) != (xa : Int)) = true := by rw [bne_iff_ne]; omega
                have hnx := Cd.elimTo_next (l := sw) hjp
                have hln : ∀ i, i < n → ((Cd.elimTo sw xa j).getD i []).length = d + 1 := fun i hi => by
                  have hl0 := HGS.out.len _ (Cd.getD_mem (l := sw) (k := i) (x := []) (by rw [HGS.out.size]; exact hi))
                  rw [Cd.elimTo_get (by rw [HGS.out.size]; omega)]
                  split
                  · rw [Cd.lessR_len]; exact hl0
                  · exact hl0
                have hlz : (Cd.elimTo sw xa j).length = n := by rw [Cd.elimTo_len, HGS.out.size]
                have hna : ((Cd.elimTo sw xa j).getD xa []).getD xa 0 ≠ 0 := by
                  rw [Cd.elimTo_get (by rw [HGS.out.size]; omega), if_neg (by omega)]
                  exact HEL.out.2
                obtain ⟨em, hem⟩ : ∃ em, Cd.elimTo sw xa j = em := ⟨_, rfl⟩
                have hre := HJ.out.2
                rw [hem] at hnx hln hlz hna hre
                obtain ⟨RA, cr, r1, r2⟩ := hre.at (k := j) (by rw [hlz]; exact hjl) (hln j hjl)
                obtain ⟨OA, co, o1, o2⟩ := hre.at (k := xa) (by rw [hlz]; omega) (hln xa (by omega))
                have HH := Lib.hid (And.intro hnx (And.intro hre (And.intro (hln j hjl) (And.intro (hln xa (by omega)) hna))))
                have HR1 := Lib.hid (And.intro r1 r2)
                have HR2 := Lib.hid (And.intro o1 o2)
                have HOW : Hid (Owns w0 wr.drew (⟨.slice (some ⟨g, 0, none⟩) n cl, 57, 1, n, vs2⟩ :: ((M ++ Y) ++ []))) := Lib.hid (by rw [List.append_nil]; exact HJ.out.1.drew)
                clear hnx hre hln hlz hna hem r1 r2 o1 o2 hjp
                go_upto_region 14 with fail
                refine wp_atEnd' (elim_set g n cl j xa (d + 1) cr co RA OA (em.getD j []) (em.getD xa []) _ vs2 (M ++ Y) w0 wr hjl (by omega) HH.out.2.2.1 HH.out.2.2.2.1 (by omega) (by omega) (Lib.hid HH.out.2.2.2.2) (Lib.hid rfl) (Lib.hid HR1.out.1) (Lib.hid HR2.out.1) (Lib.hid HR1.out.2) (Lib.hid HR2.out.2) HOW _ _ _ _ _ _ _ _ _ _ _ _ _ _ _ _ _ _ _ _ _ _ _ _ _ _ _ _ _ _ _ _ _ _ _ _ _ _ _ _ _ _ _ _ _ _ _ _ _ _ _ _ _ _ _ _ _ _ _ _ _ _ _ _ _ _ _ _ _ _ _ _ _ _ _ _ _ _ _ _ _ _ _ _ _ _ _ _ ?_)
                intro A9 c9
                intros
                rename_i wx hOx
                have hrs : RowsIn (vs2.set j (.slice A9 (d + 1) c9)) (M ++ (Y ++ [(⟨.slice A9 (d + 1) c9, 5, 1, d + 1, (Cd.lessR (em.getD j []) (em.getD xa []) xa).map bv⟩ : LRow)])) (Cd.elimTo sw xa (j + 1)) := by
                  rw [HH.out.1]
                  refine (HH.out.2.1.mono (M := M ++ (Y ++ [(⟨.slice A9 (d + 1) c9, 5, 1, d + 1, (Cd.lessR (em.getD j []) (em.getD xa []) xa).map bv⟩ : LRow)])) (fun x hx => ?_)).put (by rw [Cd.lessR_len]; exact HH.out.2.2.1) ?_
                  · rw [← List.append_assoc]; exact List.mem_append_left _ hx
                  · rw [← List.append_assoc]; exact List.mem_append_right _ (List.mem_singleton.2 rfl)
                have hO2 : Owns w0 wx (⟨.slice (some ⟨g, 0, none⟩) n cl, 57, 1, n, vs2.set j (.slice A9 (d + 1) c9)⟩ :: (M ++ (Y ++ [(⟨.slice A9 (d + 1) c9, 5, 1, d + 1, (Cd.lessR (em.getD j []) (em.getD xa []) xa).map bv⟩ : LRow)]))) := by rw [← List.append_assoc]; exact hOx
                have HOX := Lib.hid (And.intro hO2 hrs)
                clear hOx hO2 hrs
                go_wp2_with fail
                go_roundw
                case rel => exact ⟨j + 1, _, _, by omega, by go_num, HOX⟩
                case measure => simp [intOf]; omega
            · obtain rfl : j = n := by omega
              go_wp2_with fail
              go_roundw
              case rel => exact ⟨xa + 1, vs2, Y, by omega, by go_num, by rw [HEL.out.1]; exact HJ⟩
              case measure => simp [intOf]; omega
        · have e0 : ((xb.toNat : Int) == 0) = true := by
            have hx0 : xb = 0 := by rw [← HXB.out]; exact HL.out.2.2.2.2 k hk1 (by omega)
            rw [hx0]; rfl
          go_wp2_with fail
          go_round
          case rel => exact ⟨k + 1, by omega, by omega, by go_num⟩
          case measure => simp [intOf]; omega
    · obtain rfl : xa = d := by omega
      have hgj := HG.out xa (Nat.le_refl _)
      have hsl : Cd.solvedR rs xa = (List.range xa).map fun a => Gf.mul (((Cd.gjTo rs xa).getD a []).getD xa 0) (Gf.inv (((Cd.gjTo rs xa).getD a []).getD a 0)) := rfl
      have hro := HR.out.2
      obtain ⟨l, hl⟩ : ∃ l, Cd.gjTo rs xa = l := ⟨_, rfl⟩
      rw [hl] at hgj hsl hro
      have HGJ := Lib.hid (And.intro hgj (And.intro hsl hro))
      have HB0 : Hid (Owns w0 wo (⟨.slice none 0 0, 5, 1, 0, []⟩ :: no :: ⟨.slice (some ⟨g, 0, none⟩) n cl, 57, 1, n, vs⟩ :: (M ++ X))) := by
        have h1 := (HR.out.1.wider.wider.put (M ++ X ++ [no]).length.succ (nilRow 5) HR.out.1.ext (nilRow_ok _ _ _) (fun _ _ _ _ _ _ => rfl) (fun _ _ _ _ => .inl rfl))
        refine Lib.hid (h1.perm ?_)
        have e : (⟨.slice (some ⟨g, 0, none⟩) n cl, 57, 1, n, vs⟩ :: (M ++ X) ++ [no] ++ [no]).set (M ++ X ++ [no]).length.succ (nilRow 5) = (⟨.slice (some ⟨g, 0, none⟩) n cl, 57, 1, n, vs⟩ :: (M ++ X)) ++ [no, nilRow 5] := by
          simp
        rw [e]
        refine List.perm_append_comm.trans ?_
        exact List.Perm.swap _ _ _
      clear hgj hsl hl hro HS
      go_wp2_with fail
      go_loopw [9, 10] (fun vo vi wr => ∃ (i ca : Nat) (A : Option Addr), i ≤ xa ∧ vi = .int .i64 i ∧ vo = .slice A i ca ∧ Hid (Owns w0 wr (⟨.slice A i ca, 5, 1, i, ((Cd.solvedR rs xa).take i).map bv⟩ :: no :: ⟨.slice (some ⟨g, 0, none⟩) n cl, 57, 1, n, vs⟩ :: (M ++ X)))) (fun _ vi _ => xa - (intOf vi).toNat)
      case atStart => exact ⟨0, 0, none, Nat.zero_le _, rfl, rfl, HB0⟩
      case round =>
        obtain ⟨i, ca, A, hi, rfl, rfl, HI⟩ := hrel
        by_cases hil : i < xa
        · obtain ⟨d1, d2, _⟩ := HGJ.out.1.diag i hil
          have hlen : (l.getD i []).length = xa + 1 := HGJ.out.1.len _ (Cd.getD_mem (by rw [HGJ.out.1.size]; exact d1))
          obtain ⟨A2, c2, e1, e2⟩ := HGJ.out.2.2.at (k := i) (by rw [HGJ.out.1.size]; exact d1) hlen
          obtain ⟨bX, rfl, _, _⟩ := (rd_of_mem HI.out (List.mem_cons_of_mem _ (List.mem_cons_of_mem _ (List.mem_cons_of_mem _ e2)))).at (k := xa) (by rw [List.length_map, hlen]; omega)
          have hgen : ∀ i2, i2 < xa + 1 → ∀ w2 : World, Rd w2 (some bX) ((l.getD i []).map bv) → w2.cell? (bX.add i2) = some (bv ((l.getD i []).getD i2 0)) := fun i2 h2 w2 hr => by
            have h3 := hr.all (k := i2) (by rw [List.length_map, hlen]; exact h2)
            rw [List.getElem_map, ← getD_get (x := (0 : UInt8)) (by rw [hlen]; exact h2)] at h3
            exact h3
          have hil2 : i < (Cd.solvedR rs xa).length := by rw [Cd.solvedR_len]; exact hil
          have htk : ((Cd.solvedR rs xa).take (i + 1)).map bv = ((Cd.solvedR rs xa).take i).map bv ++ [bv (Gf.mul ((l.getD i []).getD xa 0) (Gf.inv ((l.getD i []).getD i 0)))] := by
            have h4 : (Cd.solvedR rs xa)[i] = Gf.mul ((l.getD i []).getD xa 0) (Gf.inv ((l.getD i []).getD i 0)) := by
              rw [← getD_get (x := (0 : UInt8)) hil2, HGJ.out.2.1]
              exact Gf.getD_map_range _ _ hil
            rw [List.take_succ_eq_append_getElem hil2, List.map_append, h4]
            rfl
          have HH := Lib.hid (And.intro d2 (And.intro e1 (And.intro e2 (And.intro hgen htk))))
          clear d2 e1 e2 hgen htk
          go_upto_region 19 with fail
          refine wp_atEnd' (sol_app bX A g n cl i ca xa (xa + 1) c2 ((l.getD i []).getD xa 0) ((l.getD i []).getD i 0) (l.getD i []) _ vs (M ++ X) w0 wr (by omega) d1 (by omega) (by omega) (Lib.hid HH.out.1) (Lib.hid HH.out.2.1) (Lib.hid HH.out.2.2.1) (Lib.hid (HH.out.2.2.2.1 xa (by omega))) (Lib.hid (HH.out.2.2.2.1 i (by omega))) (Lib.hid HI.out.drew) _ _ _ _ _ _ _ _ _ _ _ _ _ _ _ _ _ _ _ _ _ _ _ _ _ _ _ _ _ _ _ _ _ _ _ _ _ _ _ _ _ _ _ _ _ _ _ _ _ _ _ _ _ _ _ _ _ _ _ _ _ _ _ _ _ _ _ _ _ _ _ _ _ _ _ _ _ _ _ _ _ _ _ _ _ _ _ ?_)
          intro g9 k9
          intros
          rename_i wx hOx
          have HOX := Lib.hid hOx
          clear hOx
          go_wp2_with fail
          go_roundw
          case rel => exact ⟨i + 1, k9, _, by omega, by go_num, rfl, Lib.hid (by rw [HH.out.2.2.2.2]; exact HOX.out)⟩
          case measure => simp [intOf]; omega
        · obtain rfl : i = xa := by omega
          go_wp2_with fail
          go_ret
          have htk : (Cd.solvedR rs i).take i = Cd.solvedR rs i := by
            have := Cd.solvedR_len rs i
            rw [List.take_of_length_le (by omega)]
          have h9 := HI.out
          rw [htk] at h9
          exact ⟨vs, X, A, ca, rfl, h9⟩
end Go.Proofs.YtgkohfmgdejkpaaDoor

/- THE WALK over the specification of codes: data. -/
namespace Cd
/-- What stands in the chunk after x offsets, and i data pieces of the next one. -/
def outS (N sz x i : Nat) (F : Nat → Nat → UInt8) : List UInt8 := (List.range N).map fun t => if t % sz < x ∨ (t % sz = x ∧ t / sz < i) then F (t / sz) (t % sz) else 0
theorem outS_len (N sz x i : Nat) (F : Nat → Nat → UInt8) : (outS N sz x i F).length = N := by simp [outS]
theorem outS_start (N sz : Nat) (F : Nat → Nat → UInt8) : outS N sz 0 0 F = List.replicate N 0 := by
  unfold outS
  apply List.ext_getElem
  · simp
  · intro t h1 h2
    simp
theorem outS_next {N sz x d : Nat} (F : Nat → Nat → UInt8) (hN : N = d * sz) (hs : 0 < sz) : outS N sz x d F = outS N sz (x + 1) 0 F := by
  unfold outS
  apply List.map_congr_left
  intro t ht
  have ht := List.mem_range.1 ht
  have hd : t / sz < d := (Nat.div_lt_iff_lt_mul hs).2 (by rw [← hN]; exact ht)
  by_cases h : t % sz < x + 1
  · rw [if_pos (show t % sz < x + 1 ∨ _ from .inl h), if_pos]
    by_cases h2 : t % sz < x
    · exact .inl h2
    · exact .inr ⟨by omega, hd⟩
  · rw [if_neg (fun h3 => h3.elim (fun h3 => by omega) fun h3 => by omega), if_neg (fun h3 => h3.elim h fun h3 => Nat.not_lt_zero _ h3.2)]
theorem outS_set {N sz x i t : Nat} (F : Nat → Nat → UInt8) (ht : t = i * sz + x) (hx : x < sz) : outS N sz x (i + 1) F = (outS N sz x i F).set t (F i x) := by
  have hdm : t / sz = i ∧ t % sz = x := by
    subst ht
    rw [Nat.mul_comm]
    exact ⟨by rw [Nat.mul_add_div (by omega), Nat.div_eq_of_lt hx]; rfl, by rw [Nat.mul_add_mod, Nat.mod_eq_of_lt hx]⟩
  apply List.ext_getElem
  · simp [outS]
  · intro s h1 h2
    rw [List.getElem_set]
    simp only [outS, List.getElem_map, List.getElem_range]
    by_cases hst : t = s
    · subst hst
      rw [if_pos rfl, hdm.1, hdm.2, if_pos (.inr ⟨rfl, by omega⟩)]
    · rw [if_neg hst]
      by_cases h3 : s % sz < x ∨ (s % sz = x ∧ s / sz < i)
      · rw [if_pos h3, if_pos]
        rcases h3 with h3 | h3
        · exact .inl h3
        · exact .inr ⟨h3.1, by omega⟩
      · rw [if_neg h3, if_neg]
        rintro (h4 | ⟨h4, h5⟩)
        · exact h3 (.inl h4)
        · by_cases h6 : s / sz = i
          · apply hst
            have h7 := Nat.div_add_mod s sz
            rw [h6, h4] at h7
            rw [ht, Nat.mul_comm]
            exact h7
          · exact h3 (.inr ⟨h4, by omega⟩)
theorem outS_end {N sz : Nat} (F : Nat → Nat → UInt8) (hs : 0 < sz) : outS N sz sz 0 F = (List.range N).map fun t => F (t / sz) (t % sz) := by
  unfold outS
  apply List.map_congr_left
  intro t _
  rw [if_pos (.inl (Nat.mod_lt _ hs))]
attribute [irreducible] outS
end Cd
namespace Go.Proofs.YtgkohfmgdejkpaaDoor
open Go.RowKit
theorem ent_eq : ∀ args w, (callFunc 58 args).run Tryd.prog w = .ok (.enter 58 args) w := enters_of Tryd.func58 (by kernel_rfl) rfl
theorem ex_at {P : Program} {w : World} {a : Act} {o : Oper} {t : TypeId} {x i : Operand} {u v r : Value} (ho : o.op = .index t x i) (hx : a.eval x = u) (hy : a.eval i = v) (hr : (Instr.index t u v).run P w = .ok r w) : (execOp a.eval o).run P w = .ok (.value r) w := by
  unfold execOp
  simp only [ho, hx, hy, hr, Sem.run_bind, Sem.run_pure, Result.andThen_ok]
theorem run_at (l : List UInt8) (x : Nat) (h : x < l.length) (w : World) : (Instr.index 9 (.string (sb l)) (.int .i64 x)).run Tryd.prog w = .ok (bv (l.getD x 0)) w := by
  have h2 : x < (sb l).size := by rw [size_sb]; exact h
  have hv : Value.int .u8 ((sb l)[x].toNat : Int) = bv (l.getD x 0) := by
    rw [get_bl (sb l) x h2, getD_get h]; rfl
  have b1 : (0 : Int) ≤ (x : Int) := by omega
  have b2 : (x : Int) < (l.length : Int) := by omega
  rw [← hv]
  go_simp
noncomputable def data_app_code : Code := ((Tryd.f42.body.bind (regionOf 11)).getD .skip)
def data_app_dsts : List (Option Nat) := [some 36, some 37, some 38, some 39, some 40, some 41, some 42, some 43, some 44, some 45, some 46, some 47, some 11]
theorem data_app_apart : apartD data_app_dsts = true := by decide +kernel
set_option maxRecDepth 1000000 in
set_option maxHeartbeats 16000000 in
theorem data_app (bP : Addr) (A GA : Option Addr) (B n cp Gc i ca k x d gl : Nat) (b : UInt8) (pk q : List UInt8) (gs : List (List Int)) (vs : List Value) (L0 : List LRow) (w wr : World) (hi8 : i < 1000000) (hk : k < n) (hck : Hid (Cd.check (d : Int) gs (gl : Int) = 0)) (hkp : Hid (k < d + gs.length + gl)) (hq : Hid (q = (List.range d).map (Cd.rowAt d gs k) ++ [b])) (hb : Hid (∀ w2 : World, (Instr.index 9 (.string (sb pk)) (.int .i64 x)).run Tryd.prog w2 = .ok (bv b) w2)) (hP : Hid (w.cell? (bP.add k) = some (.string (sb pk)))) (h0 : w.cell? ⟨B, 0, none⟩ = some (.int .i64 d)) (h1 : w.cell? ⟨B, 1, none⟩ = some (.slice GA gs.length Gc)) (h2 : w.cell? ⟨B, 2, none⟩ = some (.int .i64 gl)) (HG : Hid (Rs (Rs RI) w (.slice GA gs.length Gc) gs)) (HOO : Hid (Owns w wr.drew ([⟨.slice A i ca, 57, 1, i, vs⟩, no] ++ (L0 ++ [])))) (c0 c1 c2 c5 c6 c7 c8 c9 c13 c14 c15 c16 c17 c18 c19 c20 c21 c22 c23 c24 c25 c26 c27 c28 c29 c30 c31 c32 c33 c34 c35 c36 c37 c38 c39 c40 c41 c42 c43 c44 c45 c46 c47 c48 c49 c50 c51 c52 c53 c54 c55 c56 c57 c58 c59 c60 c61 c62 c63 c64 c65 c66 c67 c68 c69 c70 : Value) (df : List Deferred) (K : Act → World → Prop)
    (hK : ∀ (A2 : Option Addr) (ce g11 k11 : Nat) (u36 u37 u38 u39 u40 u41 u42 u43 u44 u45 u46 u47 : Value) (wx : World), Owns w wx ([⟨.slice (some ⟨g11, 0, none⟩) (i + 1) k11, 57, 1, i + 1, vs ++ [.slice A2 (d + 1) ce]⟩, no] ++ (L0 ++ [(⟨.slice A2 (d + 1) ce, 5, 1, d + 1, q.map bv⟩ : LRow)])) → K ⟨#[c0, c1, c2, .slice (some bP) n cp, .pointer (some ⟨B, 0, none⟩), c5, c6, c7, c8, c9, .int .i64 x, .slice (some ⟨g11, 0, none⟩) (i + 1) k11, .int .i64 k, c13, c14, c15, c16, c17, c18, c19, c20, c21, c22, c23, c24, c25, c26, c27, c28, c29, c30, c31, c32, c33, c34, c35, u36, u37, u38, u39, u40, u41, u42, u43, u44, u45, u46, u47, c48, c49, c50, c51, c52, c53, c54, c55, c56, c57, c58, c59, c60, c61, c62, c63, c64, c65, c66, c67, c68, c69, c70], df⟩ wx) :
    Code.wp Tryd.prog data_app_code (AtEnd K) ⟨#[c0, c1, c2, .slice (some bP) n cp, .pointer (some ⟨B, 0, none⟩), c5, c6, c7, c8, c9, .int .i64 x, .slice A i ca, .int .i64 k, c13, c14, c15, c16, c17, c18, c19, c20, c21, c22, c23, c24, c25, c26, c27, c28, c29, c30, c31, c32, c33, c34, c35, c36, c37, c38, c39, c40, c41, c42, c43, c44, c45, c46, c47, c48, c49, c50, c51, c52, c53, c54, c55, c56, c57, c58, c59, c60, c61, c62, c63, c64, c65, c66, c67, c68, c69, c70], df⟩ wr := by
  conv => arg 2; whnf
  refine region_inv (by kernel_rfl) [[], [], [], [], [], [3, 4], [5], [], [6, 7], [1, 2, 8], [9], [0, 10, 9], [11, 11, 0, 1, 2, 3, 4, 5, 6, 7, 8, 9, 10, 11]] (by kernel_rfl) [0, 1, 2, 3, 4, 5, 6, 7, 8, 9, 10, 11, 12] (by decide +kernel) (by decide +kernel) (by decide +kernel) (fun L a wc => ∃ (A2 : Option Addr) (ce : Nat) (g10 : Nat) (g11 : Nat) (k11 : Nat), InvO data_app_dsts [.slice A i ca, .agg #[.int .i64 d, .slice GA gs.length Gc, .int .i64 gl], .int .i64 k, .slice (some bP) n cp, .int .i64 k, .pointer (some (bP.add k)), .string (sb pk), .int .i64 x, bv b, .slice A2 (d + 1) ce, .slice (some ⟨g10, 0, none⟩) 1 1, .slice (some ⟨g11, 0, none⟩) (i + 1) k11, .slice (some ⟨g11, 0, none⟩) (i + 1) k11] ⟨#[c0, c1, c2, .slice (some bP) n cp, .pointer (some ⟨B, 0, none⟩), c5, c6, c7, c8, c9, .int .i64 x, .slice A i ca, .int .i64 k, c13, c14, c15, c16, c17, c18, c19, c20, c21, c22, c23, c24, c25, c26, c27, c28, c29, c30, c31, c32, c33, c34, c35, c36, c37, c38, c39, c40, c41, c42, c43, c44, c45, c46, c47, c48, c49, c50, c51, c52, c53, c54, c55, c56, c57, c58, c59, c60, c61, c62, c63, c64, c65, c66, c67, c68, c69, c70], df⟩ L a ∧ Hid (Owns w wc ([(if L 11 = true then ⟨.slice (some ⟨g11, 0, none⟩) (i + 1) k11, 57, 1, i + 1, vs ++ [.slice A2 (d + 1) ce]⟩ else ⟨.slice A i ca, 57, 1, i, vs⟩), (if L 10 = true then ⟨.slice (some ⟨g10, 0, none⟩) 1 1, 57, 1, 1, [.slice A2 (d + 1) ce]⟩ else no)] ++ (L0 ++ (if L 9 = true then [(⟨.slice A2 (d + 1) ce, 5, 1, d + 1, q.map bv⟩ : LRow)] else []))))) ⟨none, 0, 0, 0, 0, InvO.start, HOO⟩ ?_ ?_
  · refine ⟨?_, ?_, ?_, ?_, ?_, ?_, ?_, ?_, ?_, ?_, ?_, ?_, ?_, trivial⟩
    · -- 0 move
      rintro L a wc ⟨A2, ce, g10, g11, k11, hv, HO⟩ hL hc hd
      exact wpOp_val rfl rfl (ex_move rfl ((hv.old 12 11 rfl (Bool.eq_false_iff.2 fun h => Bool.false_ne_true (hL.symm.trans (hc 12 h 0 (by decide))))).trans rfl)) ⟨A2, ce, g10, g11, k11, hv.put data_app_apart 0 rfl (Nat.le_of_ble_eq_true rfl) (Nat.le_of_ble_eq_true rfl) rfl, HO⟩
    · -- 1 load
      rintro L a wc ⟨A2, ce, g10, g11, k11, hv, HO⟩ hL hc hd
      have e0 : wc.cell? ⟨B, 0, none⟩ = some (.int .i64 d) := HO.out.ext.cell h0
      have e1 : wc.cell? ⟨B, 1, none⟩ = some (.slice GA gs.length Gc) := HO.out.ext.cell h1
      have e2 : wc.cell? ⟨B, 2, none⟩ = some (.int .i64 gl) := HO.out.ext.cell h2
      exact wpOp_val rfl rfl (ex_load rfl ((hv.fixed 4 (by decide)).trans rfl) (by go_simp)) ⟨A2, ce, g10, g11, k11, hv.put data_app_apart 1 rfl (Nat.le_of_ble_eq_true rfl) (Nat.le_of_ble_eq_true rfl) rfl, HO⟩
    · -- 2 move
      rintro L a wc ⟨A2, ce, g10, g11, k11, hv, HO⟩ hL hc hd
      exact wpOp_val rfl rfl (ex_move rfl ((hv.fixed 12 (by decide)).trans rfl)) ⟨A2, ce, g10, g11, k11, hv.put data_app_apart 2 rfl (Nat.le_of_ble_eq_true rfl) (Nat.le_of_ble_eq_true rfl) rfl, HO⟩
    · -- 3 move
      rintro L a wc ⟨A2, ce, g10, g11, k11, hv, HO⟩ hL hc hd
      exact wpOp_val rfl rfl (ex_move rfl ((hv.fixed 3 (by decide)).trans rfl)) ⟨A2, ce, g10, g11, k11, hv.put data_app_apart 3 rfl (Nat.le_of_ble_eq_true rfl) (Nat.le_of_ble_eq_true rfl) rfl, HO⟩
    · -- 4 move
      rintro L a wc ⟨A2, ce, g10, g11, k11, hv, HO⟩ hL hc hd
      exact wpOp_val rfl rfl (ex_move rfl ((hv.fixed 12 (by decide)).trans rfl)) ⟨A2, ce, g10, g11, k11, hv.put data_app_apart 4 rfl (Nat.le_of_ble_eq_true rfl) (Nat.le_of_ble_eq_true rfl) rfl, HO⟩
    · -- 5 index
      rintro L a wc ⟨A2, ce, g10, g11, k11, hv, HO⟩ hL hc hd
      have b1 : (0 : Int) ≤ (k : Int) := by omega
      have b2 : (k : Int) < (n : Int) := by omega
      exact wpOp_val rfl rfl (ex_index rfl (hv.get 3 rfl rfl (hd 3 (by decide))) (hv.get 4 rfl rfl (hd 4 (by decide))) (by go_simp)) ⟨A2, ce, g10, g11, k11, hv.put data_app_apart 5 rfl (Nat.le_of_ble_eq_true rfl) (Nat.le_of_ble_eq_true rfl) rfl, HO⟩
    · -- 6 load
      rintro L a wc ⟨A2, ce, g10, g11, k11, hv, HO⟩ hL hc hd
      have eP : wc.cell? (bP.add k) = some (.string (sb pk)) := HO.out.ext.cell hP.out
      exact wpOp_val rfl rfl (ex_load rfl (hv.get 5 rfl rfl (hd 5 (by decide))) (by go_simp)) ⟨A2, ce, g10, g11, k11, hv.put data_app_apart 6 rfl (Nat.le_of_ble_eq_true rfl) (Nat.le_of_ble_eq_true rfl) rfl, HO⟩
    · -- 7 move
      rintro L a wc ⟨A2, ce, g10, g11, k11, hv, HO⟩ hL hc hd
      exact wpOp_val rfl rfl (ex_move rfl ((hv.fixed 10 (by decide)).trans rfl)) ⟨A2, ce, g10, g11, k11, hv.put data_app_apart 7 rfl (Nat.le_of_ble_eq_true rfl) (Nat.le_of_ble_eq_true rfl) rfl, HO⟩
    · -- 8 raw
      rintro L a wc ⟨A2, ce, g10, g11, k11, hv, HO⟩ hL hc hd
      exact wpOp_val rfl rfl (ex_at rfl (hv.get 6 rfl rfl (hd 6 (by decide))) (hv.get 7 rfl rfl (hd 7 (by decide))) (hb.out wc)) ⟨A2, ce, g10, g11, k11, hv.put data_app_apart 8 rfl (Nat.le_of_ble_eq_true rfl) (Nat.le_of_ble_eq_true rfl) rfl, HO⟩
    · -- 9 call
      rintro L a wc ⟨A2, ce, g10, g11, k11, hv, HO⟩ hL hc hd
      refine wpOp_call (R := fun v w1 => ∃ A3 c3, v = .slice A3 (d + 1) c3 ∧ Ext wc w1 ∧ w1.ownsRow wc.heap.size 5 1 (.slice A3 (d + 1) c3) (d + 1) (q.map bv)) rfl rfl (ex_call rfl rfl (map3c (hv.get 1 rfl rfl (hd 1 (by decide))) (hv.get 2 rfl rfl (hd 2 (by decide))) (hv.get 8 rfl rfl (hd 8 (by decide)))) (ent_eq _ _)) ((rEq_ok d gl k b gs (.slice GA gs.length Gc) wc (Rs.ext (Rs.ext RI.ext) _ _ _ _ HO.out.ext HG.out) hck.out hkp.out).mono (fun e w' ⟨A3, c3, h1, h2, h3⟩ => ⟨_, h1, A3, c3, rfl, h2, by rw [hq.out]; exact h3⟩)) ?_
      rintro v w' ⟨A3, c3, rfl, hx, ho2⟩
      have n10 : L 10 = false := Bool.eq_false_iff.2 fun h => Bool.false_ne_true (hL.symm.trans (hc 10 h 9 (by decide)))
      have n11 : L 11 = false := Bool.eq_false_iff.2 fun h => Bool.false_ne_true (hL.symm.trans (hc 10 (hc 11 h 10 (by decide)) 9 (by decide)))
      have h := HO.out.behind hx ho2
      simp only [hL, n10, n11, Bool.false_eq_true, if_false, List.append_nil] at h
      have h2 : Owns w w' ([(if L 11 = true then ⟨.slice (some ⟨g11, 0, none⟩) (i + 1) k11, 57, 1, i + 1, vs ++ [.slice A3 (d + 1) c3]⟩ else ⟨.slice A i ca, 57, 1, i, vs⟩), (if L 10 = true then ⟨.slice (some ⟨g10, 0, none⟩) 1 1, 57, 1, 1, [.slice A3 (d + 1) c3]⟩ else no)] ++ (L0 ++ [(⟨.slice A3 (d + 1) c3, 5, 1, d + 1, q.map bv⟩ : LRow)])) := by simp only [n10, n11, Bool.false_eq_true, if_false]; simpa using h
      exact ⟨A3, c3, g10, g11, k11, hv.put data_app_apart 9 rfl (Nat.le_of_ble_eq_true rfl) (Nat.le_of_ble_eq_true rfl) rfl, Lib.hid h2⟩
    · -- 10 lines
      rintro L a wc ⟨A2, ce, g10, g11, k11, hv, HO⟩ hL hc hd
      have hn := HO.out.new 1 #[.slice A2 (d + 1) ce] 57 (by simp [maxLen])
      exact wpOp_value rfl rfl (ex_build rfl Tryd.underlying29 info_bytes (hv.get 9 rfl rfl (hd 9 (by decide))) rfl) ⟨A2, ce, wc.heap.size, g11, k11, hv.put data_app_apart 10 rfl (Nat.le_of_ble_eq_true rfl) (Nat.le_of_ble_eq_true rfl) rfl, Lib.hid hn⟩
    · -- 11 lines
      rintro L a wc ⟨A2, ce, g10, g11, k11, hv, HO⟩ hL hc hd
      refine wpOp_append rfl rfl 29 57 rfl Tryd.underlying29 info_bytes rfl HO.out 0 (congrArg some (if_neg (by simp [hL]))) (hv.get 0 rfl rfl (hd 0 (by decide))) (hv.get 10 rfl rfl (hd 10 (by decide))) (HO.out.cell 1 (congrArg some (if_pos (hd 10 (by decide)))) 0 rfl) rfl (by omega) (by decide) ?_
      intro gg cc w2 hO2
      have hv := hv.reset 12 (Bool.eq_false_iff.2 fun h => Bool.false_ne_true (hL.symm.trans (hc 12 h 11 (by decide)))) (.slice (some ⟨gg, 0, none⟩) (i + 1) cc)
      exact ⟨A2, ce, g10, gg, cc, hv.put data_app_apart 11 rfl (Nat.le_of_ble_eq_true rfl) (Nat.le_of_ble_eq_true rfl) rfl, Lib.hid hO2⟩
    · -- 12 assign
      rintro L a wc ⟨A2, ce, g10, g11, k11, hv, HO⟩ hL hc hd
      exact wpOp_val rfl rfl (ex_assign rfl (hv.get 11 rfl rfl (hd 11 (by decide)))) ⟨A2, ce, g10, g11, k11, hv.put data_app_apart 12 rfl (Nat.le_of_ble_eq_true rfl) (Nat.le_of_ble_eq_true rfl) rfl, HO⟩
  · rintro L a wc ⟨A2, ce, g10, g11, k11, hv, HO⟩ hall
    show K a wc
    have ha := act_lit a
    rw [hv.size, hv.defers] at ha
    have hl : ∀ f : Nat → Value, ((List.range (⟨#[c0, c1, c2, .slice (some bP) n cp, .pointer (some ⟨B, 0, none⟩), c5, c6, c7, c8, c9, .int .i64 x, .slice A i ca, .int .i64 k, c13, c14, c15, c16, c17, c18, c19, c20, c21, c22, c23, c24, c25, c26, c27, c28, c29, c30, c31, c32, c33, c34, c35, c36, c37, c38, c39, c40, c41, c42, c43, c44, c45, c46, c47, c48, c49, c50, c51, c52, c53, c54, c55, c56, c57, c58, c59, c60, c61, c62, c63, c64, c65, c66, c67, c68, c69, c70], df⟩ : Act).tmps.size).map f).toArray = #[f 0, f 1, f 2, f 3, f 4, f 5, f 6, f 7, f 8, f 9, f 10, f 11, f 12, f 13, f 14, f 15, f 16, f 17, f 18, f 19, f 20, f 21, f 22, f 23, f 24, f 25, f 26, f 27, f 28, f 29, f 30, f 31, f 32, f 33, f 34, f 35, f 36, f 37, f 38, f 39, f 40, f 41, f 42, f 43, f 44, f 45, f 46, f 47, f 48, f 49, f 50, f 51, f 52, f 53, f 54, f 55, f 56, f 57, f 58, f 59, f 60, f 61, f 62, f 63, f 64, f 65, f 66, f 67, f 68, f 69, f 70] := fun _ => rfl
    rw [hl] at ha
    simp only [hv.fixed 0 (by decide), hv.fixed 1 (by decide), hv.fixed 2 (by decide), hv.fixed 3 (by decide), hv.fixed 4 (by decide), hv.fixed 5 (by decide), hv.fixed 6 (by decide), hv.fixed 7 (by decide), hv.fixed 8 (by decide), hv.fixed 9 (by decide), hv.fixed 10 (by decide), hv.fixed 12 (by decide), hv.fixed 13 (by decide), hv.fixed 14 (by decide), hv.fixed 15 (by decide), hv.fixed 16 (by decide), hv.fixed 17 (by decide), hv.fixed 18 (by decide), hv.fixed 19 (by decide), hv.fixed 20 (by decide), hv.fixed 21 (by decide), hv.fixed 22 (by decide), hv.fixed 23 (by decide), hv.fixed 24 (by decide), hv.fixed 25 (by decide), hv.fixed 26 (by decide), hv.fixed 27 (by decide), hv.fixed 28 (by decide), hv.fixed 29 (by decide), hv.fixed 30 (by decide), hv.fixed 31 (by decide), hv.fixed 32 (by decide), hv.fixed 33 (by decide), hv.fixed 34 (by decide), hv.fixed 35 (by decide), hv.fixed 48 (by decide), hv.fixed 49 (by decide), hv.fixed 50 (by decide), hv.fixed 51 (by decide), hv.fixed 52 (by decide), hv.fixed 53 (by decide), hv.fixed 54 (by decide), hv.fixed 55 (by decide), hv.fixed 56 (by decide), hv.fixed 57 (by decide), hv.fixed 58 (by decide), hv.fixed 59 (by decide), hv.fixed 60 (by decide), hv.fixed 61 (by decide), hv.fixed 62 (by decide), hv.fixed 63 (by decide), hv.fixed 64 (by decide), hv.fixed 65 (by decide), hv.fixed 66 (by decide), hv.fixed 67 (by decide), hv.fixed 68 (by decide), hv.fixed 69 (by decide), hv.fixed 70 (by decide), hv.get 12 (d := 11) rfl rfl (hall 12 (by decide))] at ha
    rw [ha]
    have hO := HO.out
    simp only [hall 9 (by decide), hall 10 (by decide), hall 11 (by decide), if_true] at hO
    exact hK A2 ce g11 k11 _ _ _ _ _ _ _ _ _ _ _ _ wc (hO.drop 1)
set_option maxRecDepth 100000 in
set_option maxHeartbeats 8000000 in
theorem rData_ok (d gl sz m p pl cp : Nat) (gs : List (List Int)) (pieces : List (List UInt8)) (G : Value) (PA : Option Addr) (w : World) (hG : Rs (Rs RI) w G gs) (hP : Rs RS w (.slice PA pl cp) pieces) (hpl : pieces.length = pl) (hp : (Cd.rowsOf (d : Int) gs (gl : Int)).length = p) (hpp : pl = p)
    (hc : Cd.can d gl gs (m : Int) = true) (hlen : ∀ k, k < p → Cd.bitAt m k = 1 → (pieces.getD k []).length = sz) (hsz : sz ≤ 4096) :
    Calls Tryd.prog 42 #[.agg #[.int .i64 d, G, .int .i64 gl], .int .i64 sz, .int .i64 m, .slice PA pl cp] w fun e w' => e = .returned (.string (sb (Cd.dataR (Cd.rowsOf (d : Int) gs (gl : Int)) d sz m pieces))) ∧ Ext w w' := by
  subst hpp
  have hx0 := (Ext.refl w).alloc (.cells #[.int .i64 d, G, .int .i64 gl] 24)
  obtain ⟨GA, Gc, rfl, hgl⟩ := hG.form
  have HX := Lib.hid (And.intro hx0 (And.intro (Rs.ext (Rs.ext RI.ext) _ _ _ _ hx0 hG) (Rs.ext RS.ext _ _ _ _ hx0 hP)))
  obtain ⟨h0, hm0, _⟩ := Cd.can_def.1 hc
  have hck := Cd.check_ok h0
  obtain ⟨k1, k2, k3, k4, k5, k6⟩ := hck
  have hrl := Cd.rowsOf_len h0
  have hgood := fun x => Cd.eqs_good (pieces := pieces) (m := m) rfl hc x
  have hrow : ∀ k, k < pl → (Cd.rowsOf d gs gl).getD k [] = (List.range d).map (Cd.rowAt d gs k) := fun k hk => by
    rw [Cd.rowsOf_ok h0]
    exact Cd.rows_get (by show k < d + gs.length + gl; rw [hp] at hrl; omega)
  rw [hp] at hrl hm0
  have hdat : Cd.dataR (Cd.rowsOf (d : Int) gs (gl : Int)) d sz m pieces = (List.range (d * sz)).map fun t => (Cd.solvedR (Cd.eqTo (Cd.rowsOf (d : Int) gs (gl : Int)) m pieces (t % sz) pl) d).getD (t / sz) 0 := by unfold Cd.dataR; rw [hp]
  obtain ⟨R, hR⟩ : ∃ R, Cd.rowsOf (d : Int) gs (gl : Int) = R := ⟨_, rfl⟩
  rw [hR] at hp hgood hrow hdat ⊢
  rw [hp] at hgood
  obtain ⟨F, hF⟩ : ∃ F : Nat → Nat → UInt8, (fun i x => (Cd.solvedR (Cd.eqTo R m pieces x pl) d).getD i 0) = F := ⟨_, rfl⟩
  have hFx : ∀ i x, (Cd.solvedR (Cd.eqTo R m pieces x pl) d).getD i 0 = F i x := fun i x => by rw [← hF]
  obtain ⟨N, hN⟩ : ∃ N, d * sz = N := ⟨_, rfl⟩
  rw [hN] at hdat
  have hdat2 : Cd.dataR R d sz m pieces = (List.range N).map fun t => F (t / sz) (t % sz) := by
    rw [hdat]
    apply List.map_congr_left
    intro t _
    exact hFx _ _
  have hNle : N ≤ 65536 := by
    have := Nat.mul_le_mul (show d ≤ 16 by omega) hsz
    omega
  have hmul : (d : Int) * (sz : Int) = (N : Int) := by rw [← hN, Int.natCast_mul]
  have hm24 : m ≤ 16777216 := by
    have : 2 ^ pl ≤ 2 ^ 24 := Nat.pow_le_pow_right (by omega) (by omega)
    omega
  have hd16 : d ≤ 16 := by omega
  have hd1 : 1 ≤ d := by omega
  have hpl24 : pl ≤ 24 := by omega
  have hkp : ∀ k, k < pl → k < d + gs.length + gl := fun k hk => by omega
  have HC := Lib.hid (And.intro h0 (And.intro hkp (And.intro hgood (And.intro hrow hFx))))
  have HD := Lib.hid (And.intro hdat2 (And.intro hN (And.intro hpl hlen)))
  obtain ⟨i0, hi, hz0, hz1, hz2⟩ := info_parts info_u8
  have HZ2 := Lib.hid hz2
  clear hz2 hG hP hx0 h0 hc hm0 hrl hgood hrow hdat hR hp hF hFx hN hdat2 hkp hpl hlen k1 k2 k3 k4 k5 k6
  have step : ∀ (w2 : World), Ext (w.alloc (.cells #[.int .i64 d, .slice GA gs.length Gc, .int .i64 gl] 24)) w2 →
      w2.cell? ⟨w.heap.size, 0, none⟩ = some (.int .i64 d) ∧ w2.cell? ⟨w.heap.size, 1, none⟩ = some (.slice GA gs.length Gc) ∧ w2.cell? ⟨w.heap.size, 2, none⟩ = some (.int .i64 gl) := fun w2 hx => ⟨hx.cell (by go_simp), hx.cell (by go_simp), hx.cell (by go_simp)⟩
  have ST := Lib.hid step
  clear step
  have hc0 : (w.alloc (.cells #[.int .i64 d, .slice GA gs.length Gc, .int .i64 gl] 24)).cell? ⟨w.heap.size, 0, none⟩ = some (.int .i64 d) := by go_simp
  obtain ⟨wb, hwb⟩ : ∃ wb, w.alloc (.cells #[.int .i64 d, .slice GA gs.length Gc, .int .i64 gl] 24) = wb := ⟨_, rfl⟩
  rw [hwb] at HX ST hc0
  go_enter Tryd.func42, Tryd.ntmps42
  go_upto_region 1 with fail
  clear hwb
  go_wp2_with (refine wpList_make_full _ rfl (.tmp 19) (.tmp 19) 57 rfl wb.heap.size 5 i0 (.int .u8 0) 1 Tryd.underlying57 hi hz0 hz1 _ _ _ _ N rfl rfl rfl rfl (by rw [HZ2.out]; omega) (by unfold maxLen; omega) (Nat.le_refl _) ?_; intro w3 hown hgrow; have hx3 : Ext wb w3 := (Ext.refl wb).grown hgrow (fun k h => by cases h); have hO3 : Owns wb w3 [⟨.slice (some ⟨wb.heap.size, 0, none⟩) N N, 5, 1, N, (madeCells (Value.int .u8 0).cells (N * 1)).toList⟩] := ((Owns.start wb (L := []) (by simp)).behind hx3 hown); have HO3 := Lib.hid hO3; clear hown hgrow hx3 hO3)
  clear hc0
  have HO4 : Hid (Owns wb w3 [⟨.slice (some ⟨wb.heap.size, 0, none⟩) N N, 5, 1, N, (Cd.outS N sz 0 0 F).map bv⟩]) := by
    have h := HO3.out
    rw [show (madeCells (Value.int .u8 0).cells (N * 1)).toList = List.replicate N (Value.int .u8 0) from by rw [Nat.mul_one]; exact toList_madeCells_one _ _, bytes_zero] at h
    rw [Cd.outS_start]
    exact Lib.hid h
  clear HO3
  go_loopw [10] (fun vx wr => ∃ x : Nat, x ≤ sz ∧ vx = .int .i64 x ∧ Hid (Owns wb wr [⟨.slice (some ⟨wb.heap.size, 0, none⟩) N N, 5, 1, N, (Cd.outS N sz x 0 F).map bv⟩])) (fun vx _ => sz - (intOf vx).toNat)
  case atStart => exact ⟨0, Nat.zero_le _, rfl, HO4⟩
  case round =>
    obtain ⟨x, hx, rfl, HX0⟩ := hrel
    clear HO4
    by_cases hlt : x < sz
    · have hrow0 : Owns wb wr (⟨.slice none 0 0, 57, 1, 0, []⟩ :: no :: (⟨.slice (some ⟨wb.heap.size, 0, none⟩) N N, 5, 1, N, (Cd.outS N sz x 0 F).map bv⟩ :: [])) := by
        have h1 := HX0.out.wider.wider.put 1 (nilRow 57) HX0.out.ext (nilRow_ok _ _ _) (fun _ _ _ _ _ _ => rfl) (fun _ _ _ _ => .inl rfl)
        refine h1.perm ?_
        show ([⟨.slice (some ⟨wb.heap.size, 0, none⟩) N N, 5, 1, N, (Cd.outS N sz x 0 F).map bv⟩, nilRow 57, no] : List LRow).Perm [nilRow 57, no, ⟨.slice (some ⟨wb.heap.size, 0, none⟩) N N, 5, 1, N, (Cd.outS N sz x 0 F).map bv⟩]
        exact List.perm_append_comm (l₁ := [_]) (l₂ := [_, _])
      have HROW := Lib.hid hrow0
      clear hrow0
      go_wp2_with fail
      go_loopw [11, 12] (fun vl vk wr => ∃ (k i ca : Nat) (A : Option Addr) (vs : List Value) (L0 : List LRow), k ≤ pl ∧ vk = .int .i64 k ∧ vl = .slice A i ca ∧ i ≤ k ∧ Hid (Owns wb wr ([⟨.slice A i ca, 57, 1, i, vs⟩, no] ++ ((⟨.slice (some ⟨wb.heap.size, 0, none⟩) N N, 5, 1, N, (Cd.outS N sz x 0 F).map bv⟩ :: L0) ++ [])) ∧ RowsIn vs (⟨.slice (some ⟨wb.heap.size, 0, none⟩) N N, 5, 1, N, (Cd.outS N sz x 0 F).map bv⟩ :: L0) (Cd.eqTo R m pieces x k))) (fun _ vk _ => pl - (intOf vk).toNat)
      case atStart => exact ⟨0, 0, 0, none, [], [], Nat.zero_le _, rfl, rfl, Nat.le_refl _, Lib.hid (And.intro HROW.out (by rw [Cd.eqTo_zero]; exact RowsIn.nil _))⟩
      case round =>
        obtain ⟨k, i, ca, A, vs, L0, hk, rfl, rfl, hik, HK⟩ := hrel
        by_cases hkl : k < pl
        · have hpd := HD.out.2.2.1
          obtain ⟨bP, u, rfl, hcP, hu⟩ := HX.out.2.2.at (i := k) (by rw [hpd]; exact hkl)
          unfold RS at hu
          subst hu
          by_cases hb : Cd.bitAt m k = 1
          · have hin : Cd.inS m k = true := by unfold Cd.inS; simp [hb]
            have hlk := HD.out.2.2.2 k hkl hb
            have heq := Cd.eqTo_yes (R := R) (pieces := pieces) (x := x) hb
            have hgp := getD_get (x := ([] : List UInt8)) (l := pieces) (i := k) (by rw [hpd]; exact hkl)
            rw [hgp] at heq hlk
            obtain ⟨pk, hpk⟩ : ∃ pk, pieces[k] = pk := ⟨_, rfl⟩
            rw [hpk] at heq hlk hcP
            rw [HC.out.2.2.2.1 k hkl] at heq
            have HEQ := Lib.hid (And.intro heq (And.intro hlk hcP))
            have HIN := Lib.hid hin
            clear hpd hcP hb hin heq hlk hgp hpk
            go_wp2_with fail
            refine (rIn_any m k _ hm24 (by omega)).mono ?_
            rintro e w4 ⟨rfl, rfl⟩
            rw [HIN.out]
            obtain ⟨c0, c1, c2⟩ := ST.out wb (Ext.refl _)
            go_upto_region 11 with fail
            refine wp_atEnd' (data_app bP A GA w.heap.size pl cp Gc i ca k x d gl (pk.getD x 0) pk _ gs vs _ wb wr (by omega) hkl (Lib.hid HC.out.1) (Lib.hid (HC.out.2.1 k hkl)) (Lib.hid rfl) (Lib.hid fun w2 => run_at pk x (by rw [HEQ.out.2.1]; exact hlt) w2) (Lib.hid HEQ.out.2.2) c0 c1 c2 (Lib.hid HX.out.2.1) (Lib.hid HK.out.1.drew) _ _ _ _ _ _ _ _ _ _ _ _ _ _ _ _ _ _ _ _ _ _ _ _ _ _ _ _ _ _ _ _ _ _ _ _ _ _ _ _ _ _ _ _ _ _ _ _ _ _ _ _ _ _ _ _ _ _ _ _ _ _ _ _ _ _ _ _ ?_)
            intro A9 c9 g9 k9
            intros
            rename_i wx hOx
            have hlq : ((List.range d).map (Cd.rowAt d gs k) ++ [pk.getD x 0]).length = d + 1 := by simp
            have hrs : RowsIn (vs ++ [.slice A9 (d + 1) c9]) ((⟨.slice (some ⟨wb.heap.size, 0, none⟩) N N, 5, 1, N, (Cd.outS N sz x 0 F).map bv⟩ :: L0) ++ [(⟨.slice A9 (d + 1) c9, 5, 1, d + 1, ((List.range d).map (Cd.rowAt d gs k) ++ [pk.getD x 0]).map bv⟩ : LRow)]) (Cd.eqTo R m pieces x (k + 1)) := by
              rw [HEQ.out.1]
              exact (HK.out.2.mono (fun x hx => List.mem_append_left _ hx)).snoc hlq (List.mem_append_right _ (List.mem_singleton.2 rfl))
            have HOX := Lib.hid (And.intro hOx hrs)
            clear hOx hrs c0 c1 c2
            go_wp2_with fail
            go_roundw
            case rel => exact ⟨k + 1, i + 1, _, _, _, L0 ++ [_], by omega, by go_num, rfl, by omega, Lib.hid (And.intro (by simpa using HOX.out.1) (by simpa using HOX.out.2))⟩
            case measure => simp [intOf]; omega
          · have hin : Cd.inS m k = false := by unfold Cd.inS; simp [hb]
            have heq := Cd.eqTo_no (R := R) (pieces := pieces) (x := x) hb
            have HEQ := Lib.hid (And.intro heq hin)
            clear hpd hcP hb hin heq
            go_wp2_with fail
            refine (rIn_any m k _ hm24 (by omega)).mono ?_
            rintro e w4 ⟨rfl, rfl⟩
            rw [HEQ.out.2]
            go_wp2_with fail
            go_roundw
            case rel => exact ⟨k + 1, i, ca, A, vs, L0, by omega, by go_num, rfl, by omega, Lib.hid (by rw [HEQ.out.1]; exact HK.out)⟩
            case measure => simp [intOf]; omega
        · obtain rfl : k = pl := by omega
          have hgj := HC.out.2.2.1 x
          have hFx := fun i => HC.out.2.2.2.2 i x
          have hre := HK.out.2
          obtain ⟨eqs, heqs⟩ : ∃ eqs, Cd.eqTo R m pieces x k = eqs := ⟨_, rfl⟩
          rw [heqs] at hgj hFx hre
          have hik2 : i = eqs.length := by
            have h1 := (HK.out.1.row 0 rfl).1
            rw [← hre.1]
            simpa using h1.symm
          obtain ⟨hd1', _, _⟩ := (Cd.gj_good hgj d (Nat.le_refl _)).diag (d - 1) (by omega)
          have hi0 : 0 < i := by omega
          obtain ⟨g, rfl⟩ := ownsRow_some (HK.out.1.row 0 rfl) hi0
          rw [← hik2] at hgj
          have hO1 : Owns wb wr (⟨.slice (some ⟨g, 0, none⟩) i ca, 57, 1, i, vs⟩ :: (no :: ⟨.slice (some ⟨wb.heap.size, 0, none⟩) N N, 5, 1, N, (Cd.outS N sz x 0 F).map bv⟩ :: L0)) := by simpa using HK.out.1
          have hV1 : RowsIn vs (no :: ⟨.slice (some ⟨wb.heap.size, 0, none⟩) N N, 5, 1, N, (Cd.outS N sz x 0 F).map bv⟩ :: L0) eqs := hre.mono fun y hy => List.mem_cons_of_mem _ hy
          have hsl : ∀ i2, i2 < d → (Cd.solvedR eqs d).getD i2 0 = F i2 x := fun i2 _ => hFx i2
          have hsn := Cd.solvedR_len eqs d
          have HS := Lib.hid (And.intro hO1 (And.intro hV1 (And.intro hgj (And.intro hsl hsn))))
          obtain ⟨c0, c1, c2⟩ := ST.out wr HK.out.1.ext
          clear hgj hFx hre heqs hik2 hd1' hO1 hV1 hsl hsn HK HROW c1 c2
          go_wp2_with fail
          clear c0
          refine (rSolved_any d i g ca eqs vs _ wb wr hd1 hd16 (by omega) HS.out.1 HS.out.2.1 HS.out.2.2.1).mono ?_
          rintro e w5 ⟨vs5, X5, A5, c5, rfl, hO5⟩
          obtain ⟨g5, rfl⟩ := ownsRow_some (hO5.row 0 rfl) (by omega)
          have hO6 : Owns wb w5 [⟨.slice (some ⟨g5, 0, none⟩) d c5, 5, 1, d, (Cd.solvedR eqs d).map bv⟩, ⟨.slice (some ⟨wb.heap.size, 0, none⟩) N N, 5, 1, N, (Cd.outS N sz x 0 F).map bv⟩] := hO5.sublist (.cons_cons _ (.cons _ (.cons _ (.cons _ (.cons_cons _ (List.nil_sublist _))))))
          have HO6 := Lib.hid hO6
          clear hO5 hO6
          go_wp2_with fail
          go_loopw [15] (fun vi wr => ∃ i : Nat, i ≤ d ∧ vi = .int .i64 i ∧ Hid (Owns wb wr [⟨.slice (some ⟨g5, 0, none⟩) d c5, 5, 1, d, (Cd.solvedR eqs d).map bv⟩, ⟨.slice (some ⟨wb.heap.size, 0, none⟩) N N, 5, 1, N, (Cd.outS N sz x i F).map bv⟩])) (fun vi _ => d - (intOf vi).toNat)
          case atStart => exact ⟨0, Nat.zero_le _, rfl, HO6⟩
          case round =>
            obtain ⟨i3, hi3, rfl, HI⟩ := hrel
            obtain ⟨c0, c1, c2⟩ := ST.out wr HI.out.ext
            clear c1 c2
            by_cases hil : i3 < d
            · obtain ⟨lo, hlo⟩ : ∃ lo, i3 * sz = lo := ⟨_, rfl⟩
              obtain ⟨tt, htt⟩ : ∃ tt, lo + x = tt := ⟨_, rfl⟩
              have q1 : (i3 : Int) * (sz : Int) = (lo : Int) := by rw [← hlo, Int.natCast_mul]
              have q2 : (lo : Int) + (x : Int) = (tt : Int) := by rw [← htt]; rfl
              have q3 : (i3 + 1) * sz ≤ d * sz := Nat.mul_le_mul_right sz hil
              rw [Nat.succ_mul, hlo, HD.out.2.1] at q3
              have q4 : tt < N := by omega
              have q5 : lo ≤ 65536 := by omega
              have hset := Cd.outS_set (N := N) (i := i3) F (show tt = i3 * sz + x by rw [hlo, htt]) hlt
              have hb3 : ((Cd.solvedR eqs d).map bv)[i3]? = some (bv (F i3 x)) := by
                rw [List.getElem?_map, List.getElem?_eq_getElem (by rw [HS.out.2.2.2.2]; exact hil), ← getD_get (x := (0 : UInt8)) (by rw [HS.out.2.2.2.2]; exact hil), HS.out.2.2.2.1 i3 hil]
                rfl
              have hcb : wr.cell? ⟨g5, i3, none⟩ = some (bv (F i3 x)) := HI.out.cell 0 rfl i3 hb3
              have hot : ((Cd.outS N sz x i3 F).map bv)[tt]? = some (bv ((Cd.outS N sz x i3 F).getD tt 0)) := by
                rw [List.getElem?_map, List.getElem?_eq_getElem (by rw [Cd.outS_len]; exact q4), ← getD_get (x := (0 : UInt8)) (by rw [Cd.outS_len]; exact q4)]
                rfl
              have hct : wr.cell? ⟨wb.heap.size, tt, none⟩ = some (bv ((Cd.outS N sz x i3 F).getD tt 0)) := HI.out.cell 1 rfl tt hot
              have hft : wr.frozen? ⟨wb.heap.size, tt, none⟩ = false := HI.out.frozen 1 rfl tt
              have hst : Owns wb (wr.setCell ⟨wb.heap.size, tt, none⟩ (bv (F i3 x))) [⟨.slice (some ⟨g5, 0, none⟩) d c5, 5, 1, d, (Cd.solvedR eqs d).map bv⟩, ⟨.slice (some ⟨wb.heap.size, 0, none⟩) N N, 5, 1, N, (Cd.outS N sz x (i3 + 1) F).map bv⟩] := by
                have h1 := HI.out.store 1 rfl tt (bv (F i3 x))
                rw [hset, List.map_set]
                exact h1
              have HST := Lib.hid hst
              obtain ⟨ov, hov⟩ : ∃ ov, bv ((Cd.outS N sz x i3 F).getD tt 0) = ov := ⟨_, rfl⟩
              rw [hov] at hct
              obtain ⟨fv, hfv⟩ : ∃ fv, F i3 x = fv := ⟨_, rfl⟩
              rw [hfv] at hcb HST
              clear hlo htt q3 hset hb3 hot hst hov hfv
              go_wp2_with fail
              go_roundw
              case rel => exact ⟨i3 + 1, by omega, by go_num, HST⟩
              case measure => simp [intOf]; omega
            · obtain rfl : i3 = d := by omega
              have hnx := Cd.outS_next (x := x) F HD.out.2.1.symm (by omega)
              have hO7 := HI.out.sublist (L' := [⟨.slice (some ⟨wb.heap.size, 0, none⟩) N N, 5, 1, N, (Cd.outS N sz x i3 F).map bv⟩]) (.cons _ (.cons_cons _ (List.nil_sublist _)))
              rw [hnx] at hO7
              have HO7 := Lib.hid hO7
              clear hnx hO7
              go_wp2_with fail
              go_roundw
              case rel => exact ⟨x + 1, by omega, by go_num, HO7⟩
              case measure => simp [intOf]; omega
    · obtain rfl : x = sz := by omega
      have hfin : Cd.outS N x x 0 F = Cd.dataR R d x m pieces := by
        rcases Nat.eq_zero_or_pos x with h | h
        · subst h
          have hN0 : N = 0 := by rw [← HD.out.2.1]; simp
          have h2 : Cd.outS N 0 0 0 F = [] := List.length_eq_zero_iff.1 (by rw [Cd.outS_len]; exact hN0)
          have h3 : Cd.dataR R d 0 m pieces = [] := List.length_eq_zero_iff.1 (by rw [Cd.dataR_len]; simp)
          rw [h2, h3]
        · rw [Cd.outS_end F h, HD.out.1]
      have hrd := own_rd (HX0.out.row 0 rfl)
      have hl9 := Cd.outS_len N x x 0 F
      rw [hfin] at hrd hl9
      obtain ⟨res, hres⟩ : ∃ res, Cd.dataR R d x m pieces = res := ⟨_, rfl⟩
      rw [hres] at hrd hl9
      have HRES := Lib.hid hres
      have hrun := str_u8 (n := N) (c := N) (w := wr) hl9.symm hrd
      have HXF := Lib.hid (HX.out.1.trans HX0.out.ext)
      clear hfin hrd hl9 hres HX0
      go_wp2_with fail
      go_ret
      exact ⟨by rw [HRES.out]; rfl, HXF.out⟩
end Go.Proofs.YtgkohfmgdejkpaaDoor

/- THE WALK over the specification of codes: Decode. -/
namespace Cd
/-- Both ways to solve agree, as far as the pieces fit. -/
theorem dec_ref {d gl n m : Nat} {gs : List (List Int)} {R pieces : List (List UInt8)} (hR : rowsOf (d : Int) gs (gl : Int) = R) (hpl : pieces.length = R.length) (hc : can d gl gs (m : Int) = true) (hlen : ∀ k, k < R.length → bitAt m k = 1 → (pieces.getD k []).length = sizeN d n) :
    badOne m (encode d gl gs (chunkOf d gl gs n m pieces)) pieces = badOne m (encode d gl gs ((dataR R d (sizeN d n) m pieces).take n)) pieces ∧ (badOne m (encode d gl gs ((dataR R d (sizeN d n) m pieces).take n)) pieces = false → chunkOf d gl gs n m pieces = (dataR R d (sizeN d n) m pieces).take n) := by
  obtain ⟨h0, _, _⟩ := can_def.1 hc
  have hk := check_ok h0
  obtain ⟨C, hC⟩ : ∃ C, chunkOf d gl gs n m pieces = C := ⟨_, rfl⟩
  obtain ⟨D, hD⟩ : ∃ D, (dataR R d (sizeN d n) m pieces).take n = D := ⟨_, rfl⟩
  have hCn : C.length = n := by
    rw [← hC]
    exact chunk_len h0 hc (fun k h1 h2 => by rw [hR] at h1; rw [Int.toNat_natCast]; exact hlen k h1 h2)
  have hDn : D.length = n := by
    rw [← hD, List.length_take, dataR_len]
    have := size_ge (d := d) (by omega) n
    omega
  have hok : ∀ X, badOne m (encode d gl gs X) pieces = false → ∀ k, k < R.length → bitAt m k = 1 → pieces.getD k [] = (encode d gl gs X).getD k [] := fun X hX k h1 h2 => by
    apply Classical.byContradiction
    intro hne
    have := badOne_iff.2 ⟨k, by rw [hpl]; exact h1, h2, fun h => hne h.symm⟩
    rw [hX] at this
    cases this
  have h1 : badOne m (encode d gl gs C) pieces = false → D = C := fun h => by
    have h2 := dataR_fits (X := C) hR hc (hok C h)
    rw [hCn, hD] at h2
    exact h2
  have h2 : badOne m (encode d gl gs D) pieces = false → C = D := fun h => by
    have h3 := chunk_data h0 hc (data := D) (pieces := pieces) (fun k k1 k2 => hok D h k (by rw [← hR]; exact k1) k2)
    rw [hDn, hC] at h3
    exact h3
  rw [hC, hD]
  refine ⟨?_, h2⟩
  cases e1 : badOne m (encode d gl gs C) pieces with
  | false => rw [h1 e1, e1]
  | true =>
    cases e2 : badOne m (encode d gl gs D) pieces with
    | true => rfl
    | false => rw [h2 e2, e2] at e1; cases e1
end Cd
namespace Go.Proofs.YtgkohfmgdejkpaaDoor
open Go.RowKit
def decodedRow (g : Nat) (v e : Value) : LRow := ⟨.slice (some ⟨g, 0, none⟩) 2 2, 48, 1, 2, [v, e]⟩
theorem extract_take (l : List UInt8) (n : Nat) : (sb l).extract 0 n = sb (l.take n) := by
  apply ByteArray.ext
  apply Array.ext'
  simp [sb]
theorem run_take (l : List UInt8) (n : Nat) (h : n ≤ l.length) (w : World) : (Instr.sliceAt 9 (.string (sb l)) none (some (.int .i64 n)) none).run Tryd.prog w = .ok (.string (sb (l.take n))) w := by
  have b1 : (0 : Int) ≤ (n : Int) := by omega
  have b2 : (n : Int) ≤ (l.length : Int) := by omega
  rw [← extract_take]
  go_simp
theorem ex_lenS {P : Program} {w : World} {a : Act} {o : Oper} {x : Operand} {s : ByteArray} {t : TypeId} (ho : o.op = .call { callee := .builtin .len, args := #[x], argTypes := #[t] }) (hx : a.eval x = .string s) (hr : (Builtin.len_ #[t] o.type #[.string s]).run P w = .ok (.int .i64 s.size) w) : (execOp a.eval o).run P w = .ok (.value (.int .i64 s.size)) w := by
  unfold execOp
  simp only [ho, resolve, invoke, builtin, Sem.run_bind, Sem.run_pure, Result.andThen_ok, List.map_toArray, List.map_cons, List.map_nil, hx, hr]
theorem ex_alloc {P : Program} {w w' : World} {a : Act} {o : Oper} {t : TypeId} {v : Value} (ho : o.op = .alloc t) (hr : (Instr.alloc t true (.tuple #[])).run P w = .ok v w') : (execOp a.eval o).run P w = .ok (.value v) w' := by
  unfold execOp
  simp only [ho, hr, Sem.run_bind, Sem.run_pure, Result.andThen_ok]
theorem ent7_size : ∀ args w, (callFunc 16 args).run Tryd.prog w = .ok (.enter 16 args) w := enters_of Tryd.func16 (by kernel_rfl) rfl
theorem ent7_data : ∀ args w, (callFunc 42 args).run Tryd.prog w = .ok (.enter 42 args) w := enters_of Tryd.func42 (by kernel_rfl) rfl
theorem ent7_enc : ∀ args w, (callFunc 11 args).run Tryd.prog w = .ok (.enter 11 args) w := enters_of Tryd.func11 (by kernel_rfl) rfl

/-- What reads as strings stays while a cell of no string changes. -/
theorem rs_keep {w : World} {V : Value} {l : List (List UInt8)} {p : Addr} {u v : Value} (h : Rs RS w V l) (hp : w.cell? p = some u) (hu : ∀ x : ByteArray, u ≠ .string x) : Rs RS (w.setCell p v) V l := by
  obtain ⟨A, c, rfl, hl, h⟩ := h
  refine ⟨A, c, rfl, hl, fun i x hi => ?_⟩
  obtain ⟨ad, y, h1, h2, h3⟩ := h i x hi
  refine ⟨ad, y, h1, ?_, h3⟩
  rw [World.cell?_setCell_other _ _ _ _ ?_]
  · exact h2
  · rintro rfl
    rw [hp] at h2
    injection h2 with h2
    rw [h3] at h2
    exact hu _ h2
noncomputable def dec_len_code : Code := ((Tryd.f21.body.bind (regionOf 11)).getD .skip)
def dec_len_dsts : List (Option Nat) := [some 54, some 55, some 56, some 57, some 58, some 59, some 60, some 61, some 62, some 63, some 64, some 65]
theorem dec_len_apart : apartD dec_len_dsts = true := by decide +kernel
set_option maxRecDepth 1000000 in
set_option maxHeartbeats 16000000 in
theorem dec_len (bP : Addr) (GA : Option Addr) (B n cp Gc k : Nat) (d gl N : Int) (bb : Bool) (pk : ByteArray) (gs : List (List Int)) (wr : World) (hgn : gs.length ≤ 1000000) (hk : k < n) (hP : Hid (wr.cell? (bP.add k) = some (.string pk))) (hbb : Hid (((pk.size : Int) != Cd.sizeOf d gl gs N) = bb)) (h0 : wr.cell? ⟨B, 0, none⟩ = some (.int .i64 d)) (h1 : wr.cell? ⟨B, 1, none⟩ = some (.slice GA gs.length Gc)) (h2 : wr.cell? ⟨B, 2, none⟩ = some (.int .i64 gl)) (HG : Hid (Rs (Rs RI) wr (.slice GA gs.length Gc) gs)) (c0 c2 c5 c6 c7 c8 c9 c10 c13 c14 c15 c16 c17 c18 c19 c20 c21 c22 c23 c24 c25 c26 c27 c28 c29 c30 c31 c32 c33 c34 c35 c36 c37 c38 c39 c40 c41 c42 c43 c44 c45 c46 c47 c48 c49 c50 c51 c52 c53 c54 c55 c56 c57 c58 c59 c60 c61 c62 c63 c64 c65 c66 c67 c68 c69 c70 c71 c72 c73 c74 c75 c76 c77 c78 c79 c80 c81 c82 c83 c84 c85 c86 c87 c88 c89 c90 c91 c92 c93 c94 c95 c96 c97 c98 c99 c100 c101 c102 c103 c104 c105 c106 c107 c108 c109 c110 c111 : Value) (df : List Deferred) (K : Act → World → Prop)
    (hK : ∀  (u54 u55 u56 u57 u58 u59 u60 u61 u62 u63 u64 : Value) (wx : World), Ext wr wx → K ⟨#[c0, .int .i64 N, c2, .slice (some bP) n cp, .pointer (some ⟨B, 0, none⟩), c5, c6, c7, c8, c9, c10, .int .i64 k, .bool true, c13, c14, c15, c16, c17, c18, c19, c20, c21, c22, c23, c24, c25, c26, c27, c28, c29, c30, c31, c32, c33, c34, c35, c36, c37, c38, c39, c40, c41, c42, c43, c44, c45, c46, c47, c48, c49, c50, c51, c52, c53, u54, u55, u56, u57, u58, u59, u60, u61, u62, u63, u64, .bool bb, c66, c67, c68, c69, c70, c71, c72, c73, c74, c75, c76, c77, c78, c79, c80, c81, c82, c83, c84, c85, c86, c87, c88, c89, c90, c91, c92, c93, c94, c95, c96, c97, c98, c99, c100, c101, c102, c103, c104, c105, c106, c107, c108, c109, c110, c111], df⟩ wx) :
    Code.wp Tryd.prog dec_len_code (AtEnd K) ⟨#[c0, .int .i64 N, c2, .slice (some bP) n cp, .pointer (some ⟨B, 0, none⟩), c5, c6, c7, c8, c9, c10, .int .i64 k, .bool true, c13, c14, c15, c16, c17, c18, c19, c20, c21, c22, c23, c24, c25, c26, c27, c28, c29, c30, c31, c32, c33, c34, c35, c36, c37, c38, c39, c40, c41, c42, c43, c44, c45, c46, c47, c48, c49, c50, c51, c52, c53, c54, c55, c56, c57, c58, c59, c60, c61, c62, c63, c64, c65, c66, c67, c68, c69, c70, c71, c72, c73, c74, c75, c76, c77, c78, c79, c80, c81, c82, c83, c84, c85, c86, c87, c88, c89, c90, c91, c92, c93, c94, c95, c96, c97, c98, c99, c100, c101, c102, c103, c104, c105, c106, c107, c108, c109, c110, c111], df⟩ wr := by
  conv => arg 2; whnf
  refine region_inv (by kernel_rfl) [[], [0], [1], [1], [2, 3, 1], [4, 1], [5, 1], [1], [1], [7, 8, 1, 1], [6, 9, 1], [1, 10]] (by kernel_rfl) [0, 1, 2, 3, 4, 5, 6, 7, 8, 9, 10, 11] (by decide +kernel) (by decide +kernel) (by decide +kernel) (fun L a wc => Inv dec_len_dsts [.bool true, .bool true, .slice (some bP) n cp, .int .i64 k, .pointer (some (bP.add k)), .string pk, .int .i64 pk.size, .agg #[.int .i64 d, .slice GA gs.length Gc, .int .i64 gl], .int .i64 N, .int .i64 (Cd.sizeOf d gl gs N), .bool bb, .bool bb] ⟨#[c0, .int .i64 N, c2, .slice (some bP) n cp, .pointer (some ⟨B, 0, none⟩), c5, c6, c7, c8, c9, c10, .int .i64 k, .bool true, c13, c14, c15, c16, c17, c18, c19, c20, c21, c22, c23, c24, c25, c26, c27, c28, c29, c30, c31, c32, c33, c34, c35, c36, c37, c38, c39, c40, c41, c42, c43, c44, c45, c46, c47, c48, c49, c50, c51, c52, c53, c54, c55, c56, c57, c58, c59, c60, c61, c62, c63, c64, c65, c66, c67, c68, c69, c70, c71, c72, c73, c74, c75, c76, c77, c78, c79, c80, c81, c82, c83, c84, c85, c86, c87, c88, c89, c90, c91, c92, c93, c94, c95, c96, c97, c98, c99, c100, c101, c102, c103, c104, c105, c106, c107, c108, c109, c110, c111], df⟩ L a ∧ Hid (Ext wr wc)) ⟨Inv.start, Lib.hid ((Ext.refl wr).drew)⟩ ?_ ?_
  · refine ⟨?_, ?_, ?_, ?_, ?_, ?_, ?_, ?_, ?_, ?_, ?_, ?_, trivial⟩
    · -- 0 move
      rintro L a wc ⟨hv, HO⟩ hL hc hd
      exact wpOp_val rfl rfl (ex_move rfl ((hv.fixed 12 (by decide)).trans rfl)) ⟨hv.put dec_len_apart 0 rfl (Nat.le_of_ble_eq_true rfl) (Nat.le_of_ble_eq_true rfl) rfl, HO⟩
    · -- 1 move
      rintro L a wc ⟨hv, HO⟩ hL hc hd
      exact wpOp_val rfl rfl (ex_move rfl (hv.get 0 rfl rfl (hd 0 (by decide)))) ⟨hv.put dec_len_apart 1 rfl (Nat.le_of_ble_eq_true rfl) (Nat.le_of_ble_eq_true rfl) rfl, HO⟩
    · -- 2 move
      rintro L a wc ⟨hv, HO⟩ hL hc hd
      exact wpOp_val rfl ((wanted_at rfl rfl (hv.get 1 rfl rfl (hd 1 (by decide)))).trans rfl) (ex_move rfl ((hv.fixed 3 (by decide)).trans rfl)) ⟨hv.put dec_len_apart 2 rfl (Nat.le_of_ble_eq_true rfl) (Nat.le_of_ble_eq_true rfl) rfl, HO⟩
    · -- 3 move
      rintro L a wc ⟨hv, HO⟩ hL hc hd
      exact wpOp_val rfl ((wanted_at rfl rfl (hv.get 1 rfl rfl (hd 1 (by decide)))).trans rfl) (ex_move rfl ((hv.fixed 11 (by decide)).trans rfl)) ⟨hv.put dec_len_apart 3 rfl (Nat.le_of_ble_eq_true rfl) (Nat.le_of_ble_eq_true rfl) rfl, HO⟩
    · -- 4 index
      rintro L a wc ⟨hv, HO⟩ hL hc hd
      have b1 : (0 : Int) ≤ (k : Int) := by omega
      have b2 : (k : Int) < (n : Int) := by omega
      exact wpOp_val rfl ((wanted_at rfl rfl (hv.get 1 rfl rfl (hd 1 (by decide)))).trans rfl) (ex_index rfl (hv.get 2 rfl rfl (hd 2 (by decide))) (hv.get 3 rfl rfl (hd 3 (by decide))) (by go_simp)) ⟨hv.put dec_len_apart 4 rfl (Nat.le_of_ble_eq_true rfl) (Nat.le_of_ble_eq_true rfl) rfl, HO⟩
    · -- 5 load
      rintro L a wc ⟨hv, HO⟩ hL hc hd
      have eP : wc.cell? (bP.add k) = some (.string pk) := HO.out.cell hP.out
      exact wpOp_val rfl ((wanted_at rfl rfl (hv.get 1 rfl rfl (hd 1 (by decide)))).trans rfl) (ex_load rfl (hv.get 4 rfl rfl (hd 4 (by decide))) (by go_simp)) ⟨hv.put dec_len_apart 5 rfl (Nat.le_of_ble_eq_true rfl) (Nat.le_of_ble_eq_true rfl) rfl, HO⟩
    · -- 6 raw
      rintro L a wc ⟨hv, HO⟩ hL hc hd
      exact wpOp_val rfl ((wanted_at rfl rfl (hv.get 1 rfl rfl (hd 1 (by decide)))).trans rfl) (ex_lenS rfl (hv.get 5 rfl rfl (hd 5 (by decide))) (by go_simp)) ⟨hv.put dec_len_apart 6 rfl (Nat.le_of_ble_eq_true rfl) (Nat.le_of_ble_eq_true rfl) rfl, HO⟩
    · -- 7 load
      rintro L a wc ⟨hv, HO⟩ hL hc hd
      have e0 : wc.cell? ⟨B, 0, none⟩ = some (.int .i64 d) := HO.out.cell h0
      have e1 : wc.cell? ⟨B, 1, none⟩ = some (.slice GA gs.length Gc) := HO.out.cell h1
      have e2 : wc.cell? ⟨B, 2, none⟩ = some (.int .i64 gl) := HO.out.cell h2
      exact wpOp_val rfl ((wanted_at rfl rfl (hv.get 1 rfl rfl (hd 1 (by decide)))).trans rfl) (ex_load rfl ((hv.fixed 4 (by decide)).trans rfl) (by go_simp)) ⟨hv.put dec_len_apart 7 rfl (Nat.le_of_ble_eq_true rfl) (Nat.le_of_ble_eq_true rfl) rfl, HO⟩
    · -- 8 move
      rintro L a wc ⟨hv, HO⟩ hL hc hd
      exact wpOp_val rfl ((wanted_at rfl rfl (hv.get 1 rfl rfl (hd 1 (by decide)))).trans rfl) (ex_move rfl ((hv.fixed 1 (by decide)).trans rfl)) ⟨hv.put dec_len_apart 8 rfl (Nat.le_of_ble_eq_true rfl) (Nat.le_of_ble_eq_true rfl) rfl, HO⟩
    · -- 9 call
      rintro L a wc ⟨hv, HO⟩ hL hc hd
      refine wpOp_callw (R := fun v w1 => v = .int .i64 (Cd.sizeOf d gl gs N) ∧ Ext wc w1) rfl ((wanted_at rfl rfl (hv.get 1 rfl rfl (hd 1 (by decide)))).trans rfl) (ex_call rfl rfl (map2c (hv.get 7 rfl rfl (hd 7 (by decide))) (hv.get 8 rfl rfl (hd 8 (by decide)))) (ent7_size _ _)) ((rSize_any d gl N gs (.slice GA gs.length Gc) wc (Rs.ext (Rs.ext RI.ext) _ _ _ _ HO.out HG.out) hgn).mono (fun e w' h => ⟨_, h.1, rfl, h.2⟩)) ?_
      rintro v w' ⟨rfl, hx⟩
      exact ⟨hv.put dec_len_apart 9 rfl (Nat.le_of_ble_eq_true rfl) (Nat.le_of_ble_eq_true rfl) rfl, Lib.hid (HO.out.trans hx)⟩
    · -- 10 bin
      rintro L a wc ⟨hv, HO⟩ hL hc hd
      have h := hbb.out
      exact wpOp_val rfl ((wanted_at rfl rfl (hv.get 1 rfl rfl (hd 1 (by decide)))).trans rfl) (ex_bin rfl (hv.get 6 rfl rfl (hd 6 (by decide))) (hv.get 9 rfl rfl (hd 9 (by decide))) (by go_simp)) ⟨hv.put dec_len_apart 10 rfl (Nat.le_of_ble_eq_true rfl) (Nat.le_of_ble_eq_true rfl) rfl, HO⟩
    · -- 11 pick
      rintro L a wc ⟨hv, HO⟩ hL hc hd
      exact wpOp_val rfl rfl (ex_pick rfl (hv.get 1 rfl rfl (hd 1 (by decide))) ((if_pos rfl).trans (hv.get 10 rfl rfl (hd 10 (by decide))))) ⟨hv.put dec_len_apart 11 rfl (Nat.le_of_ble_eq_true rfl) (Nat.le_of_ble_eq_true rfl) rfl, HO⟩
  · rintro L a wc ⟨hv, HO⟩ hall
    show K a wc
    have ha := act_lit a
    rw [hv.size, hv.defers] at ha
    have hl : ∀ f : Nat → Value, ((List.range (⟨#[c0, .int .i64 N, c2, .slice (some bP) n cp, .pointer (some ⟨B, 0, none⟩), c5, c6, c7, c8, c9, c10, .int .i64 k, .bool true, c13, c14, c15, c16, c17, c18, c19, c20, c21, c22, c23, c24, c25, c26, c27, c28, c29, c30, c31, c32, c33, c34, c35, c36, c37, c38, c39, c40, c41, c42, c43, c44, c45, c46, c47, c48, c49, c50, c51, c52, c53, c54, c55, c56, c57, c58, c59, c60, c61, c62, c63, c64, c65, c66, c67, c68, c69, c70, c71, c72, c73, c74, c75, c76, c77, c78, c79, c80, c81, c82, c83, c84, c85, c86, c87, c88, c89, c90, c91, c92, c93, c94, c95, c96, c97, c98, c99, c100, c101, c102, c103, c104, c105, c106, c107, c108, c109, c110, c111], df⟩ : Act).tmps.size).map f).toArray = #[f 0, f 1, f 2, f 3, f 4, f 5, f 6, f 7, f 8, f 9, f 10, f 11, f 12, f 13, f 14, f 15, f 16, f 17, f 18, f 19, f 20, f 21, f 22, f 23, f 24, f 25, f 26, f 27, f 28, f 29, f 30, f 31, f 32, f 33, f 34, f 35, f 36, f 37, f 38, f 39, f 40, f 41, f 42, f 43, f 44, f 45, f 46, f 47, f 48, f 49, f 50, f 51, f 52, f 53, f 54, f 55, f 56, f 57, f 58, f 59, f 60, f 61, f 62, f 63, f 64, f 65, f 66, f 67, f 68, f 69, f 70, f 71, f 72, f 73, f 74, f 75, f 76, f 77, f 78, f 79, f 80, f 81, f 82, f 83, f 84, f 85, f 86, f 87, f 88, f 89, f 90, f 91, f 92, f 93, f 94, f 95, f 96, f 97, f 98, f 99, f 100, f 101, f 102, f 103, f 104, f 105, f 106, f 107, f 108, f 109, f 110, f 111] := fun _ => rfl
    rw [hl] at ha
    simp only [hv.fixed 0 (by decide), hv.fixed 1 (by decide), hv.fixed 2 (by decide), hv.fixed 3 (by decide), hv.fixed 4 (by decide), hv.fixed 5 (by decide), hv.fixed 6 (by decide), hv.fixed 7 (by decide), hv.fixed 8 (by decide), hv.fixed 9 (by decide), hv.fixed 10 (by decide), hv.fixed 11 (by decide), hv.fixed 12 (by decide), hv.fixed 13 (by decide), hv.fixed 14 (by decide), hv.fixed 15 (by decide), hv.fixed 16 (by decide), hv.fixed 17 (by decide), hv.fixed 18 (by decide), hv.fixed 19 (by decide), hv.fixed 20 (by decide), hv.fixed 21 (by decide), hv.fixed 22 (by decide), hv.fixed 23 (by decide), hv.fixed 24 (by decide), hv.fixed 25 (by decide), hv.fixed 26 (by decide), hv.fixed 27 (by decide), hv.fixed 28 (by decide), hv.fixed 29 (by decide), hv.fixed 30 (by decide), hv.fixed 31 (by decide), hv.fixed 32 (by decide), hv.fixed 33 (by decide), hv.fixed 34 (by decide), hv.fixed 35 (by decide), hv.fixed 36 (by decide), hv.fixed 37 (by decide), hv.fixed 38 (by decide), hv.fixed 39 (by decide), hv.fixed 40 (by decide), hv.fixed 41 (by decide), hv.fixed 42 (by decide), hv.fixed 43 (by decide), hv.fixed 44 (by decide), hv.fixed 45 (by decide), hv.fixed 46 (by decide), hv.fixed 47 (by decide), hv.fixed 48 (by decide), hv.fixed 49 (by decide), hv.fixed 50 (by decide), hv.fixed 51 (by decide), hv.fixed 52 (by decide), hv.fixed 53 (by decide), hv.fixed 66 (by decide), hv.fixed 67 (by decide), hv.fixed 68 (by decide), hv.fixed 69 (by decide), hv.fixed 70 (by decide), hv.fixed 71 (by decide), hv.fixed 72 (by decide), hv.fixed 73 (by decide), hv.fixed 74 (by decide), hv.fixed 75 (by decide), hv.fixed 76 (by decide), hv.fixed 77 (by decide), hv.fixed 78 (by decide), hv.fixed 79 (by decide), hv.fixed 80 (by decide), hv.fixed 81 (by decide), hv.fixed 82 (by decide), hv.fixed 83 (by decide), hv.fixed 84 (by decide), hv.fixed 85 (by decide), hv.fixed 86 (by decide), hv.fixed 87 (by decide), hv.fixed 88 (by decide), hv.fixed 89 (by decide), hv.fixed 90 (by decide), hv.fixed 91 (by decide), hv.fixed 92 (by decide), hv.fixed 93 (by decide), hv.fixed 94 (by decide), hv.fixed 95 (by decide), hv.fixed 96 (by decide), hv.fixed 97 (by decide), hv.fixed 98 (by decide), hv.fixed 99 (by decide), hv.fixed 100 (by decide), hv.fixed 101 (by decide), hv.fixed 102 (by decide), hv.fixed 103 (by decide), hv.fixed 104 (by decide), hv.fixed 105 (by decide), hv.fixed 106 (by decide), hv.fixed 107 (by decide), hv.fixed 108 (by decide), hv.fixed 109 (by decide), hv.fixed 110 (by decide), hv.fixed 111 (by decide), hv.get 11 (d := 65) rfl rfl (hall 11 (by decide))] at ha
    rw [ha]
    exact hK _ _ _ _ _ _ _ _ _ _ _ wc HO.out
noncomputable def dec_data_code : Code := ((Tryd.f21.body.bind (regionOf 16)).getD .skip)
def dec_data_dsts : List (Option Nat) := [some 73, some 74, some 75, some 76, some 77, some 78, some 79, some 14]
theorem dec_data_apart : apartD dec_data_dsts = true := by decide +kernel
set_option maxRecDepth 1000000 in
set_option maxHeartbeats 16000000 in
theorem dec_data (GA PA : Option Addr) (B n cp Gc d gl sz m : Nat) (N : Int) (gs : List (List Int)) (R pieces : List (List UInt8)) (wr : World) (hgn : gs.length ≤ 1000000) (hsz4 : sz ≤ 4096) (hsz : Hid (Cd.sizeOf (d : Int) (gl : Int) gs N = (sz : Int))) (HP : Hid (Rs RS wr (.slice PA n cp) pieces)) (hpl : Hid (pieces.length = n)) (hR : Hid (R.length = n ∧ Cd.rowsOf (d : Int) gs (gl : Int) = R)) (hcan : Hid (Cd.can d gl gs (m : Int) = true)) (hlen : Hid (∀ k, k < n → Cd.bitAt m k = 1 → (pieces.getD k []).length = sz)) (h0 : wr.cell? ⟨B, 0, none⟩ = some (.int .i64 d)) (h1 : wr.cell? ⟨B, 1, none⟩ = some (.slice GA gs.length Gc)) (h2 : wr.cell? ⟨B, 2, none⟩ = some (.int .i64 gl)) (HG : Hid (Rs (Rs RI) wr (.slice GA gs.length Gc) gs)) (c0 c5 c6 c7 c8 c9 c10 c11 c12 c13 c14 c15 c16 c17 c18 c19 c20 c21 c22 c23 c24 c25 c26 c27 c28 c29 c30 c31 c32 c33 c34 c35 c36 c37 c38 c39 c40 c41 c42 c43 c44 c45 c46 c47 c48 c49 c50 c51 c52 c53 c54 c55 c56 c57 c58 c59 c60 c61 c62 c63 c64 c65 c66 c67 c68 c69 c70 c71 c72 c73 c74 c75 c76 c77 c78 c79 c80 c81 c82 c83 c84 c85 c86 c87 c88 c89 c90 c91 c92 c93 c94 c95 c96 c97 c98 c99 c100 c101 c102 c103 c104 c105 c106 c107 c108 c109 c110 c111 : Value) (df : List Deferred) (K : Act → World → Prop)
    (hK : ∀  (u73 u74 u75 u76 u77 u78 u79 : Value) (wx : World), Ext wr wx → K ⟨#[c0, .int .i64 N, .int .i64 m, .slice PA n cp, .pointer (some ⟨B, 0, none⟩), c5, c6, c7, c8, c9, c10, c11, c12, c13, .string (sb (Cd.dataR R d sz m pieces)), c15, c16, c17, c18, c19, c20, c21, c22, c23, c24, c25, c26, c27, c28, c29, c30, c31, c32, c33, c34, c35, c36, c37, c38, c39, c40, c41, c42, c43, c44, c45, c46, c47, c48, c49, c50, c51, c52, c53, c54, c55, c56, c57, c58, c59, c60, c61, c62, c63, c64, c65, c66, c67, c68, c69, c70, c71, c72, u73, u74, u75, u76, u77, u78, u79, c80, c81, c82, c83, c84, c85, c86, c87, c88, c89, c90, c91, c92, c93, c94, c95, c96, c97, c98, c99, c100, c101, c102, c103, c104, c105, c106, c107, c108, c109, c110, c111], df⟩ wx) :
    Code.wp Tryd.prog dec_data_code (AtEnd K) ⟨#[c0, .int .i64 N, .int .i64 m, .slice PA n cp, .pointer (some ⟨B, 0, none⟩), c5, c6, c7, c8, c9, c10, c11, c12, c13, c14, c15, c16, c17, c18, c19, c20, c21, c22, c23, c24, c25, c26, c27, c28, c29, c30, c31, c32, c33, c34, c35, c36, c37, c38, c39, c40, c41, c42, c43, c44, c45, c46, c47, c48, c49, c50, c51, c52, c53, c54, c55, c56, c57, c58, c59, c60, c61, c62, c63, c64, c65, c66, c67, c68, c69, c70, c71, c72, c73, c74, c75, c76, c77, c78, c79, c80, c81, c82, c83, c84, c85, c86, c87, c88, c89, c90, c91, c92, c93, c94, c95, c96, c97, c98, c99, c100, c101, c102, c103, c104, c105, c106, c107, c108, c109, c110, c111], df⟩ wr := by
  conv => arg 2; whnf
  refine region_inv (by kernel_rfl) [[], [], [], [1, 2], [], [], [0, 3, 4, 5, 3], [6, 6, 0, 1, 2, 3, 4, 5, 6]] (by kernel_rfl) [0, 1, 2, 3, 4, 5, 6, 7] (by decide +kernel) (by decide +kernel) (by decide +kernel) (fun L a wc => Inv dec_data_dsts [.agg #[.int .i64 d, .slice GA gs.length Gc, .int .i64 gl], .agg #[.int .i64 d, .slice GA gs.length Gc, .int .i64 gl], .int .i64 N, .int .i64 sz, .int .i64 m, .slice PA n cp, .string (sb (Cd.dataR R d sz m pieces)), .string (sb (Cd.dataR R d sz m pieces))] ⟨#[c0, .int .i64 N, .int .i64 m, .slice PA n cp, .pointer (some ⟨B, 0, none⟩), c5, c6, c7, c8, c9, c10, c11, c12, c13, c14, c15, c16, c17, c18, c19, c20, c21, c22, c23, c24, c25, c26, c27, c28, c29, c30, c31, c32, c33, c34, c35, c36, c37, c38, c39, c40, c41, c42, c43, c44, c45, c46, c47, c48, c49, c50, c51, c52, c53, c54, c55, c56, c57, c58, c59, c60, c61, c62, c63, c64, c65, c66, c67, c68, c69, c70, c71, c72, c73, c74, c75, c76, c77, c78, c79, c80, c81, c82, c83, c84, c85, c86, c87, c88, c89, c90, c91, c92, c93, c94, c95, c96, c97, c98, c99, c100, c101, c102, c103, c104, c105, c106, c107, c108, c109, c110, c111], df⟩ L a ∧ Hid (Ext wr wc)) ⟨Inv.start, Lib.hid ((Ext.refl wr).drew)⟩ ?_ ?_
  · refine ⟨?_, ?_, ?_, ?_, ?_, ?_, ?_, ?_, trivial⟩
    · -- 0 load
      rintro L a wc ⟨hv, HO⟩ hL hc hd
      have e0 : wc.cell? ⟨B, 0, none⟩ = some (.int .i64 d) := HO.out.cell h0
      have e1 : wc.cell? ⟨B, 1, none⟩ = some (.slice GA gs.length Gc) := HO.out.cell h1
      have e2 : wc.cell? ⟨B, 2, none⟩ = some (.int .i64 gl) := HO.out.cell h2
      exact wpOp_val rfl rfl (ex_load rfl ((hv.fixed 4 (by decide)).trans rfl) (by go_simp)) ⟨hv.put dec_data_apart 0 rfl (Nat.le_of_ble_eq_true rfl) (Nat.le_of_ble_eq_true rfl) rfl, HO⟩
    · -- 1 load
      rintro L a wc ⟨hv, HO⟩ hL hc hd
      have e0 : wc.cell? ⟨B, 0, none⟩ = some (.int .i64 d) := HO.out.cell h0
      have e1 : wc.cell? ⟨B, 1, none⟩ = some (.slice GA gs.length Gc) := HO.out.cell h1
      have e2 : wc.cell? ⟨B, 2, none⟩ = some (.int .i64 gl) := HO.out.cell h2
      exact wpOp_val rfl rfl (ex_load rfl ((hv.fixed 4 (by decide)).trans rfl) (by go_simp)) ⟨hv.put dec_data_apart 1 rfl (Nat.le_of_ble_eq_true rfl) (Nat.le_of_ble_eq_true rfl) rfl, HO⟩
    · -- 2 move
      rintro L a wc ⟨hv, HO⟩ hL hc hd
      exact wpOp_val rfl rfl (ex_move rfl ((hv.fixed 1 (by decide)).trans rfl)) ⟨hv.put dec_data_apart 2 rfl (Nat.le_of_ble_eq_true rfl) (Nat.le_of_ble_eq_true rfl) rfl, HO⟩
    · -- 3 call
      rintro L a wc ⟨hv, HO⟩ hL hc hd
      refine wpOp_call (R := fun v w1 => v = .int .i64 sz ∧ Ext wc w1) rfl rfl (ex_call rfl rfl (map2c (hv.get 1 rfl rfl (hd 1 (by decide))) (hv.get 2 rfl rfl (hd 2 (by decide)))) (ent7_size _ _)) ((rSize_any d gl N gs (.slice GA gs.length Gc) wc (Rs.ext (Rs.ext RI.ext) _ _ _ _ HO.out HG.out) hgn).mono (fun e w' h => ⟨_, h.1, by rw [hsz.out], h.2⟩)) ?_
      rintro v w' ⟨rfl, hx⟩
      exact ⟨hv.put dec_data_apart 3 rfl (Nat.le_of_ble_eq_true rfl) (Nat.le_of_ble_eq_true rfl) rfl, Lib.hid (HO.out.trans hx)⟩
    · -- 4 move
      rintro L a wc ⟨hv, HO⟩ hL hc hd
      exact wpOp_val rfl rfl (ex_move rfl ((hv.fixed 2 (by decide)).trans rfl)) ⟨hv.put dec_data_apart 4 rfl (Nat.le_of_ble_eq_true rfl) (Nat.le_of_ble_eq_true rfl) rfl, HO⟩
    · -- 5 move
      rintro L a wc ⟨hv, HO⟩ hL hc hd
      exact wpOp_val rfl rfl (ex_move rfl ((hv.fixed 3 (by decide)).trans rfl)) ⟨hv.put dec_data_apart 5 rfl (Nat.le_of_ble_eq_true rfl) (Nat.le_of_ble_eq_true rfl) rfl, HO⟩
    · -- 6 call
      rintro L a wc ⟨hv, HO⟩ hL hc hd
      refine wpOp_call (R := fun v w1 => v = .string (sb (Cd.dataR R d sz m pieces)) ∧ Ext wc w1) rfl rfl (ex_call rfl rfl (map4c (hv.get 0 rfl rfl (hd 0 (by decide))) (hv.get 3 rfl rfl (hd 3 (by decide))) (hv.get 4 rfl rfl (hd 4 (by decide))) (hv.get 5 rfl rfl (hd 5 (by decide)))) (ent7_data _ _)) ((rData_ok d gl sz m n n cp gs pieces (.slice GA gs.length Gc) PA wc (Rs.ext (Rs.ext RI.ext) _ _ _ _ HO.out HG.out) (Rs.ext RS.ext _ _ _ _ HO.out HP.out) hpl.out (by rw [hR.out.2]; exact hR.out.1) rfl hcan.out hlen.out hsz4).mono (fun e w' h => ⟨_, h.1, by rw [hR.out.2], h.2⟩)) ?_
      rintro v w' ⟨rfl, hx⟩
      exact ⟨hv.put dec_data_apart 6 rfl (Nat.le_of_ble_eq_true rfl) (Nat.le_of_ble_eq_true rfl) rfl, Lib.hid (HO.out.trans hx)⟩
    · -- 7 assign
      rintro L a wc ⟨hv, HO⟩ hL hc hd
      exact wpOp_val rfl rfl (ex_assign rfl (hv.get 6 rfl rfl (hd 6 (by decide)))) ⟨hv.put dec_data_apart 7 rfl (Nat.le_of_ble_eq_true rfl) (Nat.le_of_ble_eq_true rfl) rfl, HO⟩
  · rintro L a wc ⟨hv, HO⟩ hall
    show K a wc
    have ha := act_lit a
    rw [hv.size, hv.defers] at ha
    have hl : ∀ f : Nat → Value, ((List.range (⟨#[c0, .int .i64 N, .int .i64 m, .slice PA n cp, .pointer (some ⟨B, 0, none⟩), c5, c6, c7, c8, c9, c10, c11, c12, c13, c14, c15, c16, c17, c18, c19, c20, c21, c22, c23, c24, c25, c26, c27, c28, c29, c30, c31, c32, c33, c34, c35, c36, c37, c38, c39, c40, c41, c42, c43, c44, c45, c46, c47, c48, c49, c50, c51, c52, c53, c54, c55, c56, c57, c58, c59, c60, c61, c62, c63, c64, c65, c66, c67, c68, c69, c70, c71, c72, c73, c74, c75, c76, c77, c78, c79, c80, c81, c82, c83, c84, c85, c86, c87, c88, c89, c90, c91, c92, c93, c94, c95, c96, c97, c98, c99, c100, c101, c102, c103, c104, c105, c106, c107, c108, c109, c110, c111], df⟩ : Act).tmps.size).map f).toArray = #[f 0, f 1, f 2, f 3, f 4, f 5, f 6, f 7, f 8, f 9, f 10, f 11, f 12, f 13, f 14, f 15, f 16, f 17, f 18, f 19, f 20, f 21, f 22, f 23, f 24, f 25, f 26, f 27, f 28, f 29, f 30, f 31, f 32, f 33, f 34, f 35, f 36, f 37, f 38, f 39, f 40, f 41, f 42, f 43, f 44, f 45, f 46, f 47, f 48, f 49, f 50, f 51, f 52, f 53, f 54, f 55, f 56, f 57, f 58, f 59, f 60, f 61, f 62, f 63, f 64, f 65, f 66, f 67, f 68, f 69, f 70, f 71, f 72, f 73, f 74, f 75, f 76, f 77, f 78, f 79, f 80, f 81, f 82, f 83, f 84, f 85, f 86, f 87, f 88, f 89, f 90, f 91, f 92, f 93, f 94, f 95, f 96, f 97, f 98, f 99, f 100, f 101, f 102, f 103, f 104, f 105, f 106, f 107, f 108, f 109, f 110, f 111] := fun _ => rfl
    rw [hl] at ha
    simp only [hv.fixed 0 (by decide), hv.fixed 1 (by decide), hv.fixed 2 (by decide), hv.fixed 3 (by decide), hv.fixed 4 (by decide), hv.fixed 5 (by decide), hv.fixed 6 (by decide), hv.fixed 7 (by decide), hv.fixed 8 (by decide), hv.fixed 9 (by decide), hv.fixed 10 (by decide), hv.fixed 11 (by decide), hv.fixed 12 (by decide), hv.fixed 13 (by decide), hv.fixed 15 (by decide), hv.fixed 16 (by decide), hv.fixed 17 (by decide), hv.fixed 18 (by decide), hv.fixed 19 (by decide), hv.fixed 20 (by decide), hv.fixed 21 (by decide), hv.fixed 22 (by decide), hv.fixed 23 (by decide), hv.fixed 24 (by decide), hv.fixed 25 (by decide), hv.fixed 26 (by decide), hv.fixed 27 (by decide), hv.fixed 28 (by decide), hv.fixed 29 (by decide), hv.fixed 30 (by decide), hv.fixed 31 (by decide), hv.fixed 32 (by decide), hv.fixed 33 (by decide), hv.fixed 34 (by decide), hv.fixed 35 (by decide), hv.fixed 36 (by decide), hv.fixed 37 (by decide), hv.fixed 38 (by decide), hv.fixed 39 (by decide), hv.fixed 40 (by decide), hv.fixed 41 (by decide), hv.fixed 42 (by decide), hv.fixed 43 (by decide), hv.fixed 44 (by decide), hv.fixed 45 (by decide), hv.fixed 46 (by decide), hv.fixed 47 (by decide), hv.fixed 48 (by decide), hv.fixed 49 (by decide), hv.fixed 50 (by decide), hv.fixed 51 (by decide), hv.fixed 52 (by decide), hv.fixed 53 (by decide), hv.fixed 54 (by decide), hv.fixed 55 (by decide), hv.fixed 56 (by decide), hv.fixed 57 (by decide), hv.fixed 58 (by decide), hv.fixed 59 (by decide), hv.fixed 60 (by decide), hv.fixed 61 (by decide), hv.fixed 62 (by decide), hv.fixed 63 (by decide), hv.fixed 64 (by decide), hv.fixed 65 (by decide), hv.fixed 66 (by decide), hv.fixed 67 (by decide), hv.fixed 68 (by decide), hv.fixed 69 (by decide), hv.fixed 70 (by decide), hv.fixed 71 (by decide), hv.fixed 72 (by decide), hv.fixed 80 (by decide), hv.fixed 81 (by decide), hv.fixed 82 (by decide), hv.fixed 83 (by decide), hv.fixed 84 (by decide), hv.fixed 85 (by decide), hv.fixed 86 (by decide), hv.fixed 87 (by decide), hv.fixed 88 (by decide), hv.fixed 89 (by decide), hv.fixed 90 (by decide), hv.fixed 91 (by decide), hv.fixed 92 (by decide), hv.fixed 93 (by decide), hv.fixed 94 (by decide), hv.fixed 95 (by decide), hv.fixed 96 (by decide), hv.fixed 97 (by decide), hv.fixed 98 (by decide), hv.fixed 99 (by decide), hv.fixed 100 (by decide), hv.fixed 101 (by decide), hv.fixed 102 (by decide), hv.fixed 103 (by decide), hv.fixed 104 (by decide), hv.fixed 105 (by decide), hv.fixed 106 (by decide), hv.fixed 107 (by decide), hv.fixed 108 (by decide), hv.fixed 109 (by decide), hv.fixed 110 (by decide), hv.fixed 111 (by decide), hv.get 7 (d := 14) rfl rfl (hall 7 (by decide))] at ha
    rw [ha]
    exact hK _ _ _ _ _ _ _ wc HO.out
noncomputable def dec_enc_code : Code := ((Tryd.f21.body.bind (regionOf 17)).getD .skip)
def dec_enc_dsts : List (Option Nat) := [some 80, some 81, some 82, some 83, some 84, some 15, none]
theorem dec_enc_apart : apartD dec_enc_dsts = true := by decide +kernel
set_option maxRecDepth 1000000 in
set_option maxHeartbeats 16000000 in
theorem dec_enc (GA : Option Addr) (B Gc : Nat) (d gl N E : Int) (gs : List (List Int)) (ds xs : List UInt8) (l : List (List UInt8)) (r0 : LRow) (w wr : World) (hgn : gs.length ≤ 1000000) (hxl : xs.length ≤ 9223372036854775807) (hE : Hid (Cd.encE d gl gs xs = E ∧ Cd.encL d gl gs xs = l)) (hsl : Hid (∀ w2 : World, (Instr.sliceAt 9 (.string (sb ds)) none (some (.int .i64 N)) none).run Tryd.prog w2 = .ok (.string (sb xs)) w2)) (h0 : w.cell? ⟨B, 0, none⟩ = some (.int .i64 d)) (h1 : w.cell? ⟨B, 1, none⟩ = some (.slice GA gs.length Gc)) (h2 : w.cell? ⟨B, 2, none⟩ = some (.int .i64 gl)) (HG : Hid (Rs (Rs RI) w (.slice GA gs.length Gc) gs)) (HOO : Hid (Owns w wr.drew [r0, no])) (c0 c2 c3 c5 c6 c7 c8 c9 c10 c11 c12 c13 c15 c16 c17 c18 c19 c20 c21 c22 c23 c24 c25 c26 c27 c28 c29 c30 c31 c32 c33 c34 c35 c36 c37 c38 c39 c40 c41 c42 c43 c44 c45 c46 c47 c48 c49 c50 c51 c52 c53 c54 c55 c56 c57 c58 c59 c60 c61 c62 c63 c64 c65 c66 c67 c68 c69 c70 c71 c72 c73 c74 c75 c76 c77 c78 c79 c80 c81 c82 c83 c84 c85 c86 c87 c88 c89 c90 c91 c92 c93 c94 c95 c96 c97 c98 c99 c100 c101 c102 c103 c104 c105 c106 c107 c108 c109 c110 c111 : Value) (df : List Deferred) (K : Act → World → Prop)
    (hK : ∀ (V : Value) (gA : Nat) (u80 u81 u82 u83 u84 : Value) (wx : World), Owns w wx [r0, listedRow gA V (.int .i64 E)] ∧ Rs RS wx V l → K ⟨#[c0, .int .i64 N, c2, c3, .pointer (some ⟨B, 0, none⟩), c5, c6, c7, c8, c9, c10, c11, c12, c13, .string (sb ds), .pointer (some ⟨gA, 0, none⟩), c16, c17, c18, c19, c20, c21, c22, c23, c24, c25, c26, c27, c28, c29, c30, c31, c32, c33, c34, c35, c36, c37, c38, c39, c40, c41, c42, c43, c44, c45, c46, c47, c48, c49, c50, c51, c52, c53, c54, c55, c56, c57, c58, c59, c60, c61, c62, c63, c64, c65, c66, c67, c68, c69, c70, c71, c72, c73, c74, c75, c76, c77, c78, c79, u80, u81, u82, u83, u84, c85, c86, c87, c88, c89, c90, c91, c92, c93, c94, c95, c96, c97, c98, c99, c100, c101, c102, c103, c104, c105, c106, c107, c108, c109, c110, c111], df⟩ wx) :
    Code.wp Tryd.prog dec_enc_code (AtEnd K) ⟨#[c0, .int .i64 N, c2, c3, .pointer (some ⟨B, 0, none⟩), c5, c6, c7, c8, c9, c10, c11, c12, c13, .string (sb ds), c15, c16, c17, c18, c19, c20, c21, c22, c23, c24, c25, c26, c27, c28, c29, c30, c31, c32, c33, c34, c35, c36, c37, c38, c39, c40, c41, c42, c43, c44, c45, c46, c47, c48, c49, c50, c51, c52, c53, c54, c55, c56, c57, c58, c59, c60, c61, c62, c63, c64, c65, c66, c67, c68, c69, c70, c71, c72, c73, c74, c75, c76, c77, c78, c79, c80, c81, c82, c83, c84, c85, c86, c87, c88, c89, c90, c91, c92, c93, c94, c95, c96, c97, c98, c99, c100, c101, c102, c103, c104, c105, c106, c107, c108, c109, c110, c111], df⟩ wr := by
  conv => arg 2; whnf
  refine region_inv (by kernel_rfl) [[], [], [], [1, 2], [0, 3], [], [5, 4, 4, 0, 1, 2, 3, 4, 5]] (by kernel_rfl) [0, 1, 2, 3, 4, 5, 6] (by decide +kernel) (by decide +kernel) (by decide +kernel) (fun L a wc => ∃ (V : Value) (gA : Nat), Inv dec_enc_dsts [.agg #[.int .i64 d, .slice GA gs.length Gc, .int .i64 gl], .string (sb ds), .int .i64 N, .string (sb xs), .agg #[V, .int .i64 E], .pointer (some ⟨gA, 0, none⟩), undef] ⟨#[c0, .int .i64 N, c2, c3, .pointer (some ⟨B, 0, none⟩), c5, c6, c7, c8, c9, c10, c11, c12, c13, .string (sb ds), c15, c16, c17, c18, c19, c20, c21, c22, c23, c24, c25, c26, c27, c28, c29, c30, c31, c32, c33, c34, c35, c36, c37, c38, c39, c40, c41, c42, c43, c44, c45, c46, c47, c48, c49, c50, c51, c52, c53, c54, c55, c56, c57, c58, c59, c60, c61, c62, c63, c64, c65, c66, c67, c68, c69, c70, c71, c72, c73, c74, c75, c76, c77, c78, c79, c80, c81, c82, c83, c84, c85, c86, c87, c88, c89, c90, c91, c92, c93, c94, c95, c96, c97, c98, c99, c100, c101, c102, c103, c104, c105, c106, c107, c108, c109, c110, c111], df⟩ L a ∧ Hid (Owns w wc [r0, (if L 5 = true then (if L 6 = true then listedRow gA V (.int .i64 E) else listedRow gA (.slice none 0 0) (.int .i64 0)) else no)] ∧ (L 4 = true → Rs RS wc V l))) ⟨undef, 0, Inv.start, Lib.hid (And.intro HOO.out fun h => by cases h)⟩ ?_ ?_
  · refine ⟨?_, ?_, ?_, ?_, ?_, ?_, ?_, trivial⟩
    · -- 0 load
      rintro L a wc ⟨V, gA, hv, HO⟩ hL hc hd
      have e0 : wc.cell? ⟨B, 0, none⟩ = some (.int .i64 d) := HO.out.1.ext.cell h0
      have e1 : wc.cell? ⟨B, 1, none⟩ = some (.slice GA gs.length Gc) := HO.out.1.ext.cell h1
      have e2 : wc.cell? ⟨B, 2, none⟩ = some (.int .i64 gl) := HO.out.1.ext.cell h2
      exact wpOp_val rfl rfl (ex_load rfl ((hv.fixed 4 (by decide)).trans rfl) (by go_simp)) ⟨V, gA, hv.put dec_enc_apart 0 rfl (Nat.le_of_ble_eq_true rfl) (Nat.le_of_ble_eq_true rfl) rfl, HO⟩
    · -- 1 move
      rintro L a wc ⟨V, gA, hv, HO⟩ hL hc hd
      exact wpOp_val rfl rfl (ex_move rfl ((hv.fixed 14 (by decide)).trans rfl)) ⟨V, gA, hv.put dec_enc_apart 1 rfl (Nat.le_of_ble_eq_true rfl) (Nat.le_of_ble_eq_true rfl) rfl, HO⟩
    · -- 2 move
      rintro L a wc ⟨V, gA, hv, HO⟩ hL hc hd
      exact wpOp_val rfl rfl (ex_move rfl ((hv.fixed 1 (by decide)).trans rfl)) ⟨V, gA, hv.put dec_enc_apart 2 rfl (Nat.le_of_ble_eq_true rfl) (Nat.le_of_ble_eq_true rfl) rfl, HO⟩
    · -- 3 raw
      rintro L a wc ⟨V, gA, hv, HO⟩ hL hc hd
      exact wpOp_val rfl rfl (ex_slice rfl (by rw [show (Option.map a.eval (some (Operand.tmp 82))) = some (a.eval (.tmp 82)) from rfl, hv.get 1 rfl rfl (hd 1 (by decide)), hv.get 2 rfl rfl (hd 2 (by decide))]; exact hsl.out wc)) ⟨V, gA, hv.put dec_enc_apart 3 rfl (Nat.le_of_ble_eq_true rfl) (Nat.le_of_ble_eq_true rfl) rfl, HO⟩
    · -- 4 call
      rintro L a wc ⟨V, gA, hv, HO⟩ hL hc hd
      refine wpOp_call (R := fun v w1 => ∃ V2, v = .agg #[V2, .int .i64 E] ∧ Rs RS w1 V2 l ∧ Ext wc w1) rfl rfl (ex_call rfl rfl (map2c (hv.get 0 rfl rfl (hd 0 (by decide))) (hv.get 3 rfl rfl (hd 3 (by decide)))) (ent7_enc _ _)) ((rEncode_any d gl gs xs (.slice GA gs.length Gc) wc (Rs.ext (Rs.ext RI.ext) _ _ _ _ HO.out.1.ext HG.out) hxl hgn).mono (fun e w' ⟨V2, h1, h2, h3⟩ => ⟨_, h1, V2, by rw [hE.out.1], by rw [← hE.out.2]; exact h2, h3⟩)) ?_
      rintro v w' ⟨V2, rfl, hv2, hx⟩
      have n6 : L 6 = false := Bool.eq_false_iff.2 fun h => Bool.false_ne_true (hL.symm.trans (hc 6 h 4 (by decide)))
      have h := HO.out.1.next hx
      simp only [n6, Bool.false_eq_true, if_false] at h
      have h2 : Owns w w' [r0, (if L 5 = true then (if L 6 = true then listedRow gA V2 (.int .i64 E) else listedRow gA (.slice none 0 0) (.int .i64 0)) else no)] := by simp only [n6, Bool.false_eq_true, if_false]; exact h
      exact ⟨V2, gA, hv.put dec_enc_apart 4 rfl (Nat.le_of_ble_eq_true rfl) (Nat.le_of_ble_eq_true rfl) rfl, Lib.hid (And.intro h2 fun _ => hv2)⟩
    · -- 5 lines
      rintro L a wc ⟨V, gA, hv, HO⟩ hL hc hd
      have n6 : L 6 = false := Bool.eq_false_iff.2 fun h => Bool.false_ne_true (hL.symm.trans (hc 6 h 5 (by decide)))
      have h := HO.out.1
      simp only [hL, n6, Bool.false_eq_true, if_false] at h
      have h2 := h.new 1 #[.slice none 0 0, .int .i64 0] 36 (by simp [maxLen])
      have hA : (Instr.alloc 36 true (.tuple #[])).run Tryd.prog wc = .ok (.pointer (some ⟨wc.heap.size, 0, none⟩)) (wc.alloc (.cells #[.slice none 0 0, .int .i64 0] 36)) := by go_simp
      have h3 : Owns w (wc.alloc (.cells #[.slice none 0 0, .int .i64 0] 36)) [r0, (if true = true then (if L 6 = true then listedRow wc.heap.size V (.int .i64 E) else listedRow wc.heap.size (.slice none 0 0) (.int .i64 0)) else no)] := by simp only [n6, Bool.false_eq_true, if_false, if_true]; exact h2
      exact wpOp_value rfl rfl (ex_alloc rfl hA) ⟨V, wc.heap.size, hv.put dec_enc_apart 5 rfl (Nat.le_of_ble_eq_true rfl) (Nat.le_of_ble_eq_true rfl) rfl, Lib.hid (And.intro h3 fun h4 => Rs.ext RS.ext _ _ _ _ ((Ext.refl wc).alloc _) (HO.out.2 h4))⟩
    · -- 6 store
      rintro L a wc ⟨V, gA, hv, HO⟩ hL hc hd
      obtain ⟨VA, vc, hVf, _⟩ := (HO.out.2 (hd 4 (by decide))).form
      have h5 : L 5 = true := hd 5 (by decide)
      have h4 : L 4 = true := hd 4 (by decide)
      have h := HO.out.1
      simp only [hL, h5, Bool.false_eq_true, if_false, if_true] at h
      have eA : wc.cell? ⟨gA, 0, none⟩ = some (.slice none 0 0) := h.cell 1 rfl 0 rfl
      have eB : wc.cell? ⟨gA, 1, none⟩ = some (.int .i64 0) := h.cell 1 rfl 1 rfl
      have fA : wc.frozen? ⟨gA, 0, none⟩ = false := h.frozen 1 rfl 0
      have fB : wc.frozen? ⟨gA, 1, none⟩ = false := h.frozen 1 rfl 1
      have hS := (h.store 1 rfl 0 V).store 1 rfl 1 (.int .i64 E)
      have hS2 : Owns w ((wc.setCell ⟨gA, 0, none⟩ V).setCell ⟨gA, 1, none⟩ (.int .i64 E)) [r0, (if L 5 = true then (if true = true then listedRow gA V (.int .i64 E) else listedRow gA (.slice none 0 0) (.int .i64 0)) else no)] := by simp only [h5, if_true]; exact hS
      have hV : Rs RS ((wc.setCell ⟨gA, 0, none⟩ V).setCell ⟨gA, 1, none⟩ (.int .i64 E)) V l := rs_keep (rs_keep (HO.out.2 h4) eA (fun x => by simp)) (by rw [World.cell?_setCell_other _ _ _ _ (by simp)]; exact eB) (fun x => by simp)
      exact wpOp_skip rfl rfl rfl (ex_store rfl (hv.get 5 rfl rfl (hd 5 (by decide))) (hv.get 4 rfl rfl (hd 4 (by decide))) (by rw [hVf]; go_simp)) ⟨V, gA, hv.skip 6 rfl, Lib.hid (And.intro hS2 fun _ => hV)⟩
  · rintro L a wc ⟨V, gA, hv, HO⟩ hall
    show K a wc
    have ha := act_lit a
    rw [hv.size, hv.defers] at ha
    have hl : ∀ f : Nat → Value, ((List.range (⟨#[c0, .int .i64 N, c2, c3, .pointer (some ⟨B, 0, none⟩), c5, c6, c7, c8, c9, c10, c11, c12, c13, .string (sb ds), c15, c16, c17, c18, c19, c20, c21, c22, c23, c24, c25, c26, c27, c28, c29, c30, c31, c32, c33, c34, c35, c36, c37, c38, c39, c40, c41, c42, c43, c44, c45, c46, c47, c48, c49, c50, c51, c52, c53, c54, c55, c56, c57, c58, c59, c60, c61, c62, c63, c64, c65, c66, c67, c68, c69, c70, c71, c72, c73, c74, c75, c76, c77, c78, c79, c80, c81, c82, c83, c84, c85, c86, c87, c88, c89, c90, c91, c92, c93, c94, c95, c96, c97, c98, c99, c100, c101, c102, c103, c104, c105, c106, c107, c108, c109, c110, c111], df⟩ : Act).tmps.size).map f).toArray = #[f 0, f 1, f 2, f 3, f 4, f 5, f 6, f 7, f 8, f 9, f 10, f 11, f 12, f 13, f 14, f 15, f 16, f 17, f 18, f 19, f 20, f 21, f 22, f 23, f 24, f 25, f 26, f 27, f 28, f 29, f 30, f 31, f 32, f 33, f 34, f 35, f 36, f 37, f 38, f 39, f 40, f 41, f 42, f 43, f 44, f 45, f 46, f 47, f 48, f 49, f 50, f 51, f 52, f 53, f 54, f 55, f 56, f 57, f 58, f 59, f 60, f 61, f 62, f 63, f 64, f 65, f 66, f 67, f 68, f 69, f 70, f 71, f 72, f 73, f 74, f 75, f 76, f 77, f 78, f 79, f 80, f 81, f 82, f 83, f 84, f 85, f 86, f 87, f 88, f 89, f 90, f 91, f 92, f 93, f 94, f 95, f 96, f 97, f 98, f 99, f 100, f 101, f 102, f 103, f 104, f 105, f 106, f 107, f 108, f 109, f 110, f 111] := fun _ => rfl
    rw [hl] at ha
    simp only [hv.fixed 0 (by decide), hv.fixed 1 (by decide), hv.fixed 2 (by decide), hv.fixed 3 (by decide), hv.fixed 4 (by decide), hv.fixed 5 (by decide), hv.fixed 6 (by decide), hv.fixed 7 (by decide), hv.fixed 8 (by decide), hv.fixed 9 (by decide), hv.fixed 10 (by decide), hv.fixed 11 (by decide), hv.fixed 12 (by decide), hv.fixed 13 (by decide), hv.fixed 14 (by decide), hv.fixed 16 (by decide), hv.fixed 17 (by decide), hv.fixed 18 (by decide), hv.fixed 19 (by decide), hv.fixed 20 (by decide), hv.fixed 21 (by decide), hv.fixed 22 (by decide), hv.fixed 23 (by decide), hv.fixed 24 (by decide), hv.fixed 25 (by decide), hv.fixed 26 (by decide), hv.fixed 27 (by decide), hv.fixed 28 (by decide), hv.fixed 29 (by decide), hv.fixed 30 (by decide), hv.fixed 31 (by decide), hv.fixed 32 (by decide), hv.fixed 33 (by decide), hv.fixed 34 (by decide), hv.fixed 35 (by decide), hv.fixed 36 (by decide), hv.fixed 37 (by decide), hv.fixed 38 (by decide), hv.fixed 39 (by decide), hv.fixed 40 (by decide), hv.fixed 41 (by decide), hv.fixed 42 (by decide), hv.fixed 43 (by decide), hv.fixed 44 (by decide), hv.fixed 45 (by decide), hv.fixed 46 (by decide), hv.fixed 47 (by decide), hv.fixed 48 (by decide), hv.fixed 49 (by decide), hv.fixed 50 (by decide), hv.fixed 51 (by decide), hv.fixed 52 (by decide), hv.fixed 53 (by decide), hv.fixed 54 (by decide), hv.fixed 55 (by decide), hv.fixed 56 (by decide), hv.fixed 57 (by decide), hv.fixed 58 (by decide), hv.fixed 59 (by decide), hv.fixed 60 (by decide), hv.fixed 61 (by decide), hv.fixed 62 (by decide), hv.fixed 63 (by decide), hv.fixed 64 (by decide), hv.fixed 65 (by decide), hv.fixed 66 (by decide), hv.fixed 67 (by decide), hv.fixed 68 (by decide), hv.fixed 69 (by decide), hv.fixed 70 (by decide), hv.fixed 71 (by decide), hv.fixed 72 (by decide), hv.fixed 73 (by decide), hv.fixed 74 (by decide), hv.fixed 75 (by decide), hv.fixed 76 (by decide), hv.fixed 77 (by decide), hv.fixed 78 (by decide), hv.fixed 79 (by decide), hv.fixed 85 (by decide), hv.fixed 86 (by decide), hv.fixed 87 (by decide), hv.fixed 88 (by decide), hv.fixed 89 (by decide), hv.fixed 90 (by decide), hv.fixed 91 (by decide), hv.fixed 92 (by decide), hv.fixed 93 (by decide), hv.fixed 94 (by decide), hv.fixed 95 (by decide), hv.fixed 96 (by decide), hv.fixed 97 (by decide), hv.fixed 98 (by decide), hv.fixed 99 (by decide), hv.fixed 100 (by decide), hv.fixed 101 (by decide), hv.fixed 102 (by decide), hv.fixed 103 (by decide), hv.fixed 104 (by decide), hv.fixed 105 (by decide), hv.fixed 106 (by decide), hv.fixed 107 (by decide), hv.fixed 108 (by decide), hv.fixed 109 (by decide), hv.fixed 110 (by decide), hv.fixed 111 (by decide), hv.get 5 (d := 15) rfl rfl (hall 5 (by decide))] at ha
    rw [ha]
    have hO := HO.out.1
    simp only [hall 5 (by decide), hall 6 (by decide), if_true] at hO
    exact hK V gA _ _ _ _ _ wc ⟨hO, HO.out.2 (hall 4 (by decide))⟩
theorem rDecode_no (d gl n m : Int) (gs : List (List Int)) (G : Value) (V : Value) (w : World) (hG : Rs (Rs RI) w G gs) (h0 : Cd.check d gs gl ≠ 0) (hgn : gs.length ≤ 1000000) :
    Calls Tryd.prog 21 #[.agg #[.int .i64 d, G, .int .i64 gl], .int .i64 n, .int .i64 m, V] w fun e w' => e = .returned (.agg #[.string (sb []), .int .i64 (Cd.check d gs gl)]) ∧ Ext w w' := by
  have hx0 := (Ext.refl w).alloc (.cells #[.int .i64 d, G, .int .i64 gl] 24)
  have HX := Lib.hid (And.intro hx0 (Rs.ext (Rs.ext RI.ext) _ _ _ _ hx0 hG))
  obtain ⟨GA, Gc, rfl, _⟩ := hG.form
  have hst := (Owns.start (w.alloc (.cells #[.int .i64 d, .slice GA gs.length Gc, .int .i64 gl] 24)) (L := [no]) (by intro r hr; simp [no] at hr; subst hr; simp)).new 0 #[.string { data := #[] }, .int .i64 0] 48 (by simp [maxLen])
  have hst2 : Owns (w.alloc (.cells #[.int .i64 d, .slice GA gs.length Gc, .int .i64 gl] 24)) ((w.alloc (.cells #[.int .i64 d, .slice GA gs.length Gc, .int .i64 gl] 24)).alloc (.cells #[.string { data := #[] }, .int .i64 0] 48)) [decodedRow (w.heap.size + 1) (.string { data := #[] }) (.int .i64 0)] := by simpa [decodedRow] using hst
  have HST := Lib.hid hst2
  have e1 : (Cd.check d gs gl != 0) = true := by rw [bne_iff_ne]; exact h0
  clear hG hx0 h0 hst hst2
  go_enter Tryd.func21, Tryd.ntmps21
  go_wp2_with fail
  refine (rCheck_any d gl gs _ _ (Rs.ext (Rs.ext RI.ext) _ _ _ _ ((Ext.refl _).alloc _) HX.out.2) hgn).mono ?_
  rintro e w1 ⟨rfl, hx1⟩
  have HO := Lib.hid (HST.out.next hx1)
  clear hx1
  have hc3 : w1.cell? ⟨w.heap.size + 1, 0, none⟩ = some (.string { data := #[] }) := HO.out.cell 0 rfl 0 rfl
  have hc4 : w1.cell? ⟨w.heap.size + 1, 1, none⟩ = some (.int .i64 0) := HO.out.cell 0 rfl 1 rfl
  have hf3 : w1.frozen? ⟨w.heap.size + 1, 0, none⟩ = false := HO.out.frozen 0 rfl 0
  have hf4 : w1.frozen? ⟨w.heap.size + 1, 1, none⟩ = false := HO.out.frozen 0 rfl 1
  go_wp2_with fail
  have hO7 := (HO.out.store 0 rfl 0 (.string { data := #[] })).store 0 rfl 1 (.int .i64 (Cd.check d gs gl))
  exact bodyPost_ret (v := .agg #[.string { data := #[] }, .int .i64 (Cd.check d gs gl)]) (by simp [results, Tryd.results21, go_sem, hc3, hc4]) rfl ⟨rfl, HX.out.1.trans hO7.ext⟩
theorem code_cells2 {w w2 : World} {d gl : Int} {n c : Nat} {A : Option Addr} (hx : Ext (w.alloc (.cells #[.int .i64 d, .slice A n c, .int .i64 gl] 24)) w2) :
    w2.cell? ⟨w.heap.size, 0, none⟩ = some (.int .i64 d) ∧ w2.cell? ⟨w.heap.size, 1, none⟩ = some (.slice A n c) ∧ w2.cell? ⟨w.heap.size, 2, none⟩ = some (.int .i64 gl) := ⟨hx.cell (by go_simp), hx.cell (by go_simp), hx.cell (by go_simp)⟩
set_option maxHeartbeats 4000000 in
theorem rDecode_arg (d gl n m : Int) (gs : List (List Int)) (pieces : List (List UInt8)) (G : Value) (PA : Option Addr) (pl cp : Nat) (w : World) (hG : Rs (Rs RI) w G gs) (h0 : Cd.check d gs gl = 0) (hgn : gs.length ≤ 1000000) (hpl : pieces.length = pl) (hb : Cd.badArgs d gl gs n m pieces = true) :
    Calls Tryd.prog 21 #[.agg #[.int .i64 d, G, .int .i64 gl], .int .i64 n, .int .i64 m, .slice PA pl cp] w fun e w' => e = .returned (.agg #[.string (sb []), .int .i64 1]) ∧ Ext w w' := by
  have hx0 := (Ext.refl w).alloc (.cells #[.int .i64 d, G, .int .i64 gl] 24)
  have HX := Lib.hid (And.intro hx0 (Rs.ext (Rs.ext RI.ext) _ _ _ _ hx0 hG))
  obtain ⟨GA, Gc, rfl, _⟩ := hG.form
  have hst := (Owns.start (w.alloc (.cells #[.int .i64 d, .slice GA gs.length Gc, .int .i64 gl] 24)) (L := [no]) (by intro r hr; simp [no] at hr; subst hr; simp)).new 0 #[.string { data := #[] }, .int .i64 0] 48 (by simp [maxLen])
  have hst2 : Owns (w.alloc (.cells #[.int .i64 d, .slice GA gs.length Gc, .int .i64 gl] 24)) ((w.alloc (.cells #[.int .i64 d, .slice GA gs.length Gc, .int .i64 gl] 24)).alloc (.cells #[.string { data := #[] }, .int .i64 0] 48)) [decodedRow (w.heap.size + 1) (.string { data := #[] }) (.int .i64 0)] := by simpa [decodedRow] using hst
  have HST := Lib.hid hst2
  have e1 : (Cd.check d gs gl != 0) = false := by rw [h0]; rfl
  obtain ⟨P, hP⟩ : ∃ P, (Cd.rowsOf d gs gl).length = P := ⟨_, rfl⟩
  have hpp : Cd.pieces d gs gl = (P : Int) := by rw [Cd.pieces_ok h0, ← hP, Cd.rowsOf_len h0]
  have hs : Cd.isSet d gs gl m = decide (0 ≤ m ∧ m < ((2 ^ P : Nat) : Int)) := by unfold Cd.isSet; rw [hpp, Int.toNat_natCast]
  have hb2 : n < 0 ∨ 4096 < n ∨ m < 0 ∨ ((2 ^ P : Nat) : Int) ≤ m ∨ pl ≠ P := by
    unfold Cd.badArgs at hb
    rw [decide_eq_true_eq, hP, hpl] at hb
    exact hb
  have four : (n < 0) ∨ (¬ n < 0 ∧ 4096 < n) ∨ (¬ n < 0 ∧ ¬ 4096 < n ∧ Cd.isSet d gs gl m = false) ∨ (¬ n < 0 ∧ ¬ 4096 < n ∧ Cd.isSet d gs gl m = true ∧ pl ≠ P) := by
    by_cases h1 : n < 0
    · exact .inl h1
    · by_cases h2 : 4096 < n
      · exact .inr (.inl ⟨h1, h2⟩)
      · cases h3 : Cd.isSet d gs gl m with
        | false => exact .inr (.inr (.inl ⟨h1, h2, rfl⟩))
        | true =>
          rw [h3] at hs
          have := of_decide_eq_true hs.symm
          exact .inr (.inr (.inr ⟨h1, h2, rfl, by omega⟩))
  obtain ⟨bs, hbs⟩ : ∃ bs, Cd.isSet d gs gl m = bs := ⟨_, rfl⟩
  rw [hbs] at four
  have HS := Lib.hid hbs
  have HPP := Lib.hid hpp
  clear hG hx0 h0 hst hst2 hP hpp hs hb hb2 hbs hpl
  rcases four with g1 | ⟨g1, g2⟩ | ⟨g1, g2, g3⟩ | ⟨g1, g2, g3, g4⟩

  · go_enter Tryd.func21, Tryd.ntmps21
    go_wp2_with fail
    refine (rCheck_any d gl gs _ _ (Rs.ext (Rs.ext RI.ext) _ _ _ _ ((Ext.refl _).alloc _) HX.out.2) hgn).mono ?_
    rintro e w1 ⟨rfl, hx1⟩
    have HX1 := Lib.hid (HST.out.next hx1)
    obtain ⟨c0, c1, c2⟩ := code_cells2 (HX1.out.ext)
    clear hx1
    go_wp2_with fail
    clear c0 c1 c2
    refine (rIsSet_any d gl gs m _ _ (Rs.ext (Rs.ext RI.ext) _ _ _ _ HX1.out.ext HX.out.2) hgn).mono ?_
    rintro e w2 ⟨rfl, hx2⟩
    rw [HS.out]
    have HO := Lib.hid (HX1.out.next hx2)
    clear hx2
    have hc3 : w2.cell? ⟨w.heap.size + 1, 0, none⟩ = some (.string { data := #[] }) := HO.out.cell 0 rfl 0 rfl
    have hc4 : w2.cell? ⟨w.heap.size + 1, 1, none⟩ = some (.int .i64 0) := HO.out.cell 0 rfl 1 rfl
    have hf3 : w2.frozen? ⟨w.heap.size + 1, 0, none⟩ = false := HO.out.frozen 0 rfl 0
    have hf4 : w2.frozen? ⟨w.heap.size + 1, 1, none⟩ = false := HO.out.frozen 0 rfl 1
    go_wp2_with fail
    have hO7 := (HO.out.store 0 rfl 0 (.string { data := #[] })).store 0 rfl 1 (.int .i64 1)
    exact bodyPost_ret (v := .agg #[.string { data := #[] }, .int .i64 1]) (by simp [results, Tryd.results21, go_sem, hc3, hc4]) rfl ⟨rfl, HX.out.1.trans hO7.ext⟩

  · go_enter Tryd.func21, Tryd.ntmps21
    go_wp2_with fail
    refine (rCheck_any d gl gs _ _ (Rs.ext (Rs.ext RI.ext) _ _ _ _ ((Ext.refl _).alloc _) HX.out.2) hgn).mono ?_
    rintro e w1 ⟨rfl, hx1⟩
    have HX1 := Lib.hid (HST.out.next hx1)
    obtain ⟨c0, c1, c2⟩ := code_cells2 (HX1.out.ext)
    clear hx1
    go_wp2_with fail
    clear c0 c1 c2
    refine (rIsSet_any d gl gs m _ _ (Rs.ext (Rs.ext RI.ext) _ _ _ _ HX1.out.ext HX.out.2) hgn).mono ?_
    rintro e w2 ⟨rfl, hx2⟩
    rw [HS.out]
    have HO := Lib.hid (HX1.out.next hx2)
    clear hx2
    have hc3 : w2.cell? ⟨w.heap.size + 1, 0, none⟩ = some (.string { data := #[] }) := HO.out.cell 0 rfl 0 rfl
    have hc4 : w2.cell? ⟨w.heap.size + 1, 1, none⟩ = some (.int .i64 0) := HO.out.cell 0 rfl 1 rfl
    have hf3 : w2.frozen? ⟨w.heap.size + 1, 0, none⟩ = false := HO.out.frozen 0 rfl 0
    have hf4 : w2.frozen? ⟨w.heap.size + 1, 1, none⟩ = false := HO.out.frozen 0 rfl 1
    go_wp2_with fail
    have hO7 := (HO.out.store 0 rfl 0 (.string { data := #[] })).store 0 rfl 1 (.int .i64 1)
    exact bodyPost_ret (v := .agg #[.string { data := #[] }, .int .i64 1]) (by simp [results, Tryd.results21, go_sem, hc3, hc4]) rfl ⟨rfl, HX.out.1.trans hO7.ext⟩

  · subst g3
    go_enter Tryd.func21, Tryd.ntmps21
    go_wp2_with fail
    refine (rCheck_any d gl gs _ _ (Rs.ext (Rs.ext RI.ext) _ _ _ _ ((Ext.refl _).alloc _) HX.out.2) hgn).mono ?_
    rintro e w1 ⟨rfl, hx1⟩
    have HX1 := Lib.hid (HST.out.next hx1)
    obtain ⟨c0, c1, c2⟩ := code_cells2 (HX1.out.ext)
    clear hx1
    go_wp2_with fail
    clear c0 c1 c2
    refine (rIsSet_any d gl gs m _ _ (Rs.ext (Rs.ext RI.ext) _ _ _ _ HX1.out.ext HX.out.2) hgn).mono ?_
    rintro e w2 ⟨rfl, hx2⟩
    rw [HS.out]
    have HO := Lib.hid (HX1.out.next hx2)
    clear hx2
    have hc3 : w2.cell? ⟨w.heap.size + 1, 0, none⟩ = some (.string { data := #[] }) := HO.out.cell 0 rfl 0 rfl
    have hc4 : w2.cell? ⟨w.heap.size + 1, 1, none⟩ = some (.int .i64 0) := HO.out.cell 0 rfl 1 rfl
    have hf3 : w2.frozen? ⟨w.heap.size + 1, 0, none⟩ = false := HO.out.frozen 0 rfl 0
    have hf4 : w2.frozen? ⟨w.heap.size + 1, 1, none⟩ = false := HO.out.frozen 0 rfl 1
    go_wp2_with fail
    have hO7 := (HO.out.store 0 rfl 0 (.string { data := #[] })).store 0 rfl 1 (.int .i64 1)
    exact bodyPost_ret (v := .agg #[.string { data := #[] }, .int .i64 1]) (by simp [results, Tryd.results21, go_sem, hc3, hc4]) rfl ⟨rfl, HX.out.1.trans hO7.ext⟩

  · subst g3
    have e5 : ((pl : Int) != (P : Int)) = true := by rw [bne_iff_ne]; omega
    go_enter Tryd.func21, Tryd.ntmps21
    go_wp2_with fail
    refine (rCheck_any d gl gs _ _ (Rs.ext (Rs.ext RI.ext) _ _ _ _ ((Ext.refl _).alloc _) HX.out.2) hgn).mono ?_
    rintro e w1 ⟨rfl, hx1⟩
    have HX1 := Lib.hid (HST.out.next hx1)
    obtain ⟨c0, c1, c2⟩ := code_cells2 (HX1.out.ext)
    clear hx1
    go_wp2_with fail
    clear c0 c1 c2
    refine (rIsSet_any d gl gs m _ _ (Rs.ext (Rs.ext RI.ext) _ _ _ _ HX1.out.ext HX.out.2) hgn).mono ?_
    rintro e w2 ⟨rfl, hx2⟩
    rw [HS.out]
    have HO := Lib.hid (HX1.out.next hx2)
    clear hx2
    obtain ⟨c0, c1, c2⟩ := code_cells2 (HO.out.ext)
    go_wp2_with fail
    clear c0 c1 c2
    refine (rPieces_any d gl gs _ _ (Rs.ext (Rs.ext RI.ext) _ _ _ _ HO.out.ext HX.out.2) hgn).mono ?_
    rintro e w3 ⟨rfl, hx3⟩
    rw [HPP.out]
    have HO3 := Lib.hid (HO.out.next hx3)
    clear hx3
    have hc3 : w3.cell? ⟨w.heap.size + 1, 0, none⟩ = some (.string { data := #[] }) := HO3.out.cell 0 rfl 0 rfl
    have hc4 : w3.cell? ⟨w.heap.size + 1, 1, none⟩ = some (.int .i64 0) := HO3.out.cell 0 rfl 1 rfl
    have hf3 : w3.frozen? ⟨w.heap.size + 1, 0, none⟩ = false := HO3.out.frozen 0 rfl 0
    have hf4 : w3.frozen? ⟨w.heap.size + 1, 1, none⟩ = false := HO3.out.frozen 0 rfl 1
    go_wp2_with fail
    have hO7 := (HO3.out.store 0 rfl 0 (.string { data := #[] })).store 0 rfl 1 (.int .i64 1)
    exact bodyPost_ret (v := .agg #[.string { data := #[] }, .int .i64 1]) (by simp [results, Tryd.results21, go_sem, hc3, hc4]) rfl ⟨rfl, HX.out.1.trans hO7.ext⟩

set_option maxRecDepth 100000 in
set_option maxHeartbeats 8000000 in
theorem rDecode_in (d gl n m : Nat) (gs : List (List Int)) (pieces : List (List UInt8)) (G : Value) (PA : Option Addr) (pl cp : Nat) (w : World) (hG : Rs (Rs RI) w G gs) (h0 : Cd.check d gs gl = 0) (hb : Cd.badArgs d gl gs n m pieces = false) (hP : Rs RS w (.slice PA pl cp) pieces) :
    Calls Tryd.prog 21 #[.agg #[.int .i64 d, G, .int .i64 gl], .int .i64 n, .int .i64 m, .slice PA pl cp] w fun e w' => e = .returned (.agg #[.string (sb (Cd.decS d gl gs n m pieces)), .int .i64 (Cd.decE d gl gs n m pieces)]) ∧ Ext w w' := by
  have hpl := hP.len.symm
  have hx0 := (Ext.refl w).alloc (.cells #[.int .i64 d, G, .int .i64 gl] 24)
  have HX := Lib.hid (And.intro hx0 (Rs.ext (Rs.ext RI.ext) _ _ _ _ hx0 hG))
  obtain ⟨GA, Gc, rfl, _⟩ := hG.form
  have hst := (Owns.start (w.alloc (.cells #[.int .i64 d, .slice GA gs.length Gc, .int .i64 gl] 24)) (L := [no]) (by intro r hr; simp [no] at hr; subst hr; simp)).new 0 #[.string { data := #[] }, .int .i64 0] 48 (by simp [maxLen])
  have hst2 : Owns (w.alloc (.cells #[.int .i64 d, .slice GA gs.length Gc, .int .i64 gl] 24)) ((w.alloc (.cells #[.int .i64 d, .slice GA gs.length Gc, .int .i64 gl] 24)).alloc (.cells #[.string { data := #[] }, .int .i64 0] 48)) [decodedRow (w.heap.size + 1) (.string { data := #[] }) (.int .i64 0)] := by simpa [decodedRow] using hst
  have HST := Lib.hid hst2
  have HPS := Lib.hid (Rs.ext RS.ext _ _ _ _ HX.out.1 hP)
  have e1 : (Cd.check (d : Int) gs (gl : Int) != 0) = false := by rw [h0]; rfl
  have hck := Cd.check_ok h0
  have hgn : gs.length ≤ 1000000 := by omega
  obtain ⟨R, hR⟩ : ∃ R, Cd.rowsOf (d : Int) gs (gl : Int) = R := ⟨_, rfl⟩
  have hb2 := hb
  unfold Cd.badArgs at hb2
  rw [decide_eq_false_iff_not, hR, hpl] at hb2
  have hRl : R.length = pl := by omega
  have hn : n ≤ 4096 := by omega
  have hm : m < 2 ^ pl := by rw [hRl] at hb2; omega
  have hrl := Cd.rowsOf_len h0
  rw [hR, hRl] at hrl
  have hpp : Cd.pieces d gs gl = (pl : Int) := by rw [Cd.pieces_ok h0, hrl]
  have hs : Cd.isSet d gs gl (m : Int) = true := by unfold Cd.isSet; rw [hpp, Int.toNat_natCast]; exact decide_eq_true ⟨by omega, by omega⟩
  have hpl24 : pl ≤ 24 := by omega
  have hm24 : m ≤ 16777216 := by
    have : 2 ^ pl ≤ 2 ^ 24 := Nat.pow_le_pow_right (by omega) hpl24
    omega
  obtain ⟨sz, hsz⟩ : ∃ sz, Cd.sizeN d n = sz := ⟨_, rfl⟩
  have hso := Cd.sizeOf_nat (d := d) (gl := gl) (gs := gs) hn h0
  have hszn := Cd.size_le (d := d) (by omega) n
  have hge := Cd.size_ge (d := d) (by omega) n
  rw [hsz] at hso hszn hge
  have hsz4 : sz ≤ 4096 := by omega
  -- what the answers are
  have hLen := fun (k : Nat) (h1 : k < pl) (h2 : Cd.bitAt m k = 1) (h3 : (pieces.getD k []).length ≠ sz) => Cd.decE_len (pieces := pieces) h0 hb (Cd.badLen_iff.2 ⟨k, by rw [hpl]; exact h1, h2, by rw [Int.toNat_natCast, Int.toNat_natCast, hsz]; exact h3⟩)
  have hbl : (∀ k, k < pl → Cd.bitAt m k = 1 → (pieces.getD k []).length = sz) → Cd.badLen (Cd.sizeN (d : Int).toNat (n : Int).toNat) (m : Int).toNat pieces = false := fun h => by
    rw [Int.toNat_natCast, Int.toNat_natCast, Int.toNat_natCast, hsz, ← Bool.not_eq_true, Cd.badLen_iff]
    rintro ⟨k, h1, h2, h3⟩
    exact h3 (h k (by rw [← hpl]; exact h1) h2)
  have hLost := fun h (hc : Cd.can d gl gs m = false) => Cd.decE_lost (pieces := pieces) h0 hb (hbl h) hc
  obtain ⟨ds, hds⟩ : ∃ ds, Cd.dataR R d sz m pieces = ds := ⟨_, rfl⟩
  have hdl : ds.length = d * sz := by rw [← hds]; exact Cd.dataR_len R d sz m pieces
  obtain ⟨xs, hxs⟩ : ∃ xs, ds.take n = xs := ⟨_, rfl⟩
  have hxl : xs.length = n := by rw [← hxs, List.length_take, hdl]; omega
  have hfin := fun (h : ∀ k, k < pl → Cd.bitAt m k = 1 → (pieces.getD k []).length = sz) (hc : Cd.can d gl gs m = true) => by
    have h1 := Cd.dec_ref (n := n) (pieces := pieces) hR (by rw [hpl, hRl]) hc (by rw [hRl, hsz]; exact h)
    rw [hsz, hds, hxs] at h1
    exact h1
  have hBad := fun h (hc : Cd.can d gl gs m = true) (k : Nat) (h1 : k < pl) (h2 : Cd.bitAt m k = 1) (h3 : (Cd.encode d gl gs xs).getD k [] ≠ pieces.getD k []) => by
    refine Cd.decE_bad (pieces := pieces) h0 hb (hbl h) hc ?_
    rw [Int.toNat_natCast, Int.toNat_natCast, (hfin h hc).1]
    exact Cd.badOne_iff.2 ⟨k, by rw [hpl]; exact h1, h2, h3⟩
  have hOk := fun h (hc : Cd.can d gl gs m = true) (h3 : ∀ k, k < pl → Cd.bitAt m k = 1 → (Cd.encode d gl gs xs).getD k [] = pieces.getD k []) => by
    have h4 : Cd.badOne m (Cd.encode d gl gs xs) pieces = false := by
      rw [← Bool.not_eq_true, Cd.badOne_iff]
      rintro ⟨k, k1, k2, k3⟩
      exact k3 (h3 k (by rw [← hpl]; exact k1) k2)
    have h5 : Cd.decE d gl gs n m pieces = 0 := by
      refine Cd.decE_ok (pieces := pieces) h0 hb (hbl h) hc ?_
      rw [Int.toNat_natCast, Int.toNat_natCast, (hfin h hc).1]
      exact h4
    have h6 : Cd.decS d gl gs n m pieces = xs := by
      rw [Cd.decS_ok h5, Int.toNat_natCast, Int.toNat_natCast]
      exact (hfin h hc).2 h4
    exact And.intro h5 h6
  have hEL : Cd.encE d gl gs xs = 0 ∧ Cd.encL d gl gs xs = Cd.encode d gl gs xs := ⟨Cd.encE_ok h0 (by omega), Cd.encL_ok h0 (by omega)⟩
  have hEn : (Cd.encode (d : Int) (gl : Int) gs xs).length = pl := by rw [Cd.encode_len, hR, hRl]
  obtain ⟨E, hE⟩ : ∃ E, Cd.encode (d : Int) (gl : Int) gs xs = E := ⟨_, rfl⟩
  rw [hE] at hBad hOk hEL hEn
  have hsl : ∀ w2 : World, (Instr.sliceAt 9 (.string (sb ds)) none (some (.int .i64 n)) none).run Tryd.prog w2 = .ok (.string (sb xs)) w2 := fun w2 => by
    rw [← hxs]
    exact run_take ds n (by omega) w2
  have HPR := Lib.hid (And.intro hR (And.intro hRl (And.intro hpp (And.intro hs hpl))))
  have HSZ := Lib.hid (And.intro hso hsz)
  have HANS := Lib.hid (And.intro hLen (And.intro hLost (And.intro hBad hOk)))
  have HEL := Lib.hid (And.intro hEL (And.intro hEn hxl))
  have HSL := Lib.hid (And.intro hsl (And.intro hds (And.intro hxs hdl)))
  have HH0 := Lib.hid h0
  have e5 : ((pl : Int) != (pl : Int)) = false := by simp
  clear hG hP hx0 h0 hst hst2 hck hb hb2 hR hRl hm hrl hpp hs hsz hso hszn hLen hbl hLost hds hdl hxs hxl hfin hBad hOk hEL hEn hE hsl hpl
  have hdS : ∀ E2 : Int, Cd.decE d gl gs n m pieces = E2 → E2 ≠ 0 → Cd.decS d gl gs n m pieces = [] := fun E2 h1 h2 => Cd.decS_no (by rw [h1]; exact h2)
  have HDS := Lib.hid hdS
  clear hdS
  go_enter Tryd.func21, Tryd.ntmps21
  go_wp2_with fail
  refine (rCheck_any d gl gs _ _ (Rs.ext (Rs.ext RI.ext) _ _ _ _ ((Ext.refl _).alloc _) HX.out.2) hgn).mono ?_
  rintro e w1 ⟨rfl, hx1⟩
  have HX1 := Lib.hid (HST.out.next hx1)
  obtain ⟨c0, c1, c2⟩ := code_cells2 (HX1.out.ext)
  clear hx1
  go_wp2_with fail
  clear c0 c1 c2
  refine (rIsSet_any d gl gs m _ _ (Rs.ext (Rs.ext RI.ext) _ _ _ _ HX1.out.ext HX.out.2) hgn).mono ?_
  rintro e w2 ⟨rfl, hx2⟩
  rw [HPR.out.2.2.2.1]
  have HO2 := Lib.hid (HX1.out.next hx2)
  obtain ⟨c0, c1, c2⟩ := code_cells2 (HO2.out.ext)
  clear hx2
  go_wp2_with fail
  clear c0 c1 c2
  refine (rPieces_any d gl gs _ _ (Rs.ext (Rs.ext RI.ext) _ _ _ _ HO2.out.ext HX.out.2) hgn).mono ?_
  rintro e w3 ⟨rfl, hx3⟩
  rw [HPR.out.2.2.1]
  have HO3 := Lib.hid (HO2.out.next hx3)
  clear hx3
  go_wp2_with fail
  go_loopw [11] (fun vk wr => ∃ k : Nat, k ≤ pl ∧ vk = .int .i64 k ∧ Hid (Owns (w.alloc (.cells #[.int .i64 d, .slice GA gs.length Gc, .int .i64 gl] 24)) wr [decodedRow (w.heap.size + 1) (.string { data := #[] }) (.int .i64 0)] ∧ ∀ j, j < k → Cd.bitAt m j = 1 → (pieces.getD j []).length = sz)) (fun vk _ => pl - (intOf vk).toNat)
  case atStart => exact ⟨0, Nat.zero_le _, rfl, Lib.hid (And.intro HO3.out fun j hj => absurd hj (Nat.not_lt_zero j))⟩
  case round =>
    obtain ⟨k, hk, rfl, HK⟩ := hrel
    by_cases hkl : k < pl
    · obtain ⟨bP, u, rfl, hcP, hu⟩ := (Rs.ext RS.ext _ _ _ _ HK.out.1.ext HPS.out).at (i := k) (by rw [HPR.out.2.2.2.2]; exact hkl)
      unfold RS at hu
      subst hu
      have hgp := getD_get (x := ([] : List UInt8)) (l := pieces) (i := k) (by rw [HPR.out.2.2.2.2]; exact hkl)
      obtain ⟨pk, hpk⟩ : ∃ pk, pieces[k]'(by rw [HPR.out.2.2.2.2]; exact hkl) = pk := ⟨_, rfl⟩
      rw [hpk] at hgp hcP
      by_cases hb : Cd.bitAt m k = 1
      · have hin : Cd.inS m k = true := by unfold Cd.inS; simp [hb]
        have HGP := Lib.hid (And.intro hgp (And.intro hcP (And.intro hb hin)))
        clear hgp hcP hb hin hpk
        by_cases hsz9 : pk.length = sz
        · have hbb : (((sb pk).size : Int) != Cd.sizeOf d gl gs n) = false := by rw [HSZ.out.1, size_sb, hsz9]; simp
          have HB9 := Lib.hid (And.intro hbb hsz9)
          clear hbb hsz9
          go_wp2_with fail
          refine (rIn_any m k _ hm24 (by omega)).mono ?_
          rintro e w4 ⟨rfl, rfl⟩
          rw [HGP.out.2.2.2]
          obtain ⟨c0, c1, c2⟩ := code_cells2 (HK.out.1.ext)
          go_upto_region 11 with fail
          refine wp_atEnd (dec_len bP GA w.heap.size pl cp Gc k d gl n false (sb pk) gs wr hgn hkl (Lib.hid HGP.out.2.1) (Lib.hid HB9.out.1) c0 c1 c2 (Lib.hid (Rs.ext (Rs.ext RI.ext) _ _ _ _ HK.out.1.ext HX.out.2)) _ _ _ _ _ _ _ _ _ _ _ _ _ _ _ _ _ _ _ _ _ _ _ _ _ _ _ _ _ _ _ _ _ _ _ _ _ _ _ _ _ _ _ _ _ _ _ _ _ _ _ _ _ _ _ _ _ _ _ _ _ _ _ _ _ _ _ _ _ _ _ _ _ _ _ _ _ _ _ _ _ _ _ _ _ _ _ _ _ _ _ _ _ _ _ _ _ _ _ _ _ _ _ _ _ _ _ _ _ ?_)
          intros
          rename_i wx hxx
          have HX9 := Lib.hid (HK.out.1.next hxx)
          clear hxx c0 c1 c2
          go_wp2_with fail
          go_roundw
          case rel => exact ⟨k + 1, by omega, by go_num, Lib.hid (And.intro HX9.out fun j hj hbj => by
            by_cases hjk : j = k
            · rw [hjk, HGP.out.1]; exact HB9.out.2
            · exact HK.out.2 j (by omega) hbj)⟩
          case measure => simp [intOf]; omega
        · have hbb : (((sb pk).size : Int) != Cd.sizeOf d gl gs n) = true := by rw [HSZ.out.1, size_sb, bne_iff_ne]; omega
          have hans := HANS.out.1 k hkl HGP.out.2.2.1 (by rw [HGP.out.1]; exact hsz9)
          have HB9 := Lib.hid (And.intro hbb hans)
          clear hbb hsz9 hans
          go_wp2_with fail
          refine (rIn_any m k _ hm24 (by omega)).mono ?_
          rintro e w4 ⟨rfl, rfl⟩
          rw [HGP.out.2.2.2]
          obtain ⟨c0, c1, c2⟩ := code_cells2 (HK.out.1.ext)
          go_upto_region 11 with fail
          refine wp_atEnd (dec_len bP GA w.heap.size pl cp Gc k d gl n true (sb pk) gs wr hgn hkl (Lib.hid HGP.out.2.1) (Lib.hid HB9.out.1) c0 c1 c2 (Lib.hid (Rs.ext (Rs.ext RI.ext) _ _ _ _ HK.out.1.ext HX.out.2)) _ _ _ _ _ _ _ _ _ _ _ _ _ _ _ _ _ _ _ _ _ _ _ _ _ _ _ _ _ _ _ _ _ _ _ _ _ _ _ _ _ _ _ _ _ _ _ _ _ _ _ _ _ _ _ _ _ _ _ _ _ _ _ _ _ _ _ _ _ _ _ _ _ _ _ _ _ _ _ _ _ _ _ _ _ _ _ _ _ _ _ _ _ _ _ _ _ _ _ _ _ _ _ _ _ _ _ _ _ ?_)
          intros
          rename_i wx hxx
          have HX9 := Lib.hid (HK.out.1.next hxx)
          clear hxx c0 c1 c2
          have hc3 : wx.cell? ⟨w.heap.size + 1, 0, none⟩ = some (.string { data := #[] }) := HX9.out.cell 0 rfl 0 rfl
          have hc4 : wx.cell? ⟨w.heap.size + 1, 1, none⟩ = some (.int .i64 0) := HX9.out.cell 0 rfl 1 rfl
          have hf3 : wx.frozen? ⟨w.heap.size + 1, 0, none⟩ = false := HX9.out.frozen 0 rfl 0
          have hf4 : wx.frozen? ⟨w.heap.size + 1, 1, none⟩ = false := HX9.out.frozen 0 rfl 1
          go_wp2_with fail
          have hO7 := (HX9.out.store 0 rfl 0 (.string { data := #[] })).store 0 rfl 1 (.int .i64 1)
          exact bodyPost_ret (v := .agg #[.string { data := #[] }, .int .i64 1]) (by simp [results, Tryd.results21, go_sem, hc3, hc4]) rfl ⟨by rw [HB9.out.2, HDS.out _ HB9.out.2 (by decide)]; rfl, HX.out.1.trans hO7.ext⟩
      · have hin : Cd.inS m k = false := by unfold Cd.inS; simp [hb]
        have HIN := Lib.hid (And.intro hin hb)
        clear hgp hcP hb hin hpk
        go_wp2_with fail
        refine (rIn_any m k _ hm24 (by omega)).mono ?_
        rintro e w4 ⟨rfl, rfl⟩
        rw [HIN.out.1]
        go_wp2_with fail
        go_quiet (fail)
        go_wp2_with fail
        go_roundw
        case rel => exact ⟨k + 1, by omega, by go_num, Lib.hid (And.intro (by first | exact HK.out.1.drewN _ | exact HK.out.1) fun j hj hbj => by
          by_cases hjk : j = k
          · rw [hjk] at hbj; exact absurd hbj HIN.out.2
          · exact HK.out.2 j (by omega) hbj)⟩
        case measure => simp [intOf]; omega
    · obtain rfl : k = pl := by omega
      obtain ⟨c0, c1, c2⟩ := code_cells2 (HK.out.1.ext)
      cases hcan : Cd.can d gl gs m with
      | false =>
        have hans := HANS.out.2.1 HK.out.2 hcan
        have HB9 := Lib.hid (And.intro hcan hans)
        clear hcan hans
        go_wp2_with fail
        clear c0 c1 c2
        refine (rRec_any d gl m gs _ _ (Rs.ext (Rs.ext RI.ext) _ _ _ _ HK.out.1.ext HX.out.2) hgn).mono ?_
        rintro e w4 ⟨rfl, hx4⟩
        rw [HB9.out.1]
        have HX9 := Lib.hid (HK.out.1.next hx4)
        clear hx4
        have hc3 : w4.cell? ⟨w.heap.size + 1, 0, none⟩ = some (.string { data := #[] }) := HX9.out.cell 0 rfl 0 rfl
        have hc4 : w4.cell? ⟨w.heap.size + 1, 1, none⟩ = some (.int .i64 0) := HX9.out.cell 0 rfl 1 rfl
        have hf3 : w4.frozen? ⟨w.heap.size + 1, 0, none⟩ = false := HX9.out.frozen 0 rfl 0
        have hf4 : w4.frozen? ⟨w.heap.size + 1, 1, none⟩ = false := HX9.out.frozen 0 rfl 1
        go_wp2_with fail
        have hO7 := (HX9.out.store 0 rfl 0 (.string { data := #[] })).store 0 rfl 1 (.int .i64 17)
        exact bodyPost_ret (v := .agg #[.string { data := #[] }, .int .i64 17]) (by simp [results, Tryd.results21, go_sem, hc3, hc4]) rfl ⟨by rw [HB9.out.2, HDS.out _ HB9.out.2 (by decide)]; rfl, HX.out.1.trans hO7.ext⟩
      | true =>
        have HCN := Lib.hid (And.intro hcan (And.intro (HANS.out.2.2.1 HK.out.2 hcan) (HANS.out.2.2.2 HK.out.2 hcan)))
        clear hcan
        go_wp2_with fail
        clear c0 c1 c2
        refine (rRec_any d gl m gs _ _ (Rs.ext (Rs.ext RI.ext) _ _ _ _ HK.out.1.ext HX.out.2) hgn).mono ?_
        rintro e w4 ⟨rfl, hx4⟩
        rw [HCN.out.1]
        have HX4 := Lib.hid (HK.out.1.next hx4)
        obtain ⟨c0, c1, c2⟩ := code_cells2 (HX4.out.ext)
        clear hx4
        go_upto_region 16 with fail
        refine wp_atEnd (dec_data GA PA w.heap.size k cp Gc d gl sz m n gs R pieces w4 hgn hsz4 (Lib.hid HSZ.out.1) (Lib.hid (Rs.ext RS.ext _ _ _ _ HX4.out.ext HPS.out)) (Lib.hid HPR.out.2.2.2.2) (Lib.hid (And.intro HPR.out.2.1 HPR.out.1)) (Lib.hid HCN.out.1) (Lib.hid HK.out.2) c0 c1 c2 (Lib.hid (Rs.ext (Rs.ext RI.ext) _ _ _ _ HX4.out.ext HX.out.2)) _ _ _ _ _ _ _ _ _ _ _ _ _ _ _ _ _ _ _ _ _ _ _ _ _ _ _ _ _ _ _ _ _ _ _ _ _ _ _ _ _ _ _ _ _ _ _ _ _ _ _ _ _ _ _ _ _ _ _ _ _ _ _ _ _ _ _ _ _ _ _ _ _ _ _ _ _ _ _ _ _ _ _ _ _ _ _ _ _ _ _ _ _ _ _ _ _ _ _ _ _ _ _ _ _ _ _ _ _ _ ?_)
        intros
        rename_i w5 hx5
        have HX5 := Lib.hid (HX4.out.next hx5)
        clear hx5 c0 c1 c2
        rw [HSL.out.2.1]
        have HOW : Hid (Owns (w.alloc (.cells #[.int .i64 d, .slice GA gs.length Gc, .int .i64 gl] 24)) w5.drew [decodedRow (w.heap.size + 1) (.string { data := #[] }) (.int .i64 0), no]) := Lib.hid (HX5.out.drew.wider)
        obtain ⟨c0, c1, c2⟩ := code_cells2 (Ext.refl (w.alloc (.cells #[.int .i64 d, .slice GA gs.length Gc, .int .i64 gl] 24)))
        go_upto_region 17 with fail
        refine wp_atEnd (dec_enc GA w.heap.size Gc d gl n 0 gs ds xs E (decodedRow (w.heap.size + 1) (.string { data := #[] }) (.int .i64 0)) (w.alloc (.cells #[.int .i64 d, .slice GA gs.length Gc, .int .i64 gl] 24)) w5 hgn (by rw [HEL.out.2.2]; omega) (Lib.hid HEL.out.1) (Lib.hid HSL.out.1) c0 c1 c2 (Lib.hid HX.out.2) HOW _ _ _ _ _ _ _ _ _ _ _ _ _ _ _ _ _ _ _ _ _ _ _ _ _ _ _ _ _ _ _ _ _ _ _ _ _ _ _ _ _ _ _ _ _ _ _ _ _ _ _ _ _ _ _ _ _ _ _ _ _ _ _ _ _ _ _ _ _ _ _ _ _ _ _ _ _ _ _ _ _ _ _ _ _ _ _ _ _ _ _ _ _ _ _ _ _ _ _ _ _ _ _ _ _ _ _ _ _ _ _ ?_)
        intro VE gA
        intros
        rename_i w6 hO6
        obtain ⟨VA, vc, rfl, _⟩ := hO6.2.form
        have HO6 := Lib.hid hO6
        have hEn := HEL.out.2.1
        have HEN := Lib.hid hEn
        clear hO6 c0 c1 c2 hEn
        go_wp2_with fail
        go_loopw [16] (fun vj wr => ∃ j : Nat, j ≤ k ∧ vj = .int .i64 j ∧ Hid (Owns (w.alloc (.cells #[.int .i64 d, .slice GA gs.length Gc, .int .i64 gl] 24)) wr [decodedRow (w.heap.size + 1) (.string { data := #[] }) (.int .i64 0), listedRow gA (.slice VA k vc) (.int .i64 0)] ∧ Rs RS wr (.slice VA k vc) E ∧ ∀ i, i < j → Cd.bitAt m i = 1 → E.getD i [] = pieces.getD i [])) (fun vj _ => k - (intOf vj).toNat)
        case atStart => exact ⟨0, Nat.zero_le _, rfl, Lib.hid (And.intro (by rw [← HEN.out]; exact HO6.out.1) (And.intro (by rw [← HEN.out]; exact HO6.out.2) fun j hj => absurd hj (Nat.not_lt_zero j)))⟩
        case round =>
          obtain ⟨j, hj, rfl, HJ⟩ := hrel
          by_cases hjl : j < k
          · obtain ⟨bP, u, rfl, hcP, hu⟩ := (Rs.ext RS.ext _ _ _ _ HJ.out.1.ext HPS.out).at (i := j) (by rw [HPR.out.2.2.2.2]; exact hjl)
            obtain ⟨bV, u2, rfl, hcV, hu2⟩ := HJ.out.2.1.at (i := j) (by rw [HEN.out]; exact hjl)
            unfold RS at hu hu2
            subst hu hu2
            have hgp := getD_get (x := ([] : List UInt8)) (l := pieces) (i := j) (by rw [HPR.out.2.2.2.2]; exact hjl)
            have hge2 := getD_get (x := ([] : List UInt8)) (l := E) (i := j) (by rw [HEN.out]; exact hjl)
            obtain ⟨pk, hpk⟩ : ∃ pk, pieces[j]'(by rw [HPR.out.2.2.2.2]; exact hjl) = pk := ⟨_, rfl⟩
            obtain ⟨ek, hek⟩ : ∃ ek, E[j]'(by rw [HEN.out]; exact hjl) = ek := ⟨_, rfl⟩
            rw [hpk] at hgp hcP
            rw [hek] at hge2 hcV
            have hcA : wr.cell? ⟨gA, 0, none⟩ = some (.slice (some bV) k vc) := HJ.out.1.cell 1 rfl 0 rfl
            have HGP := Lib.hid (And.intro hgp hge2)
            clear hgp hge2 hpk hek
            by_cases hb : Cd.bitAt m j = 1
            · have hin : Cd.inS m j = true := by unfold Cd.inS; simp [hb]
              have HIN := Lib.hid (And.intro hin hb)
              clear hin hb
              by_cases heq : ek = pk
              · have h1 := sb_same heq
                have HE := Lib.hid heq
                clear heq
                go_wp2_with fail
                refine (rIn_any m j _ hm24 (by omega)).mono ?_
                rintro e w7 ⟨rfl, rfl⟩
                rw [HIN.out.1]
                go_wp2_with fail
                go_quiet (fail)
                go_wp2_with fail
                clear hcA hcP hcV
                go_roundw
                case rel => exact ⟨j + 1, by omega, by go_num, Lib.hid (And.intro (by first | exact HJ.out.1.drewN _ | exact HJ.out.1) (And.intro HJ.out.2.1 fun i hi hbi => by
                  by_cases hij : i = j
                  · rw [hij, HGP.out.1, HGP.out.2]; exact HE.out
                  · exact HJ.out.2.2 i (by omega) hbi))⟩
                case measure => simp [intOf]; omega
              · have h1 := sb_other heq
                have hans := HCN.out.2.1 j hjl HIN.out.2 (by rw [HGP.out.1, HGP.out.2]; exact heq)
                have HB9 := Lib.hid hans
                clear heq hans
                go_wp2_with fail
                refine (rIn_any m j _ hm24 (by omega)).mono ?_
                rintro e w7 ⟨rfl, rfl⟩
                rw [HIN.out.1]
                go_wp2_with fail
                go_quiet (fail)
                have HQ := Lib.hid (HJ.out.1.drewN nq)
                have hc3 : (wr.drewN nq).cell? ⟨w.heap.size + 1, 0, none⟩ = some (.string { data := #[] }) := HQ.out.cell 0 rfl 0 rfl
                have hc4 : (wr.drewN nq).cell? ⟨w.heap.size + 1, 1, none⟩ = some (.int .i64 0) := HQ.out.cell 0 rfl 1 rfl
                have hf3 : (wr.drewN nq).frozen? ⟨w.heap.size + 1, 0, none⟩ = false := HQ.out.frozen 0 rfl 0
                have hf4 : (wr.drewN nq).frozen? ⟨w.heap.size + 1, 1, none⟩ = false := HQ.out.frozen 0 rfl 1
                go_wp2_with fail
                have hO7 := (HQ.out.store 0 rfl 0 (.string { data := #[] })).store 0 rfl 1 (.int .i64 14)
                exact bodyPost_ret (v := .agg #[.string { data := #[] }, .int .i64 14]) (by simp [results, Tryd.results21, go_sem, hc3, hc4]) rfl ⟨by rw [HB9.out, HDS.out _ HB9.out (by decide)]; rfl, HX.out.1.trans hO7.ext⟩
            · have hin : Cd.inS m j = false := by unfold Cd.inS; simp [hb]
              have HIN := Lib.hid (And.intro hin hb)
              clear hin hb
              go_wp2_with fail
              refine (rIn_any m j _ hm24 (by omega)).mono ?_
              rintro e w7 ⟨rfl, rfl⟩
              rw [HIN.out.1]
              go_wp2_with fail
              go_quiet (fail)
              go_wp2_with fail
              clear hcA hcP hcV
              go_roundw
              case rel => exact ⟨j + 1, by omega, by go_num, Lib.hid (And.intro (by first | exact HJ.out.1.drewN _ | exact HJ.out.1) (And.intro HJ.out.2.1 fun i hi hbi => by
                by_cases hij : i = j
                · rw [hij] at hbi; exact absurd hbi HIN.out.2
                · exact HJ.out.2.2 i (by omega) hbi))⟩
              case measure => simp [intOf]; omega
          · obtain rfl : j = k := by omega
            have hans := HCN.out.2.2 HJ.out.2.2
            have HB9 := Lib.hid hans
            have hsl := HSL.out.1
            have b2 : n ≤ ds.length := by
              rw [HSL.out.2.2.2]
              have h9 := HEL.out.2.2
              rw [← HSL.out.2.2.1, List.length_take, HSL.out.2.2.2] at h9
              omega
            have hext : (sb ds).extract 0 n = sb xs := by rw [extract_take, HSL.out.2.2.1]
            clear hans hsl
            have hc3 : wr.cell? ⟨w.heap.size + 1, 0, none⟩ = some (.string { data := #[] }) := HJ.out.1.cell 0 rfl 0 rfl
            have hc4 : wr.cell? ⟨w.heap.size + 1, 1, none⟩ = some (.int .i64 0) := HJ.out.1.cell 0 rfl 1 rfl
            have hf3 : wr.frozen? ⟨w.heap.size + 1, 0, none⟩ = false := HJ.out.1.frozen 0 rfl 0
            have hf4 : wr.frozen? ⟨w.heap.size + 1, 1, none⟩ = false := HJ.out.1.frozen 0 rfl 1
            go_wp2_with fail
            have hO7 := (HJ.out.1.store 0 rfl 0 (.string (sb xs))).store 0 rfl 1 (.int .i64 0)
            exact bodyPost_ret (v := .agg #[.string (sb xs), .int .i64 0]) (by simp [results, Tryd.results21, go_sem, hc3, hc4]) rfl ⟨by rw [HB9.out.1, HB9.out.2], HX.out.1.trans hO7.ext⟩
theorem rDecode_any (d gl n m : Int) (gs : List (List Int)) (pieces : List (List UInt8)) (G : Value) (PA : Option Addr) (pl cp : Nat) (w : World) (hG : Rs (Rs RI) w G gs) (hgn : gs.length ≤ 1000000) (hP : Rs RS w (.slice PA pl cp) pieces) :
    Calls Tryd.prog 21 #[.agg #[.int .i64 d, G, .int .i64 gl], .int .i64 n, .int .i64 m, .slice PA pl cp] w fun e w' => e = .returned (.agg #[.string (sb (Cd.decS d gl gs n m pieces)), .int .i64 (Cd.decE d gl gs n m pieces)]) ∧ Ext w w' := by
  by_cases h0 : Cd.check d gs gl = 0
  · cases hb : Cd.badArgs d gl gs n m pieces with
    | true =>
      have he := Cd.decE_arg h0 hb
      rw [Cd.decS_no (by rw [he]; decide), he]
      exact rDecode_arg d gl n m gs pieces G PA pl cp w hG h0 hgn hP.len.symm hb
    | false =>
      have hk := Cd.check_ok h0
      have hb2 := hb
      unfold Cd.badArgs at hb2
      rw [decide_eq_false_iff_not] at hb2
      obtain ⟨d', rfl⟩ : ∃ k : Nat, d = k := ⟨d.toNat, by omega⟩
      obtain ⟨gl', rfl⟩ : ∃ k : Nat, gl = k := ⟨gl.toNat, by omega⟩
      obtain ⟨n', rfl⟩ : ∃ k : Nat, n = k := ⟨n.toNat, by omega⟩
      obtain ⟨m', rfl⟩ : ∃ k : Nat, m = k := ⟨m.toNat, by omega⟩
      exact rDecode_in d' gl' n' m' gs pieces G PA pl cp w hG h0 hb hP
  · have he := Cd.decE_no (n := n) (m := m) (pieces := pieces) h0
    rw [Cd.decS_no (by rw [he]; exact h0), he]
    exact rDecode_no d gl n m gs G _ w hG h0 hgn
end Go.Proofs.YtgkohfmgdejkpaaDoor

/- THE WALK over CodeDecodesAsSpecified: its drawn region. -/
namespace Go.Proofs.YtgkohfmgdejkpaaDoor
open Go.RowKit
theorem ent8_sane : ∀ args w, (callFunc 7 args).run Tryd.prog w = .ok (.enter 7 args) w := enters_of Tryd.func7 (by kernel_rfl) rfl
theorem ent8_crec : ∀ args w, (callFunc 22 args).run Tryd.prog w = .ok (.enter 22 args) w := enters_of Tryd.func22 (by kernel_rfl) rfl
theorem ent8_rrec : ∀ args w, (callFunc 23 args).run Tryd.prog w = .ok (.enter 23 args) w := enters_of Tryd.func23 (by kernel_rfl) rfl
noncomputable def dec_last_code : Code := ((Tryd.f4.body.bind (regionOf 13)).getD .skip)
def dec_last_dsts : List (Option Nat) := [some 53, some 54, some 55, some 56, some 57, some 58, some 59, some 60, some 61, some 62, some 63, some 64, some 65, some 66, some 67, some 68, some 69, some 70, some 71, some 72, some 73, some 74, some 6]
theorem dec_last_apart : apartD dec_last_dsts = true := by decide +kernel
set_option maxRecDepth 1000000 in
set_option maxHeartbeats 16000000 in
theorem dec_last (B P c : Nat) (d gl m E : Int) (Sx : ByteArray) (gs : List (List Int)) (A : Option Addr) (wr : World) (hgn : gs.length ≤ 1000000) (HT : Hid (Tab wr)) (h0 : wr.cell? ⟨B, 0, none⟩ = some (.int .i64 d)) (h1 : wr.cell? ⟨B, 1, none⟩ = some (.slice A gs.length c)) (h2 : wr.cell? ⟨B, 2, none⟩ = some (.int .i64 gl)) (p0 : wr.cell? ⟨P, 0, none⟩ = some (.string Sx)) (p1 : wr.cell? ⟨P, 1, none⟩ = some (.int .i64 E)) (HG : Hid (Rs (Rs RI) wr (.slice A gs.length c) gs)) (c0 c1 c2 c4 c5 c6 c7 c8 c9 c10 c15 c16 c17 c18 c19 c20 c21 c22 c23 c24 c25 c26 c27 c28 c29 c30 c31 c32 c33 c34 c35 c36 c37 c38 c39 c40 c41 c42 c43 c44 c45 c46 c47 c48 c49 c50 c51 c52 c53 c54 c55 c56 c57 c58 c59 c60 c61 c62 c63 c64 c65 c66 c67 c68 c69 c70 c71 c72 c73 c74 : Value) (df : List Deferred) (K : Act → World → Prop)
    (hK : ∀  (u53 u54 u55 u56 u57 u58 u59 u60 u61 u62 u63 u64 u65 u66 u67 u68 u69 u70 u71 u72 u73 u74 : Value) (wx : World), Ext wr wx → K ⟨#[c0, c1, c2, .pointer (some ⟨B, 0, none⟩), c4, c5, .bool true, c7, c8, c9, c10, .int .i64 m, .string Sx, .int .i64 E, .pointer (some ⟨P, 0, none⟩), c15, c16, c17, c18, c19, c20, c21, c22, c23, c24, c25, c26, c27, c28, c29, c30, c31, c32, c33, c34, c35, c36, c37, c38, c39, c40, c41, c42, c43, c44, c45, c46, c47, c48, c49, c50, c51, c52, u53, u54, u55, u56, u57, u58, u59, u60, u61, u62, u63, u64, u65, u66, u67, u68, u69, u70, u71, u72, u73, u74], df⟩ wx) :
    Code.wp Tryd.prog dec_last_code (AtEnd K) ⟨#[c0, c1, c2, .pointer (some ⟨B, 0, none⟩), c4, c5, c6, c7, c8, c9, c10, .int .i64 m, .string Sx, .int .i64 E, .pointer (some ⟨P, 0, none⟩), c15, c16, c17, c18, c19, c20, c21, c22, c23, c24, c25, c26, c27, c28, c29, c30, c31, c32, c33, c34, c35, c36, c37, c38, c39, c40, c41, c42, c43, c44, c45, c46, c47, c48, c49, c50, c51, c52, c53, c54, c55, c56, c57, c58, c59, c60, c61, c62, c63, c64, c65, c66, c67, c68, c69, c70, c71, c72, c73, c74], df⟩ wr := by
  conv => arg 2; whnf
  refine region_inv (by kernel_rfl) [[], [0, 0], [1], [1], [2, 3, 1, 1], [1], [1], [5, 6, 4, 1], [4, 7, 1], [1, 8], [9, 7], [10], [10], [12, 10], [11, 13, 10], [10, 14], [15, 10], [16], [16], [18, 16], [17, 19, 16], [16, 20], [21, 16, 0, 1, 2, 3, 4, 5, 6, 7, 8, 9, 10, 11, 12, 13, 14, 15, 16, 17, 18, 19, 20, 21]] (by kernel_rfl) [0, 1, 2, 3, 4, 5, 6, 7, 8, 9, 10, 11, 12, 13, 14, 15, 16, 17, 18, 19, 20, 21, 22] (by decide +kernel) (by decide +kernel) (by decide +kernel) (fun L a wc => Inv dec_last_dsts [.bool true, .bool true, .agg #[.int .i64 d, .slice A gs.length c, .int .i64 gl], .int .i64 m, .bool (Cd.can d gl gs m), .agg #[.int .i64 d, .slice A gs.length c, .int .i64 gl], .int .i64 m, .bool (Cd.can d gl gs m), .bool true, .bool true, .bool true, .string Sx, .pointer (some ⟨P, 0, none⟩), .string Sx, .bool true, .bool true, .bool true, .int .i64 E, .pointer (some ⟨P, 1, none⟩), .int .i64 E, .bool true, .bool true, .bool true] ⟨#[c0, c1, c2, .pointer (some ⟨B, 0, none⟩), c4, c5, c6, c7, c8, c9, c10, .int .i64 m, .string Sx, .int .i64 E, .pointer (some ⟨P, 0, none⟩), c15, c16, c17, c18, c19, c20, c21, c22, c23, c24, c25, c26, c27, c28, c29, c30, c31, c32, c33, c34, c35, c36, c37, c38, c39, c40, c41, c42, c43, c44, c45, c46, c47, c48, c49, c50, c51, c52, c53, c54, c55, c56, c57, c58, c59, c60, c61, c62, c63, c64, c65, c66, c67, c68, c69, c70, c71, c72, c73, c74], df⟩ L a ∧ Hid (Ext wr wc)) ⟨Inv.start, Lib.hid ((Ext.refl wr).drew)⟩ ?_ ?_
  · refine ⟨?_, ?_, ?_, ?_, ?_, ?_, ?_, ?_, ?_, ?_, ?_, ?_, ?_, ?_, ?_, ?_, ?_, ?_, ?_, ?_, ?_, ?_, ?_, trivial⟩
    · -- 0 call
      rintro L a wc ⟨hv, HO⟩ hL hc hd
      refine wpOp_call (R := fun v w1 => v = .bool true ∧ Ext wc w1) rfl rfl (ex_call rfl rfl map0c (ent8_sane _ _)) ((sanity_any wc (HT.out.ext HO.out)).mono (fun e w' h => ⟨_, h.1, rfl, h.2⟩)) ?_
      rintro v w' ⟨rfl, hx⟩
      exact ⟨hv.put dec_last_apart 0 rfl (Nat.le_of_ble_eq_true rfl) (Nat.le_of_ble_eq_true rfl) rfl, Lib.hid (HO.out.trans hx)⟩
    · -- 1 move
      rintro L a wc ⟨hv, HO⟩ hL hc hd
      exact wpOp_val rfl rfl (ex_move rfl (hv.get 0 rfl rfl (hd 0 (by decide)))) ⟨hv.put dec_last_apart 1 rfl (Nat.le_of_ble_eq_true rfl) (Nat.le_of_ble_eq_true rfl) rfl, HO⟩
    · -- 2 load
      rintro L a wc ⟨hv, HO⟩ hL hc hd
      have e0 : wc.cell? ⟨B, 0, none⟩ = some (.int .i64 d) := HO.out.cell h0
      have e1 : wc.cell? ⟨B, 1, none⟩ = some (.slice A gs.length c) := HO.out.cell h1
      have e2 : wc.cell? ⟨B, 2, none⟩ = some (.int .i64 gl) := HO.out.cell h2
      exact wpOp_val rfl ((wanted_at rfl rfl (hv.get 1 rfl rfl (hd 1 (by decide)))).trans rfl) (ex_load rfl ((hv.fixed 3 (by decide)).trans rfl) (by go_simp)) ⟨hv.put dec_last_apart 2 rfl (Nat.le_of_ble_eq_true rfl) (Nat.le_of_ble_eq_true rfl) rfl, HO⟩
    · -- 3 move
      rintro L a wc ⟨hv, HO⟩ hL hc hd
      exact wpOp_val rfl ((wanted_at rfl rfl (hv.get 1 rfl rfl (hd 1 (by decide)))).trans rfl) (ex_move rfl ((hv.fixed 11 (by decide)).trans rfl)) ⟨hv.put dec_last_apart 3 rfl (Nat.le_of_ble_eq_true rfl) (Nat.le_of_ble_eq_true rfl) rfl, HO⟩
    · -- 4 call
      rintro L a wc ⟨hv, HO⟩ hL hc hd
      refine wpOp_callw (R := fun v w1 => v = .bool (Cd.can d gl gs m) ∧ Ext wc w1) rfl ((wanted_at rfl rfl (hv.get 1 rfl rfl (hd 1 (by decide)))).trans rfl) (ex_call rfl rfl (map2c (hv.get 2 rfl rfl (hd 2 (by decide))) (hv.get 3 rfl rfl (hd 3 (by decide)))) (ent8_crec _ _)) ((cRec_any d gl m gs (.slice A gs.length c) wc (HT.out.ext HO.out) (Rs.ext (Rs.ext RI.ext) _ _ _ _ HO.out HG.out)).mono (fun e w' h => ⟨_, h.1, rfl, h.2⟩)) ?_
      rintro v w' ⟨rfl, hx⟩
      exact ⟨hv.put dec_last_apart 4 rfl (Nat.le_of_ble_eq_true rfl) (Nat.le_of_ble_eq_true rfl) rfl, Lib.hid (HO.out.trans hx)⟩
    · -- 5 load
      rintro L a wc ⟨hv, HO⟩ hL hc hd
      have e0 : wc.cell? ⟨B, 0, none⟩ = some (.int .i64 d) := HO.out.cell h0
      have e1 : wc.cell? ⟨B, 1, none⟩ = some (.slice A gs.length c) := HO.out.cell h1
      have e2 : wc.cell? ⟨B, 2, none⟩ = some (.int .i64 gl) := HO.out.cell h2
      exact wpOp_val rfl ((wanted_at rfl rfl (hv.get 1 rfl rfl (hd 1 (by decide)))).trans rfl) (ex_load rfl ((hv.fixed 3 (by decide)).trans rfl) (by go_simp)) ⟨hv.put dec_last_apart 5 rfl (Nat.le_of_ble_eq_true rfl) (Nat.le_of_ble_eq_true rfl) rfl, HO⟩
    · -- 6 move
      rintro L a wc ⟨hv, HO⟩ hL hc hd
      exact wpOp_val rfl ((wanted_at rfl rfl (hv.get 1 rfl rfl (hd 1 (by decide)))).trans rfl) (ex_move rfl ((hv.fixed 11 (by decide)).trans rfl)) ⟨hv.put dec_last_apart 6 rfl (Nat.le_of_ble_eq_true rfl) (Nat.le_of_ble_eq_true rfl) rfl, HO⟩
    · -- 7 call
      rintro L a wc ⟨hv, HO⟩ hL hc hd
      refine wpOp_callw (R := fun v w1 => v = .bool (Cd.can d gl gs m) ∧ Ext wc w1) rfl ((wanted_at rfl rfl (hv.get 1 rfl rfl (hd 1 (by decide)))).trans rfl) (ex_call rfl rfl (map2c (hv.get 5 rfl rfl (hd 5 (by decide))) (hv.get 6 rfl rfl (hd 6 (by decide)))) (ent8_rrec _ _)) ((rRec_any d gl m gs (.slice A gs.length c) wc (Rs.ext (Rs.ext RI.ext) _ _ _ _ HO.out HG.out) hgn).mono (fun e w' h => ⟨_, h.1, rfl, h.2⟩)) ?_
      rintro v w' ⟨rfl, hx⟩
      exact ⟨hv.put dec_last_apart 7 rfl (Nat.le_of_ble_eq_true rfl) (Nat.le_of_ble_eq_true rfl) rfl, Lib.hid (HO.out.trans hx)⟩
    · -- 8 bin
      rintro L a wc ⟨hv, HO⟩ hL hc hd
      have h : (Cd.can d gl gs m == Cd.can d gl gs m) = true := by simp
      exact wpOp_val rfl ((wanted_at rfl rfl (hv.get 1 rfl rfl (hd 1 (by decide)))).trans rfl) (ex_bin rfl (hv.get 4 rfl rfl (hd 4 (by decide))) (hv.get 7 rfl rfl (hd 7 (by decide))) (by go_simp)) ⟨hv.put dec_last_apart 8 rfl (Nat.le_of_ble_eq_true rfl) (Nat.le_of_ble_eq_true rfl) rfl, HO⟩
    · -- 9 pick
      rintro L a wc ⟨hv, HO⟩ hL hc hd
      exact wpOp_val rfl rfl (ex_pick rfl (hv.get 1 rfl rfl (hd 1 (by decide))) ((if_pos rfl).trans (hv.get 8 rfl rfl (hd 8 (by decide))))) ⟨hv.put dec_last_apart 9 rfl (Nat.le_of_ble_eq_true rfl) (Nat.le_of_ble_eq_true rfl) rfl, HO⟩
    · -- 10 move
      rintro L a wc ⟨hv, HO⟩ hL hc hd
      exact wpOp_val rfl rfl (ex_move rfl (hv.get 9 rfl rfl (hd 9 (by decide)))) ⟨hv.put dec_last_apart 10 rfl (Nat.le_of_ble_eq_true rfl) (Nat.le_of_ble_eq_true rfl) rfl, HO⟩
    · -- 11 move
      rintro L a wc ⟨hv, HO⟩ hL hc hd
      exact wpOp_val rfl ((wanted_at rfl rfl (hv.get 10 rfl rfl (hd 10 (by decide)))).trans rfl) (ex_move rfl ((hv.fixed 12 (by decide)).trans rfl)) ⟨hv.put dec_last_apart 11 rfl (Nat.le_of_ble_eq_true rfl) (Nat.le_of_ble_eq_true rfl) rfl, HO⟩
    · -- 12 field
      rintro L a wc ⟨hv, HO⟩ hL hc hd
      exact wpOp_val rfl ((wanted_at rfl rfl (hv.get 10 rfl rfl (hd 10 (by decide)))).trans rfl) (ex_field rfl ((hv.fixed 14 (by decide)).trans rfl) (by go_simp)) ⟨hv.put dec_last_apart 12 rfl (Nat.le_of_ble_eq_true rfl) (Nat.le_of_ble_eq_true rfl) rfl, HO⟩
    · -- 13 load
      rintro L a wc ⟨hv, HO⟩ hL hc hd
      have e0 : wc.cell? ⟨P, 0, none⟩ = some (.string Sx) := HO.out.cell p0
      exact wpOp_val rfl ((wanted_at rfl rfl (hv.get 10 rfl rfl (hd 10 (by decide)))).trans rfl) (ex_load rfl (hv.get 12 rfl rfl (hd 12 (by decide))) (by go_simp)) ⟨hv.put dec_last_apart 13 rfl (Nat.le_of_ble_eq_true rfl) (Nat.le_of_ble_eq_true rfl) rfl, HO⟩
    · -- 14 bin
      rintro L a wc ⟨hv, HO⟩ hL hc hd
      have h : (Sx.toList == Sx.toList) = true := by simp
      exact wpOp_val rfl ((wanted_at rfl rfl (hv.get 10 rfl rfl (hd 10 (by decide)))).trans rfl) (ex_bin rfl (hv.get 11 rfl rfl (hd 11 (by decide))) (hv.get 13 rfl rfl (hd 13 (by decide))) (by go_simp)) ⟨hv.put dec_last_apart 14 rfl (Nat.le_of_ble_eq_true rfl) (Nat.le_of_ble_eq_true rfl) rfl, HO⟩
    · -- 15 pick
      rintro L a wc ⟨hv, HO⟩ hL hc hd
      exact wpOp_val rfl rfl (ex_pick rfl (hv.get 10 rfl rfl (hd 10 (by decide))) ((if_pos rfl).trans (hv.get 14 rfl rfl (hd 14 (by decide))))) ⟨hv.put dec_last_apart 15 rfl (Nat.le_of_ble_eq_true rfl) (Nat.le_of_ble_eq_true rfl) rfl, HO⟩
    · -- 16 move
      rintro L a wc ⟨hv, HO⟩ hL hc hd
      exact wpOp_val rfl rfl (ex_move rfl (hv.get 15 rfl rfl (hd 15 (by decide)))) ⟨hv.put dec_last_apart 16 rfl (Nat.le_of_ble_eq_true rfl) (Nat.le_of_ble_eq_true rfl) rfl, HO⟩
    · -- 17 move
      rintro L a wc ⟨hv, HO⟩ hL hc hd
      exact wpOp_val rfl ((wanted_at rfl rfl (hv.get 16 rfl rfl (hd 16 (by decide)))).trans rfl) (ex_move rfl ((hv.fixed 13 (by decide)).trans rfl)) ⟨hv.put dec_last_apart 17 rfl (Nat.le_of_ble_eq_true rfl) (Nat.le_of_ble_eq_true rfl) rfl, HO⟩
    · -- 18 field
      rintro L a wc ⟨hv, HO⟩ hL hc hd
      exact wpOp_val rfl ((wanted_at rfl rfl (hv.get 16 rfl rfl (hd 16 (by decide)))).trans rfl) (ex_field rfl ((hv.fixed 14 (by decide)).trans rfl) (by go_simp)) ⟨hv.put dec_last_apart 18 rfl (Nat.le_of_ble_eq_true rfl) (Nat.le_of_ble_eq_true rfl) rfl, HO⟩
    · -- 19 load
      rintro L a wc ⟨hv, HO⟩ hL hc hd
      have e0 : wc.cell? ⟨P, 1, none⟩ = some (.int .i64 E) := HO.out.cell p1
      exact wpOp_val rfl ((wanted_at rfl rfl (hv.get 16 rfl rfl (hd 16 (by decide)))).trans rfl) (ex_load rfl (hv.get 18 rfl rfl (hd 18 (by decide))) (by go_simp)) ⟨hv.put dec_last_apart 19 rfl (Nat.le_of_ble_eq_true rfl) (Nat.le_of_ble_eq_true rfl) rfl, HO⟩
    · -- 20 bin
      rintro L a wc ⟨hv, HO⟩ hL hc hd
      have h : (E == E) = true := by simp
      exact wpOp_val rfl ((wanted_at rfl rfl (hv.get 16 rfl rfl (hd 16 (by decide)))).trans rfl) (ex_bin rfl (hv.get 17 rfl rfl (hd 17 (by decide))) (hv.get 19 rfl rfl (hd 19 (by decide))) (by go_simp)) ⟨hv.put dec_last_apart 20 rfl (Nat.le_of_ble_eq_true rfl) (Nat.le_of_ble_eq_true rfl) rfl, HO⟩
    · -- 21 pick
      rintro L a wc ⟨hv, HO⟩ hL hc hd
      exact wpOp_val rfl rfl (ex_pick rfl (hv.get 16 rfl rfl (hd 16 (by decide))) ((if_pos rfl).trans (hv.get 20 rfl rfl (hd 20 (by decide))))) ⟨hv.put dec_last_apart 21 rfl (Nat.le_of_ble_eq_true rfl) (Nat.le_of_ble_eq_true rfl) rfl, HO⟩
    · -- 22 assign
      rintro L a wc ⟨hv, HO⟩ hL hc hd
      exact wpOp_val rfl rfl (ex_assign rfl (hv.get 21 rfl rfl (hd 21 (by decide)))) ⟨hv.put dec_last_apart 22 rfl (Nat.le_of_ble_eq_true rfl) (Nat.le_of_ble_eq_true rfl) rfl, HO⟩
  · rintro L a wc ⟨hv, HO⟩ hall
    show K a wc
    have ha := act_lit a
    rw [hv.size, hv.defers] at ha
    have hl : ∀ f : Nat → Value, ((List.range (⟨#[c0, c1, c2, .pointer (some ⟨B, 0, none⟩), c4, c5, c6, c7, c8, c9, c10, .int .i64 m, .string Sx, .int .i64 E, .pointer (some ⟨P, 0, none⟩), c15, c16, c17, c18, c19, c20, c21, c22, c23, c24, c25, c26, c27, c28, c29, c30, c31, c32, c33, c34, c35, c36, c37, c38, c39, c40, c41, c42, c43, c44, c45, c46, c47, c48, c49, c50, c51, c52, c53, c54, c55, c56, c57, c58, c59, c60, c61, c62, c63, c64, c65, c66, c67, c68, c69, c70, c71, c72, c73, c74], df⟩ : Act).tmps.size).map f).toArray = #[f 0, f 1, f 2, f 3, f 4, f 5, f 6, f 7, f 8, f 9, f 10, f 11, f 12, f 13, f 14, f 15, f 16, f 17, f 18, f 19, f 20, f 21, f 22, f 23, f 24, f 25, f 26, f 27, f 28, f 29, f 30, f 31, f 32, f 33, f 34, f 35, f 36, f 37, f 38, f 39, f 40, f 41, f 42, f 43, f 44, f 45, f 46, f 47, f 48, f 49, f 50, f 51, f 52, f 53, f 54, f 55, f 56, f 57, f 58, f 59, f 60, f 61, f 62, f 63, f 64, f 65, f 66, f 67, f 68, f 69, f 70, f 71, f 72, f 73, f 74] := fun _ => rfl
    rw [hl] at ha
    simp only [hv.fixed 0 (by decide), hv.fixed 1 (by decide), hv.fixed 2 (by decide), hv.fixed 3 (by decide), hv.fixed 4 (by decide), hv.fixed 5 (by decide), hv.fixed 7 (by decide), hv.fixed 8 (by decide), hv.fixed 9 (by decide), hv.fixed 10 (by decide), hv.fixed 11 (by decide), hv.fixed 12 (by decide), hv.fixed 13 (by decide), hv.fixed 14 (by decide), hv.fixed 15 (by decide), hv.fixed 16 (by decide), hv.fixed 17 (by decide), hv.fixed 18 (by decide), hv.fixed 19 (by decide), hv.fixed 20 (by decide), hv.fixed 21 (by decide), hv.fixed 22 (by decide), hv.fixed 23 (by decide), hv.fixed 24 (by decide), hv.fixed 25 (by decide), hv.fixed 26 (by decide), hv.fixed 27 (by decide), hv.fixed 28 (by decide), hv.fixed 29 (by decide), hv.fixed 30 (by decide), hv.fixed 31 (by decide), hv.fixed 32 (by decide), hv.fixed 33 (by decide), hv.fixed 34 (by decide), hv.fixed 35 (by decide), hv.fixed 36 (by decide), hv.fixed 37 (by decide), hv.fixed 38 (by decide), hv.fixed 39 (by decide), hv.fixed 40 (by decide), hv.fixed 41 (by decide), hv.fixed 42 (by decide), hv.fixed 43 (by decide), hv.fixed 44 (by decide), hv.fixed 45 (by decide), hv.fixed 46 (by decide), hv.fixed 47 (by decide), hv.fixed 48 (by decide), hv.fixed 49 (by decide), hv.fixed 50 (by decide), hv.fixed 51 (by decide), hv.fixed 52 (by decide), hv.get 22 (d := 6) rfl rfl (hall 22 (by decide))] at ha
    rw [ha]
    exact hK _ _ _ _ _ _ _ _ _ _ _ _ _ _ _ _ _ _ _ _ _ _ wc HO.out
end Go.Proofs.YtgkohfmgdejkpaaDoor

/- THE WALK over CodeDecodesAsSpecified. -/
namespace Go.Proofs.YtgkohfmgdejkpaaDoor
open Go.RowKit
theorem two_cells {w w2 : World} {d gl a0 a1 : Int} {n c : Nat} {A : Option Addr} (hx : Ext ((w.alloc (.cells #[.int .i64 d, .slice A n c, .int .i64 gl] 24)).alloc (.cells #[.int .i64 a0, .int .i64 a1] 44)) w2) :
    (w2.cell? ⟨w.heap.size, 0, none⟩ = some (.int .i64 d) ∧ w2.cell? ⟨w.heap.size, 1, none⟩ = some (.slice A n c) ∧ w2.cell? ⟨w.heap.size, 2, none⟩ = some (.int .i64 gl)) ∧ w2.cell? ⟨w.heap.size + 1, 0, none⟩ = some (.int .i64 a0) ∧ w2.cell? ⟨w.heap.size + 1, 1, none⟩ = some (.int .i64 a1) :=
  ⟨⟨hx.cell (by go_simp), hx.cell (by go_simp), hx.cell (by go_simp)⟩, hx.cell (by go_simp), hx.cell (by go_simp)⟩
set_option maxRecDepth 100000 in
set_option maxHeartbeats 8000000 in
theorem decs_walk (d gl n m : Int) (gs : List (List Int)) (pieces : List (List UInt8)) (G : Value) (PA : Option Addr) (pl cp : Nat) (w : World) (hT : Tab w) (hG : Rs (Rs RI) w G gs) (hP : Rs RS w (.slice PA pl cp) pieces) (hlm : ∀ q ∈ pieces, q.length ≤ 9223372036854775807) :
    Calls Tryd.prog 4 #[.agg #[.int .i64 d, G, .int .i64 gl], .agg #[.int .i64 n, .int .i64 m], .slice PA pl cp] w fun e w' => e = .returned (.bool true) ∧ Ext w w' := by
  obtain ⟨A, c, rfl, hgl⟩ := hG.form
  have hpl := hP.len.symm
  have hpm : pl ≤ 9223372036854775807 := by
    obtain ⟨_, _, _, h3⟩ := hP.form
    omega
  have hx := (((Ext.refl w).alloc (.cells #[.int .i64 d, .slice A gs.length c, .int .i64 gl] 24)).alloc (.cells #[.int .i64 n, .int .i64 m] 44))
  have HG := Lib.hid (Rs.ext (Rs.ext RI.ext) _ _ _ _ hx hG)
  have HPS := Lib.hid (Rs.ext RS.ext _ _ _ _ hx hP)
  have HT := Lib.hid hT
  have HX := Lib.hid hx
  have HPL := Lib.hid (And.intro hpl hlm)
  clear hG hT hx hP hpl hlm
  cases hf : Cd.few gs 20 with
  | false =>
    have HF := Lib.hid hf
    clear hf
    go_enter Tryd.func4, Tryd.ntmps4
    go_wp2_with fail
    refine (rFew_any d gl gs 20 _ _ HG.out (by omega)).mono ?_
    rintro e w2 ⟨rfl, hx2⟩
    rw [HF.out]
    have HX2 := Lib.hid (HX.out.trans hx2)
    clear hx2
    go_wp2_with fail
    refine (sanity_any _ (HT.out.ext HX2.out)).mono ?_
    rintro e w3 ⟨rfl, hx3⟩
    go_wp2_with fail
    go_ret
    exact ⟨rfl, HX2.out.trans hx3⟩
  | true =>
    have HF := Lib.hid hf
    have hgn : gs.length ≤ 1000000 := by have := Cd.few_len hf; omega
    clear hf
    by_cases h30 : 30 < pl
    · go_enter Tryd.func4, Tryd.ntmps4
      go_wp2_with fail
      refine (rFew_any d gl gs 20 _ _ HG.out (by omega)).mono ?_
      rintro e w2 ⟨rfl, hx2⟩
      rw [HF.out]
      have HX2 := Lib.hid (HX.out.trans hx2)
      clear hx2
      go_wp2_with fail
      refine (sanity_any _ (HT.out.ext HX2.out)).mono ?_
      rintro e w3 ⟨rfl, hx3⟩
      go_wp2_with fail
      go_ret
      exact ⟨rfl, HX2.out.trans hx3⟩
    · go_enter Tryd.func4, Tryd.ntmps4
      go_wp2_with fail
      refine (rFew_any d gl gs 20 _ _ HG.out (by omega)).mono ?_
      rintro e w2 ⟨rfl, hx2⟩
      rw [HF.out]
      have HX2 := Lib.hid hx2
      clear hx2
      go_wp2_with fail
      go_loop [27] (fun vi => ∃ i : Nat, i ≤ pl ∧ vi = .int .i64 i ∧ Hid (∀ j, j < i → (pieces.getD j []).length ≤ 30)) (fun vi => pl - (intOf vi).toNat)
      case atStart => exact ⟨0, Nat.zero_le _, rfl, Lib.hid fun j hj => absurd hj (Nat.not_lt_zero j)⟩
      case round =>
        obtain ⟨i, hi, rfl, HI⟩ := hrel
        by_cases hil : i < pl
        · obtain ⟨bP, u, rfl, hcP, hu⟩ := (Rs.ext RS.ext _ _ _ _ HX2.out HPS.out).at (i := i) (by rw [HPL.out.1]; exact hil)
          unfold RS at hu
          subst hu
          have hgp := getD_get (x := ([] : List UInt8)) (l := pieces) (i := i) (by rw [HPL.out.1]; exact hil)
          have hmx := HPL.out.2 _ (List.getElem_mem (l := pieces) (n := i) (by rw [HPL.out.1]; exact hil))
          obtain ⟨pk, hpk⟩ : ∃ pk, pieces[i]'(by rw [HPL.out.1]; exact hil) = pk := ⟨_, rfl⟩
          rw [hpk] at hgp hcP hmx
          have HGP := Lib.hid hgp
          clear hgp hpk
          by_cases hl : 30 < pk.length
          · go_wp2_with fail
            refine (sanity_any _ (HT.out.ext (HX.out.trans HX2.out))).mono ?_
            rintro e w3 ⟨rfl, hx3⟩
            go_wp2_with fail
            go_ret
            exact ⟨rfl, HX.out.trans (HX2.out.trans hx3)⟩
          · go_wp2_with fail
            go_round
            case rel => exact ⟨i + 1, by omega, by go_num, Lib.hid fun j hj => by
              by_cases hji : j = i
              · rw [hji, HGP.out]; omega
              · exact HI.out j (by omega)⟩
            case measure => simp [intOf]; omega
        · obtain rfl : i = pl := by omega
          obtain ⟨⟨c0, c1, c2⟩, a0, a1⟩ := two_cells HX2.out
          have hpq : ∀ q ∈ pieces, q.length ≤ 140737488351232 := fun q hq => by
            obtain ⟨j, hj, rfl⟩ := List.getElem_of_mem hq
            have h1 := HI.out j (by rw [← HPL.out.1]; exact hj)
            rw [getD_get hj] at h1
            omega
          have HPQ := Lib.hid hpq
          obtain rfl : pieces.length = i := HPL.out.1
          clear hpq c0 c1 c2
          go_wp2_with fail
          go_quiet (fail)
          have HX3 := Lib.hid (HX2.out.drewN nq)
          obtain ⟨⟨c0, c1, c2⟩, b0, b1⟩ := two_cells HX3.out
          clear a0 a1 b0 b1
          go_wp2_with fail
          clear c0 c1 c2
          refine (cDecode_any d gl n m gs pieces _ PA cp _ (HT.out.ext (HX.out.trans HX3.out)) (Rs.ext (Rs.ext RI.ext) _ _ _ _ HX3.out HG.out) (Rs.ext RS.ext _ _ _ _ HX3.out HPS.out) HPQ.out).mono ?_
          rintro e w4 ⟨rfl, hx4⟩
          have HX4 := Lib.hid (HX3.out.trans hx4)
          obtain ⟨⟨c0, c1, c2⟩, b0, b1⟩ := two_cells HX4.out
          clear hx4 b0 b1
          go_wp2_with fail
          clear c0 c1 c2
          refine (rDecode_any d gl n m gs pieces _ PA _ cp _ (Rs.ext (Rs.ext RI.ext) _ _ _ _ HX4.out HG.out) hgn (Rs.ext RS.ext _ _ _ _ HX4.out HPS.out)).mono ?_
          rintro e w5 ⟨rfl, hx5⟩
          obtain ⟨Sx, hSx⟩ : ∃ Sx, sb (Cd.decS d gl gs n m pieces) = Sx := ⟨_, rfl⟩
          obtain ⟨E, hE⟩ : ∃ E, Cd.decE d gl gs n m pieces = E := ⟨_, rfl⟩
          rw [hE]
          have hx6 := (Ext.refl w5).alloc (.cells #[.string Sx, .int .i64 E] 48)
          have HX6 := Lib.hid ((HX4.out.trans hx5).trans hx6)
          have HX5 := Lib.hid (HX4.out.trans hx5)
          obtain ⟨⟨c0, c1, c2⟩, b0, b1⟩ := two_cells HX6.out
          have HC6 := Lib.hid (And.intro c0 (And.intro c1 c2))
          clear hx5 hx6 b0 b1 c0 c1 c2
          go_upto_region 13 with fail
          refine wp_atEnd (dec_last w.heap.size w5.heap.size c d gl m E Sx gs A _ hgn (Lib.hid (HT.out.ext (HX.out.trans HX6.out))) HC6.out.1 HC6.out.2.1 HC6.out.2.2 (by go_simp) (by go_simp) (Lib.hid (Rs.ext (Rs.ext RI.ext) _ _ _ _ HX6.out HG.out)) _ _ _ _ _ _ _ _ _ _ _ _ _ _ _ _ _ _ _ _ _ _ _ _ _ _ _ _ _ _ _ _ _ _ _ _ _ _ _ _ _ _ _ _ _ _ _ _ _ _ _ _ _ _ _ _ _ _ _ _ _ _ _ _ _ _ _ _ _ _ _ _ ?_)
          intros
          rename_i w8 hx8
          have HX8 := Lib.hid (HX6.out.trans hx8)
          clear hx8
          go_wp2_with fail
          go_ret
          exact ⟨rfl, HX.out.trans HX8.out⟩
end Go.Proofs.YtgkohfmgdejkpaaDoor

