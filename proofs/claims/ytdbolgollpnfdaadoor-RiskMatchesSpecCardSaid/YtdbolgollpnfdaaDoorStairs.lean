/- ROWS IN THE FORM OF STAIRS, in plain terms: as many as columns exactly if the rows span all. No program in sight. -/
import Derived.Test.YtdbolgollpnfdaaDoorLin
namespace Gf
def vec (l : List UInt8) : Nat → UInt8 := fun i => l.getD i 0
/-- The place of the first element that is not 0; the length if there is none. -/
def firstNZ : List UInt8 → Nat
  | [] => 0
  | x :: r => if x = 0 then firstNZ r + 1 else 0
theorem firstNZ_le : ∀ l, firstNZ l ≤ l.length
  | [] => Nat.le_refl _
  | x :: r => by
    have := firstNZ_le r
    unfold firstNZ
    split <;> simp <;> omega
theorem firstNZ_before : ∀ (l : List UInt8) (j : Nat), j < firstNZ l → l.getD j 0 = 0
  | [], j, h => by simp [firstNZ] at h
  | x :: r, j, h => by
    unfold firstNZ at h
    split at h
    · rename_i hx
      cases j with
      | zero => simpa using hx
      | succ j => simpa using firstNZ_before r j (by omega)
    · omega
theorem firstNZ_at : ∀ (l : List UInt8), firstNZ l < l.length → l.getD (firstNZ l) 0 ≠ 0
  | [], h => by simp at h
  | x :: r, h => by
    unfold firstNZ at h ⊢
    split
    · rename_i hx
      rw [if_pos hx] at h
      have := firstNZ_at r (by simpa using h)
      simpa using this
    · rename_i hx
      simpa using hx
theorem getD_out {l : List UInt8} {i : Nat} (h : l.length ≤ i) : l.getD i 0 = 0 := by
  rw [List.getD_eq_getElem?_getD, List.getElem?_eq_none h]; rfl
theorem getD_map_range (n : Nat) (f : Nat → UInt8) {i : Nat} (h : i < n) : ((List.range n).map f).getD i 0 = f i := by
  rw [List.getD_eq_getElem?_getD, List.getElem?_map, List.getElem?_eq_getElem (by simpa using h)]
  simp

/-- r without its multiple of x that makes it 0 at x's first place. -/
def redRow (r x : List UInt8) : List UInt8 := (List.range r.length).map fun i => r.getD i 0 ^^^ mul (r.getD (firstNZ x) 0) (x.getD i 0)
theorem redRow_length (r x : List UInt8) : (redRow r x).length = r.length := by simp [redRow]
theorem redRow_get (r x : List UInt8) {i : Nat} (h : i < r.length) : (redRow r x).getD i 0 = r.getD i 0 ^^^ mul (r.getD (firstNZ x) 0) (x.getD i 0) := getD_map_range _ _ h
theorem redRow_same {r x : List UInt8} (h : r.getD (firstNZ x) 0 = 0) : redRow r x = r := by
  apply List.ext_getElem
  · exact redRow_length r x
  · intro i h1 h2
    have e := redRow_get r x h2
    rw [h, zero_mul, UInt8.xor_zero, List.getD_eq_getElem?_getD, List.getElem?_eq_getElem h1, List.getD_eq_getElem?_getD, List.getElem?_eq_getElem h2] at e
    exact e
def reduce (S : List (List UInt8)) (r : List UInt8) : List UInt8 := S.foldl redRow r
theorem reduce_length : ∀ (S : List (List UInt8)) (r : List UInt8), (reduce S r).length = r.length
  | [], _ => rfl
  | x :: S, r => by
    show (reduce S (redRow r x)).length = _
    rw [reduce_length S, redRow_length]

structure Stairs (n : Nat) (S : List (List UInt8)) : Prop where
  len : ∀ x ∈ S, x.length = n
  nz : ∀ x ∈ S, firstNZ x < n
  one : ∀ x ∈ S, x.getD (firstNZ x) 0 = 1
  tri : S.Pairwise fun x y => y.getD (firstNZ x) 0 = 0

theorem reduce_keep {p : Nat} : ∀ (S : List (List UInt8)) (r : List UInt8), (∀ y ∈ S, y.getD p 0 = 0) → r.getD p 0 = 0 → (reduce S r).getD p 0 = 0
  | [], _, _, h => h
  | x :: S, r, hS, h => by
    show (reduce S (redRow r x)).getD p 0 = 0
    refine reduce_keep S _ (fun y hy => hS y (by simp [hy])) ?_
    by_cases hp : p < r.length
    · rw [redRow_get r x hp, h, hS x (by simp), mul_zero]; rfl
    · exact getD_out (by rw [redRow_length]; omega)
theorem reduce_zero {n : Nat} : ∀ (S : List (List UInt8)) (r : List UInt8), Stairs n S → r.length = n → ∀ x ∈ S, (reduce S r).getD (firstNZ x) 0 = 0
  | [], _, _, _, x, hx => by cases hx
  | y :: S, r, h, hr, x, hx => by
    show (reduce S (redRow r y)).getD (firstNZ x) 0 = 0
    have htri := List.pairwise_cons.1 h.tri
    rcases List.mem_cons.1 hx with rfl | hx
    · refine reduce_keep S _ (fun z hz => htri.1 z hz) ?_
      have hp : firstNZ x < r.length := by rw [hr]; exact h.nz x (by simp)
      rw [redRow_get r x hp, h.one x (by simp), mul_one]
      exact UInt8.xor_self
    · exact reduce_zero S _ ⟨fun z hz => h.len z (by simp [hz]), fun z hz => h.nz z (by simp [hz]), fun z hz => h.one z (by simp [hz]), htri.2⟩ (by rw [redRow_length, hr]) x hx

/-- v is a combination of the rows of L. -/
def SpanL (n : Nat) (L : List (List UInt8)) (v : Nat → UInt8) : Prop := InSpan n L.length (fun k => vec (L.getD k [])) v
theorem SpanL.mem {n : Nat} {L : List (List UInt8)} {x : List UInt8} (h : x ∈ L) : SpanL n L (vec x) := by
  obtain ⟨k, hk, rfl⟩ := List.getElem_of_mem h
  have := InSpan.mem (n := n) (vs := fun k => vec (L.getD k [])) hk
  have e : L.getD k [] = L[k] := by rw [List.getD_eq_getElem?_getD, List.getElem?_eq_getElem hk]; rfl
  simp only [e] at this
  exact this
theorem SpanL.trans {n : Nat} {L M : List (List UInt8)} {v : Nat → UInt8} (h : SpanL n L v) (hm : ∀ x ∈ L, SpanL n M (vec x)) : SpanL n M v :=
  InSpan.trans h fun j hj => by
    have e : L.getD j [] = L[j] := by rw [List.getD_eq_getElem?_getD, List.getElem?_eq_getElem hj]; rfl
    simp only [e]
    exact hm _ (List.getElem_mem hj)
theorem SpanL.mono {n : Nat} {L M : List (List UInt8)} {v : Nat → UInt8} (h : SpanL n L v) (hm : ∀ x ∈ L, x ∈ M) : SpanL n M v := h.trans fun x hx => SpanL.mem (hm x hx)
theorem SpanL.add {n : Nat} {L : List (List UInt8)} {u v : Nat → UInt8} (hu : SpanL n L u) (hv : SpanL n L v) : SpanL n L fun i => u i ^^^ v i := InSpan.add hu hv
theorem SpanL.smul {n : Nat} {L : List (List UInt8)} {v : Nat → UInt8} (a : UInt8) (hv : SpanL n L v) : SpanL n L fun i => mul a (v i) := InSpan.smul a hv
theorem SpanL.congr {n : Nat} {L : List (List UInt8)} {u v : Nat → UInt8} (h : SpanL n L u) (he : ∀ i, i < n → v i = u i) : SpanL n L v := InSpan.congr h he

theorem reduce_span {n : Nat} {M : List (List UInt8)} : ∀ (S : List (List UInt8)) (r : List UInt8), r.length = n → (∀ x ∈ S, SpanL n M (vec x)) → SpanL n M (vec r) → SpanL n M (vec (reduce S r))
  | [], _, _, _, h => h
  | x :: S, r, hr, hS, h => by
    refine reduce_span S (redRow r x) (by rw [redRow_length, hr]) (fun y hy => hS y (by simp [hy])) ?_
    exact (h.add ((hS x (by simp)).smul (r.getD (firstNZ x) 0))).congr fun i hi => redRow_get r x (by rw [hr]; exact hi)
theorem reduce_back {n : Nat} {M : List (List UInt8)} : ∀ (S : List (List UInt8)) (r : List UInt8), r.length = n → (∀ x ∈ S, SpanL n M (vec x)) → SpanL n M (vec (reduce S r)) → SpanL n M (vec r)
  | [], _, _, _, h => h
  | x :: S, r, hr, hS, h => by
    have h1 := reduce_back S (redRow r x) (by rw [redRow_length, hr]) (fun y hy => hS y (by simp [hy])) h
    refine (h1.add ((hS x (by simp)).smul (r.getD (firstNZ x) 0))).congr fun i hi => ?_
    have e : vec (redRow r x) i = _ := redRow_get r x (by rw [hr]; exact hi)
    rw [e]
    show r.getD i 0 = r.getD i 0 ^^^ mul _ (x.getD i 0) ^^^ mul _ (x.getD i 0)
    rw [xor_assoc, UInt8.xor_self, UInt8.xor_zero]

/-- The stairs with one row more; none if it is a combination of those that are there. -/
def addRow (S : List (List UInt8)) (r : List UInt8) : Option (List UInt8) :=
  if firstNZ (reduce S r) = r.length then none else some ((reduce S r).map (mul (inv ((reduce S r).getD (firstNZ (reduce S r)) 0))))
theorem addRow_none {n : Nat} {S : List (List UInt8)} {r : List UInt8} (hr : r.length = n) (h : addRow S r = none) : SpanL n S (vec r) := by
  unfold addRow at h
  split at h
  · rename_i h1
    refine reduce_back S r hr (fun x hx => SpanL.mem hx) (InSpan.zero _ _ _ fun i hi => ?_)
    exact firstNZ_before _ i (by rw [h1, hr]; exact hi)
  · cases h
theorem getD_map_mul (c : UInt8) (l : List UInt8) (i : Nat) : (l.map (mul c)).getD i 0 = mul c (l.getD i 0) := by
  rw [List.getD_eq_getElem?_getD, List.getElem?_map, List.getD_eq_getElem?_getD]
  cases l[i]? with
  | none => exact (mul_zero c).symm
  | some x => rfl
theorem mul_ne_zero {a b : UInt8} (ha : a ≠ 0) (hb : b ≠ 0) : mul a b ≠ 0 := fun h => by
  rcases mul_eq_zero.1 h with h | h
  · exact ha h
  · exact hb h
theorem firstNZ_map {c : UInt8} (hc : c ≠ 0) : ∀ l : List UInt8, firstNZ (l.map (mul c)) = firstNZ l
  | [] => rfl
  | x :: r => by
    simp only [List.map_cons, firstNZ]
    by_cases hx : x = 0
    · rw [if_pos hx, if_pos (by rw [hx, mul_zero]), firstNZ_map hc r]
    · rw [if_neg hx, if_neg (mul_ne_zero hc hx)]
theorem inv_ne_zero {a : UInt8} (h : a ≠ 0) : inv a ≠ 0 := fun e => by
  have := mul_inv h
  rw [e, mul_zero] at this
  exact absurd this (by decide)
theorem addRow_some {n : Nat} {S : List (List UInt8)} {r t : List UInt8} (hS : Stairs n S) (hr : r.length = n) (h : addRow S r = some t) :
    Stairs n (S ++ [t]) ∧ SpanL n (S ++ [r]) (vec t) ∧ SpanL n (S ++ [t]) (vec r) := by
  unfold addRow at h
  split at h
  · cases h
  · rename_i h1
    injection h with h
    have hl : (reduce S r).length = n := by rw [reduce_length, hr]
    have hle := firstNZ_le (reduce S r)
    have hlt : firstNZ (reduce S r) < (reduce S r).length := by rw [hl] at hle ⊢; omega
    have hnz := firstNZ_at _ hlt
    have hi := inv_ne_zero hnz
    subst h
    refine ⟨⟨?_, ?_, ?_, ?_⟩, ?_, ?_⟩
    · intro x hx
      rcases List.mem_append.1 hx with hx | hx
      · exact hS.len x hx
      · obtain rfl := List.mem_singleton.1 hx; simp [hl]
    · intro x hx
      rcases List.mem_append.1 hx with hx | hx
      · exact hS.nz x hx
      · obtain rfl := List.mem_singleton.1 hx; rw [firstNZ_map hi]; omega
    · intro x hx
      rcases List.mem_append.1 hx with hx | hx
      · exact hS.one x hx
      · obtain rfl := List.mem_singleton.1 hx; rw [firstNZ_map hi, getD_map_mul, inv_mul hnz]
    · rw [List.pairwise_append]
      refine ⟨hS.tri, by simp, fun x hx y hy => ?_⟩
      obtain rfl := List.mem_singleton.1 hy
      rw [getD_map_mul, reduce_zero S r hS hr x hx, mul_zero]
    · have h2 : SpanL n (S ++ [r]) (vec (reduce S r)) := reduce_span S r hr (fun x hx => SpanL.mem (by simp [hx])) (SpanL.mem (by simp))
      exact (h2.smul _).congr fun i _ => getD_map_mul _ _ i
    · refine reduce_back S r hr (fun x hx => SpanL.mem (by simp [hx])) ?_
      have h2 : SpanL n (S ++ [(reduce S r).map (mul (inv ((reduce S r).getD (firstNZ (reduce S r)) 0)))]) (vec ((reduce S r).map (mul (inv ((reduce S r).getD (firstNZ (reduce S r)) 0))))) := SpanL.mem (by simp)
      refine (h2.smul ((reduce S r).getD (firstNZ (reduce S r)) 0)).congr fun i _ => ?_
      show (reduce S r).getD i 0 = mul _ (((reduce S r).map _).getD i 0)
      rw [getD_map_mul, ← mul_assoc, mul_inv hnz, one_mul]

/-- Rows of stairs depend on none of the others. -/
theorem stairs_indep {n : Nat} : ∀ (S : List (List UInt8)) (x : Nat → UInt8), Stairs n S → (∀ i, i < n → sm S.length (fun j => mul (x j) ((S.getD j []).getD i 0)) = 0) → ∀ j, j < S.length → x j = 0
  | [], _, _, _, j, hj => by simp at hj
  | y :: S, x, h, hz, j, hj => by
    have htri := List.pairwise_cons.1 h.tri
    have hp := h.nz y (by simp)
    have h0 : x 0 = 0 := by
      have h1 := hz _ hp
      rw [sm_one (p := 0) _ (by simp) (fun j hj hne => ?_)] at h1
      · rw [show ((y :: S).getD 0 []) = y from rfl, h.one y (by simp), mul_one] at h1
        exact h1
      · obtain ⟨k, rfl⟩ : ∃ k, j = k + 1 := ⟨j - 1, by omega⟩
        have hk : k < S.length := by simpa using hj
        have e : (y :: S).getD (k + 1) [] = S[k] := by rw [List.getD_eq_getElem?_getD, List.getElem?_cons_succ, List.getElem?_eq_getElem hk]; rfl
        rw [e, htri.1 _ (List.getElem_mem hk), mul_zero]
    cases j with
    | zero => exact h0
    | succ j =>
      refine stairs_indep S (fun k => x (k + 1)) ⟨fun z hz => h.len z (by simp [hz]), fun z hz => h.nz z (by simp [hz]), fun z hz => h.one z (by simp [hz]), htri.2⟩ (fun i hi => ?_) j (by simpa using hj)
      have h1 := hz i hi
      rw [show (y :: S).length = S.length + 1 from rfl, sm_skip (p := 0) _ (by omega), h0, zero_mul, UInt8.xor_zero] at h1
      refine Eq.trans ?_ h1
      exact sm_congr fun k hk => by rw [show skip 0 k = k + 1 from if_neg (by omega)]; rfl

/-- The vector that is 1 at q alone. -/
def unit (q : Nat) : Nat → UInt8 := fun i => if i = q then 1 else 0
theorem stairs_full {n : Nat} {S : List (List UInt8)} (h : Stairs n S) (hn : S.length = n) (v : Nat → UInt8) : SpanL n S v := by
  obtain ⟨x, ⟨j0, hj0, hx0⟩, he⟩ := depend n (n + 1) (fun j i => if j < n then (S.getD j []).getD i 0 else v i) (by omega)
  have hlast : x n ≠ 0 := by
    intro h0
    have h1 : ∀ j, j < S.length → x j = 0 := stairs_indep S x h fun i hi => by
      have h2 := he i hi
      rw [sm, if_neg (by omega), h0, zero_mul, UInt8.xor_zero] at h2
      refine Eq.trans ?_ h2
      rw [hn]
      exact sm_congr fun j hj => by rw [if_pos hj]
    by_cases hj : j0 = n
    · rw [hj] at hx0; exact hx0 h0
    · exact hx0 (h1 j0 (by omega))
  refine ⟨fun k => mul (inv (x n)) (x k), fun i hi => ?_⟩
  have h2 := he i hi
  rw [sm, if_neg (by omega), xor_eq_zero] at h2
  have h3 : sm n (fun j => mul (x j) (if j < n then (S.getD j []).getD i 0 else v i)) = sm S.length (fun j => mul (x j) ((S.getD j []).getD i 0)) := by
    rw [hn]; exact sm_congr fun j hj => by rw [if_pos hj]
  rw [h3] at h2
  have h4 : v i = mul (inv (x n)) (mul (x n) (v i)) := by rw [← mul_assoc, inv_mul hlast, one_mul]
  rw [h4, ← h2, sm_mul]
  exact sm_congr fun j _ => by rw [mul_assoc]; rfl
theorem stairs_few {n : Nat} {S : List (List UInt8)} (hn : S.length < n) : ¬ ∀ q, q < n → SpanL n S (unit q) := by
  intro h
  obtain ⟨x, ⟨j0, hj0, hx0⟩, he⟩ := InSpan.depend hn h
  have := he j0 hj0
  rw [sm_one (p := j0) _ hj0 (fun j _ hne => by rw [unit, if_neg (Ne.symm hne), mul_zero]), unit, if_pos rfl, mul_one] at this
  exact hx0 this

/-- The stairs of rows, one after the other, as long as there are fewer than columns. -/
def step (n : Nat) (S : List (List UInt8)) (r : List UInt8) : List (List UInt8) :=
  if S.length < n then (match addRow S r with | none => S | some t => S ++ [t]) else S
def stairs (n : Nat) (L : List (List UInt8)) : List (List UInt8) := L.foldl (step n) []
theorem stairs_inv {n : Nat} : ∀ (L P S : List (List UInt8)), (∀ r ∈ P ++ L, r.length = n) → Stairs n S → S.length ≤ n → (∀ x ∈ S, SpanL n P (vec x)) → (S.length < n → ∀ r ∈ P, SpanL n S (vec r)) →
    Stairs n (L.foldl (step n) S) ∧ (L.foldl (step n) S).length ≤ n ∧ (∀ x ∈ L.foldl (step n) S, SpanL n (P ++ L) (vec x)) ∧ ((L.foldl (step n) S).length < n → ∀ r ∈ P ++ L, SpanL n (L.foldl (step n) S) (vec r))
  | [], P, S, _, h1, h2, h3, h4 => by
    simp only [List.append_nil, List.foldl_nil]
    exact ⟨h1, h2, h3, h4⟩
  | r :: L, P, S, hl, h1, h2, h3, h4 => by
    have hr : r.length = n := hl r (by simp)
    rw [List.foldl_cons, show P ++ r :: L = (P ++ [r]) ++ L by simp]
    refine stairs_inv L (P ++ [r]) (step n S r) (fun x hx => hl x (by simpa using hx)) ?_ ?_ ?_ ?_
    all_goals
      unfold step
      split
      · rename_i hlt
        split
        · rename_i hn
          have hs := addRow_none hr hn
          first
            | exact h1
            | exact h2
            | exact fun x hx => (h3 x hx).mono fun y hy => by simp [hy]
            | (intro _ x hx
               rcases List.mem_append.1 hx with hx | hx
               · exact h4 hlt x hx
               · obtain rfl := List.mem_singleton.1 hx; exact hs)
        · rename_i t ht
          obtain ⟨g1, g2, g3⟩ := addRow_some h1 hr ht
          first
            | exact g1
            | (simp; omega)
            | (intro x hx
               rcases List.mem_append.1 hx with hx | hx
               · exact (h3 x hx).mono fun y hy => by simp [hy]
               · obtain rfl := List.mem_singleton.1 hx
                 exact g2.trans fun y hy => by
                   rcases List.mem_append.1 hy with hy | hy
                   · exact (h3 y hy).mono fun z hz => by simp [hz]
                   · exact SpanL.mem (by simp at hy; simp [hy]))
            | (intro _ x hx
               rcases List.mem_append.1 hx with hx | hx
               · exact (h4 hlt x hx).mono fun y hy => by simp [hy]
               · obtain rfl := List.mem_singleton.1 hx; exact g3)
      · rename_i hge
        first
          | exact h1
          | exact h2
          | exact fun x hx => (h3 x hx).mono fun y hy => by simp [hy]
          | exact fun h => absurd h hge
/-- THE STAIRS HAVE AS MANY ROWS AS COLUMNS EXACTLY IF THE ROWS SPAN ALL. -/
theorem stairs_iff {n : Nat} {L : List (List UInt8)} (hl : ∀ r ∈ L, r.length = n) : (stairs n L).length = n ↔ ∀ v, SpanL n L v := by
  obtain ⟨h1, h2, h3, h4⟩ := stairs_inv L [] [] (by simpa using hl) ⟨by simp, by simp, by simp, by simp⟩ (by simp) (by simp) (fun _ r hr => by cases hr)
  rw [List.nil_append] at h3 h4
  constructor
  · intro h v
    exact (stairs_full h1 h v).trans h3
  · intro h
    rcases Nat.lt_or_ge (stairs n L).length n with hlt | hge
    · exact absurd (fun q _ => (h (unit q)).trans (h4 hlt)) (stairs_few hlt)
    · exact Nat.le_antisymm h2 hge
end Gf
