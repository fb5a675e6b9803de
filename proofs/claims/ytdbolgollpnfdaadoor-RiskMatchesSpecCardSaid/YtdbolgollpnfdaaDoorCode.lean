/- CODES, in plain terms: what their functions compute. No program in sight. -/
import Derived.Test.YtdbolgollpnfdaaDoorStairs
namespace Cd
def bitAt (s i : Nat) : Nat := s / 2 ^ i % 2
/-- A set of small numbers, with those of a list. -/
def setOf (s : Nat) (g : List Int) : Nat := g.foldl (fun s i => s ||| 2 ^ i.toNat) s
def badAt (d : Int) (s : Nat) (g : List Int) (k : Nat) : Bool :=
  decide (g.getD k 0 < 0) || decide (d ≤ g.getD k 0) || (decide (0 < k) && decide (g.getD k 0 ≤ g.getD (k - 1) 0)) || (bitAt s (g.getD k 0).toNat == 1)
def bad (d : Int) (s : Nat) (g : List Int) : Bool := (List.range g.length).any (badAt d s g)
/-- The first error of groups, if the numbers s were met before. -/
def checkG (d : Int) : Nat → List (List Int) → Int
  | _, [] => 0
  | s, g :: r => if g = [] then 8 else if bad d s g then 1 else checkG d (setOf s g) r
def check (d : Int) (gs : List (List Int)) (gl : Int) : Int :=
  if d < 1 ∨ 16 < d ∨ gl < 0 ∨ 4 < gl then 3 else if 24 < gs.length ∨ 24 < d + gs.length + gl then 2 else checkG d 0 gs
theorem check_range {d gl : Int} {gs : List (List Int)} (h : d < 1 ∨ 16 < d ∨ gl < 0 ∨ 4 < gl) : check d gs gl = 3 := if_pos h
theorem check_limit {d gl : Int} {gs : List (List Int)} (h : ¬ (d < 1 ∨ 16 < d ∨ gl < 0 ∨ 4 < gl)) (h2 : 24 < gs.length ∨ 24 < d + gs.length + gl) : check d gs gl = 2 := by rw [check, if_neg h, if_pos h2]
theorem check_groups {d gl : Int} {gs : List (List Int)} (h : ¬ (d < 1 ∨ 16 < d ∨ gl < 0 ∨ 4 < gl)) (h2 : ¬ (24 < gs.length ∨ 24 < d + gs.length + gl)) : check d gs gl = checkG d 0 gs := by rw [check, if_neg h, if_neg h2]
theorem bad_false {d : Int} {s : Nat} {g : List Int} (h : ∀ k, k < g.length → badAt d s g k = false) : bad d s g = false := by
  unfold bad
  rw [List.any_eq_false]
  intro k hk
  rw [h k (by simpa using hk)]
  simp
theorem bad_true {d : Int} {s : Nat} {g : List Int} {k : Nat} (hk : k < g.length) (h : badAt d s g k = true) : bad d s g = true := by
  unfold bad
  rw [List.any_eq_true]
  exact ⟨k, by simpa using hk, h⟩
theorem badAt_of {d : Int} {s : Nat} {g : List Int} (h : bad d s g = false) {k : Nat} (hk : k < g.length) : badAt d s g k = false := by
  unfold bad at h
  rw [List.any_eq_false] at h
  simpa using h k (by simpa using hk)
theorem bad_bounds {d : Int} {s : Nat} {g : List Int} (h : bad d s g = false) {i : Int} (hi : i ∈ g) : 0 ≤ i ∧ i < d := by
  obtain ⟨k, hk, rfl⟩ := List.getElem_of_mem hi
  have := badAt_of h hk
  unfold badAt at this
  rw [List.getD_eq_getElem?_getD, List.getElem?_eq_getElem hk] at this
  simp only [Option.getD_some, Bool.or_eq_false_iff, decide_eq_false_iff_not] at this
  omega
theorem badAt_def (d : Int) (s : Nat) (g : List Int) (k : Nat) : badAt d s g k = (decide (g.getD k 0 < 0) || decide (d ≤ g.getD k 0) || (decide (0 < k) && decide (g.getD k 0 ≤ g.getD (k - 1) 0)) || (bitAt s (g.getD k 0).toNat == 1)) := rfl
theorem setOf_nil (s : Nat) : setOf s [] = s := rfl
theorem checkG_end (d : Int) (s : Nat) : checkG d s [] = 0 := rfl
theorem setOf_lt : ∀ (g : List Int) (s : Nat), s < 65536 → (∀ i ∈ g, 0 ≤ i ∧ i < 16) → setOf s g < 65536
  | [], s, h, _ => h
  | i :: g, s, h, hg => by
    refine setOf_lt g _ ?_ (fun j hj => hg j (by simp [hj]))
    have hi := hg i (by simp)
    have h2 : 2 ^ i.toNat < 2 ^ 16 := Nat.pow_lt_pow_right (by omega) (by omega)
    exact Nat.or_lt_two_pow (n := 16) h h2
theorem checkG_nil {d : Int} {s : Nat} {r : List (List Int)} : checkG d s ([] :: r) = 8 := by simp [checkG]
theorem checkG_bad {d : Int} {s : Nat} {g : List Int} {r : List (List Int)} (hg : g ≠ []) (h : bad d s g = true) : checkG d s (g :: r) = 1 := by simp [checkG, hg, h]
theorem checkG_next {d : Int} {s : Nat} {g : List Int} {r : List (List Int)} (hg : g ≠ []) (h : bad d s g = false) : checkG d s (g :: r) = checkG d (setOf s g) r := by simp [checkG, hg, h]
theorem setOf_take {s : Nat} {g : List Int} {k : Nat} (h : k < g.length) : setOf s (g.take (k + 1)) = setOf s (g.take k) ||| 2 ^ (g[k]).toNat := by
  unfold setOf
  rw [List.take_succ_eq_append_getElem h, List.foldl_append]
  rfl
theorem drop_cons {α : Type} {l : List α} {i : Nat} (h : i < l.length) : l.drop i = l[i] :: l.drop (i + 1) := (List.drop_eq_getElem_cons h)
attribute [irreducible] checkG check bad badAt setOf
end Cd
