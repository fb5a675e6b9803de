/- THE SPECIFICATION'S CHECK of codes, in plain terms: it is the program's. -/
import Derived.Test.YtgkohfmgdejkpaaDoorBits
import Derived.Test.YtgkohfmgdejkpaaDoorCodeP
namespace Cd
/-- Is a number in one of the first g groups? -/
def prevHas (gs : List (List Int)) (g : Nat) (x : Int) : Bool := (List.range g).any fun h => decide (x ∈ gs.getD h [])
def refBad (d : Int) (gs : List (List Int)) (g k : Nat) : Bool :=
  decide ((gs.getD g []).getD k 0 < 0) || decide (d ≤ (gs.getD g []).getD k 0) || (decide (0 < k) && decide ((gs.getD g []).getD k 0 ≤ (gs.getD g []).getD (k - 1) 0)) || prevHas gs g ((gs.getD g []).getD k 0)
/-- The error of one group. -/
def refGroup (d : Int) (gs : List (List Int)) (g : Nat) : Int :=
  if gs.getD g [] = [] then 8 else if (List.range (gs.getD g []).length).any (refBad d gs g) then 1 else 0
theorem prevHas_true {gs : List (List Int)} {g h : Nat} {x : Int} (hh : h < g) (hx : x ∈ gs.getD h []) : prevHas gs g x = true := by
  unfold prevHas
  rw [List.any_eq_true]
  exact ⟨h, List.mem_range.2 hh, by simpa using hx⟩
theorem prevHas_false {gs : List (List Int)} {g : Nat} {x : Int} (h : ∀ j, j < g → x ∉ gs.getD j []) : prevHas gs g x = false := by
  unfold prevHas
  rw [List.any_eq_false]
  intro j hj
  simpa using h j (List.mem_range.1 hj)
theorem prevHas_succ (gs : List (List Int)) (g : Nat) (x : Int) : prevHas gs (g + 1) x = true ↔ prevHas gs g x = true ∨ x ∈ gs.getD g [] := by
  unfold prevHas
  rw [List.range_succ, List.any_append, Bool.or_eq_true]
  simp
theorem refGroup_none {d : Int} {gs : List (List Int)} {g : Nat} (h : gs.getD g [] = []) : refGroup d gs g = 8 := if_pos h
theorem refGroup_bad {d : Int} {gs : List (List Int)} {g k : Nat} (h : gs.getD g [] ≠ []) (hk : k < (gs.getD g []).length) (hb : refBad d gs g k = true) : refGroup d gs g = 1 := by
  unfold refGroup
  rw [if_neg h, if_pos]
  rw [List.any_eq_true]
  exact ⟨k, List.mem_range.2 hk, hb⟩
theorem refGroup_ok {d : Int} {gs : List (List Int)} {g : Nat} (h : gs.getD g [] ≠ []) (hb : ∀ k, k < (gs.getD g []).length → refBad d gs g k = false) : refGroup d gs g = 0 := by
  unfold refGroup
  rw [if_neg h, if_neg]
  rw [Bool.not_eq_true, List.any_eq_false]
  intro k hk
  rw [hb k (List.mem_range.1 hk)]
  simp
theorem refBad_def (d : Int) (gs : List (List Int)) (g k : Nat) : refBad d gs g k = (decide ((gs.getD g []).getD k 0 < 0) || decide (d ≤ (gs.getD g []).getD k 0) || (decide (0 < k) && decide ((gs.getD g []).getD k 0 ≤ (gs.getD g []).getD (k - 1) 0)) || prevHas gs g ((gs.getD g []).getD k 0)) := rfl
/-- A group is bad for the program exactly if it is for the specification. -/
theorem bad_ref {d : Int} {gs : List (List Int)} {g s : Nat} (hs : ∀ x : Nat, bitAt s x = 1 ↔ prevHas gs g x = true) : bad d s (gs.getD g []) = (List.range (gs.getD g []).length).any (refBad d gs g) := by
  have each : ∀ k, badAt d s (gs.getD g []) k = refBad d gs g k := fun k => by
    rw [badAt_def, refBad_def]
    obtain ⟨x, hx⟩ : ∃ x, (gs.getD g []).getD k 0 = x := ⟨_, rfl⟩
    rw [hx]
    by_cases h0 : x < 0
    · simp [h0]
    · have h1 := hs x.toNat
      rw [show ((x.toNat : Nat) : Int) = x from by omega] at h1
      cases hp : prevHas gs g x with
      | true => rw [h1.2 hp]; simp
      | false =>
        have : bitAt s x.toNat ≠ 1 := fun h => by rw [h1.1 h] at hp; cases hp
        rw [show (bitAt s x.toNat == 1) = false from by simpa using this]
  unfold bad
  congr 1
  funext k
  exact each k
theorem checkG_ref {d : Int} {gs : List (List Int)} : ∀ i, i ≤ gs.length → (∀ h, h < i → refGroup d gs h = 0) →
    ∃ s, checkG d 0 gs = checkG d s (gs.drop i) ∧ ∀ x : Nat, bitAt s x = 1 ↔ prevHas gs i x = true
  | 0, _, _ => ⟨0, rfl, fun x => by simp [bitAt, prevHas]⟩
  | i + 1, hi, h => by
    obtain ⟨s, h1, h2⟩ := checkG_ref i (by omega) (fun j hj => h j (by omega))
    have hl : i < gs.length := by omega
    have hg : gs.getD i [] = gs[i] := by rw [List.getD_eq_getElem?_getD, List.getElem?_eq_getElem hl]; rfl
    have hr := h i (by omega)
    have hne : gs.getD i [] ≠ [] := fun he => by rw [refGroup_none he] at hr; cases hr
    have hb := bad_ref (d := d) h2
    have hbf : bad d s (gs.getD i []) = false := by
      rw [hb]
      cases ha : (List.range (gs.getD i []).length).any (refBad d gs i) with
      | false => rfl
      | true =>
        unfold refGroup at hr
        rw [if_neg hne, if_pos ha] at hr
        cases hr
    refine ⟨setOf s gs[i], ?_, fun x => ?_⟩
    · rw [h1, drop_cons hl, checkG_next (by rw [← hg]; exact hne) (by rw [← hg]; exact hbf)]
    · rw [bit_set gs[i] s x (fun j hj => by rw [← hg] at hj; exact (bad_bounds hbf hj).1), h2 x, prevHas_succ, hg]
theorem checkG_err {d : Int} {gs : List (List Int)} {i : Nat} (hi : i < gs.length) (h : ∀ j, j < i → refGroup d gs j = 0) (he : refGroup d gs i ≠ 0) : checkG d 0 gs = refGroup d gs i := by
  obtain ⟨s, h1, h2⟩ := checkG_ref i (by omega) h
  have hg : gs.getD i [] = gs[i] := by rw [List.getD_eq_getElem?_getD, List.getElem?_eq_getElem hi]; rfl
  rw [h1, drop_cons hi, ← hg]
  by_cases hne : gs.getD i [] = []
  · rw [refGroup_none hne, hne, checkG_nil]
  · have hb := bad_ref (d := d) h2
    unfold refGroup at he ⊢
    rw [if_neg hne] at he ⊢
    cases ha : (List.range (gs.getD i []).length).any (refBad d gs i) with
    | false => rw [ha] at he; simp at he
    | true => rw [ha] at hb; rw [checkG_bad hne hb]; rfl
theorem checkR_err {d gl : Int} {gs : List (List Int)} (h1 : ¬ (d < 1 ∨ 16 < d ∨ gl < 0 ∨ 4 < gl)) (h2 : ¬ 24 < d + gs.length + gl) {i : Nat} (hi : i < gs.length) (h : ∀ j, j < i → refGroup d gs j = 0) (he : refGroup d gs i ≠ 0) : check d gs gl = refGroup d gs i := by
  rw [check_groups h1 (by omega), checkG_err hi h he]
theorem checkR_ok {d gl : Int} {gs : List (List Int)} (h1 : ¬ (d < 1 ∨ 16 < d ∨ gl < 0 ∨ 4 < gl)) (h2 : ¬ 24 < d + gs.length + gl) (h : ∀ j, j < gs.length → refGroup d gs j = 0) : check d gs gl = 0 := by
  obtain ⟨s, e, _⟩ := checkG_ref gs.length (Nat.le_refl _) h
  rw [check_groups h1 (by omega), e, List.drop_length, checkG_end]
attribute [irreducible] refGroup refBad prevHas
end Cd
