/- THE WALKS over the specification of codes: SameRows, SameTexts, Few. -/
import Derived.Test.YtgkohfmgdejkpaaDoorR7E
import Derived.Test.YtgkohfmgdejkpaaDoorDecW
namespace Cd
/-- At most n groups of at most 20 elements. -/
def few (gs : List (List Int)) (n : Nat) : Bool := decide (gs.length ≤ n) && gs.all fun g => decide (g.length ≤ 20)
theorem few_big {gs : List (List Int)} {n : Nat} (h : ¬ gs.length ≤ n) : few gs n = false := by simp [few, h]
theorem few_bad {gs : List (List Int)} {n g : Nat} (h : g < gs.length) (h2 : ¬ (gs[g]).length ≤ 20) : few gs n = false := by
  unfold few
  rw [Bool.and_eq_false_iff]
  right
  rw [List.all_eq_false]
  exact ⟨gs[g], List.getElem_mem h, by simpa using h2⟩
theorem few_ok {gs : List (List Int)} {n : Nat} (h : gs.length ≤ n) (h2 : ∀ g, g < gs.length → (gs.getD g []).length ≤ 20) : few gs n = true := by
  unfold few
  rw [Bool.and_eq_true, List.all_eq_true]
  refine ⟨by simpa using h, fun g hg => ?_⟩
  obtain ⟨i, hi, rfl⟩ := List.getElem_of_mem hg
  have := h2 i hi
  rw [Go.Proofs.YtgkohfmgdejkpaaDoor.getD_get hi] at this
  simpa using this
theorem few_len {gs : List (List Int)} {n : Nat} (h : few gs n = true) : gs.length ≤ n := by
  unfold few at h
  rw [Bool.and_eq_true] at h
  simpa using h.1
end Cd
namespace Go.Proofs.YtgkohfmgdejkpaaDoor
open Go.RowKit
theorem rFew_any (d gl : Int) (gs : List (List Int)) (n : Nat) (G : Value) (w : World) (hG : Rs (Rs RI) w G gs) (hn : n ≤ 1000) :
    Calls Tryd.prog 6 #[.agg #[.int .i64 d, G, .int .i64 gl], .int .i64 n] w fun e w' => e = .returned (.bool (Cd.few gs n)) ∧ Ext w w' := by
  have hx0 := (Ext.refl w).alloc (.cells #[.int .i64 d, G, .int .i64 gl] 24)
  have HX := Lib.hid (And.intro hx0 (Rs.ext (Rs.ext RI.ext) _ _ _ _ hx0 hG))
  obtain ⟨GA, Gc, rfl, hgl⟩ := hG.form
  clear hG hx0
  by_cases h1 : gs.length ≤ n
  · have H1 := Lib.hid h1
    go_enter Tryd.func6, Tryd.ntmps6
    go_wp2_with fail
    go_loop [5] (fun vi => ∃ i : Nat, i ≤ gs.length ∧ vi = .int .i64 i ∧ Hid (∀ j, j < i → (gs.getD j []).length ≤ 20)) (fun vi => gs.length - (intOf vi).toNat)
    case atStart => exact ⟨0, Nat.zero_le _, rfl, Lib.hid fun j hj => absurd hj (Nat.not_lt_zero j)⟩
    case round =>
      obtain ⟨i, hi, rfl, HI⟩ := hrel
      by_cases hlt : i < gs.length
      · obtain ⟨ad, u, rfl, hcell, hu⟩ := HX.out.2.at hlt
        obtain ⟨B, cB, rfl, hlB⟩ := hu.form
        have hgd := getD_get (x := ([] : List Int)) hlt
        have hbad := fun h => Cd.few_bad (n := n) hlt h
        obtain ⟨g, hg⟩ : ∃ g, gs[i] = g := ⟨_, rfl⟩
        rw [hg] at hcell hu hlB hgd hbad
        have HB := Lib.hid (And.intro hgd hbad)
        clear hgd hbad hu hg
        by_cases h2 : g.length ≤ 20
        · go_wp2_with fail
          go_round
          case rel => exact ⟨i + 1, by omega, by go_num, Lib.hid fun j hj => by
            by_cases hji : j = i
            · rw [hji, HB.out.1]; exact h2
            · exact HI.out j (by omega)⟩
          case measure => simp [intOf]; omega
        · go_wp2_with fail
          go_ret
          exact ⟨ret_bool (HB.out.2 h2).symm, HX.out.1⟩
      · obtain rfl : i = gs.length := by omega
        go_wp2_with fail
        go_ret
        exact ⟨ret_bool (Cd.few_ok H1.out HI.out).symm, HX.out.1⟩
  · go_enter Tryd.func6, Tryd.ntmps6
    go_wp2_with fail
    go_ret
    exact ⟨ret_bool (Cd.few_big h1).symm, HX.out.1⟩
theorem decide_ne {α : Type} [DecidableEq α] {a b : α} (h : a ≠ b) : false = decide (a = b) := by simp [h]
theorem rSameTexts_any (ra rb : List (List UInt8)) (VA VB : Value) (w : World) (hA : Rs RS w VA ra) (hB : Rs RS w VB rb) :
    Calls Tryd.prog 17 #[VA, VB] w fun e w' => e = .returned (.bool (decide (ra = rb))) ∧ Ext w w' := by
  obtain ⟨A, ca, rfl, hla⟩ := hA.form
  obtain ⟨B, cb, rfl, hlb⟩ := hB.form
  have HA := Lib.hid hA
  have HB := Lib.hid hB
  clear hA hB
  by_cases hl : ra.length = rb.length
  · have e0 : ((ra.length : Int) != (rb.length : Int)) = false := by rw [hl]; simp
    have HL := Lib.hid hl
    clear hl
    go_enter Tryd.func17, Tryd.ntmps17
    go_wp2_with fail
    go_loopw [5] (fun vi wr => ∃ i : Nat, i ≤ ra.length ∧ vi = .int .i64 i ∧ Hid (Ext w wr ∧ ∀ j, j < i → ra.getD j [] = rb.getD j [])) (fun vi _ => ra.length - (intOf vi).toNat)
    case atStart => exact ⟨0, Nat.zero_le _, rfl, Lib.hid (And.intro (Ext.refl _) fun j hj => absurd hj (Nat.not_lt_zero j))⟩
    case round =>
      obtain ⟨i, hi, rfl, HI⟩ := hrel
      by_cases hlt : i < ra.length
      · have hlt2 : i < rb.length := by rw [← HL.out]; exact hlt
        obtain ⟨ad, u, rfl, hc, hu⟩ := (Rs.ext RS.ext _ _ _ _ HI.out.1 HA.out).at hlt
        obtain ⟨bd, u2, rfl, hc2, hu2⟩ := (Rs.ext RS.ext _ _ _ _ HI.out.1 HB.out).at hlt2
        unfold RS at hu hu2
        subst hu hu2
        have hga := getD_get (x := ([] : List UInt8)) hlt
        have hgb := getD_get (x := ([] : List UInt8)) hlt2
        obtain ⟨p, hp⟩ : ∃ p, ra[i] = p := ⟨_, rfl⟩
        obtain ⟨q, hq⟩ : ∃ q, rb[i] = q := ⟨_, rfl⟩
        rw [hp] at hga hc
        rw [hq] at hgb hc2
        have HG := Lib.hid (And.intro hga hgb)
        clear hga hgb hp hq
        by_cases he : p = q
        · have h1 := sb_same he
          have HE := Lib.hid he
          clear he
          go_wp2_with fail
          go_quiet (fail)
          go_wp2_with fail
          go_roundw
          case rel => exact ⟨i + 1, by omega, by go_num, Lib.hid (And.intro (by first | exact HI.out.1.drewN _ | exact HI.out.1) fun j hj => by
            by_cases hji : j = i
            · rw [hji, HG.out.1, HG.out.2, HE.out]
            · exact HI.out.2 j (by omega))⟩
          case measure => simp [intOf]; omega
        · have h1 := sb_other he
          have HE := Lib.hid he
          clear he
          go_wp2_with fail
          go_quiet (fail)
          go_wp2_with fail
          go_ret
          refine ⟨ret_bool (decide_ne fun h => HE.out ?_), by first | exact HI.out.1.drewN _ | exact HI.out.1⟩
          rw [← HG.out.1, ← HG.out.2, h]
      · obtain rfl : i = ra.length := by omega
        go_wp2_with fail
        go_ret
        refine ⟨ret_bool ?_, HI.out.1⟩
        have : ra = rb := by
          apply List.ext_getElem HL.out
          intro j h1 h2
          have := HI.out.2 j h1
          rwa [getD_get h1, getD_get h2] at this
        simp [this]
  · have e0 : ((ra.length : Int) != (rb.length : Int)) = true := by rw [bne_iff_ne]; omega
    have HL := Lib.hid hl
    clear hl
    go_enter Tryd.func17, Tryd.ntmps17
    go_wp2_with fail
    go_ret
    exact ⟨ret_bool (decide_ne fun h => HL.out (by rw [h])), Ext.refl _⟩
set_option maxHeartbeats 1000000 in
theorem rSameRows_any (ra rb : List (List UInt8)) (VA VB : Value) (w : World) (hA : Rs (Rs RB) w VA ra) (hB : Rs (Rs RB) w VB rb) :
    Calls Tryd.prog 18 #[VA, VB] w fun e w' => e = .returned (.bool (decide (ra = rb))) ∧ Ext w w' := by
  obtain ⟨A, ca, rfl, hla⟩ := hA.form
  obtain ⟨B, cb, rfl, hlb⟩ := hB.form
  have HA := Lib.hid hA
  have HB := Lib.hid hB
  clear hA hB
  by_cases hl : ra.length = rb.length
  · have e0 : ((ra.length : Int) != (rb.length : Int)) = false := by rw [hl]; simp
    have HL := Lib.hid hl
    clear hl
    go_enter Tryd.func18, Tryd.ntmps18
    go_wp2_with fail
    go_loopw [5] (fun vi wr => ∃ i : Nat, i ≤ ra.length ∧ vi = .int .i64 i ∧ Hid (Ext w wr ∧ ∀ j, j < i → ra.getD j [] = rb.getD j [])) (fun vi _ => ra.length - (intOf vi).toNat)
    case atStart => exact ⟨0, Nat.zero_le _, rfl, Lib.hid (And.intro (Ext.refl _) fun j hj => absurd hj (Nat.not_lt_zero j))⟩
    case round =>
      obtain ⟨i, hi, rfl, HI⟩ := hrel
      by_cases hlt : i < ra.length
      · have hlt2 : i < rb.length := by rw [← HL.out]; exact hlt
        obtain ⟨ad, u, rfl, hc, hu⟩ := (Rs.ext (Rs.ext RB.ext) _ _ _ _ HI.out.1 HA.out).at hlt
        obtain ⟨bd, u2, rfl, hc2, hu2⟩ := (Rs.ext (Rs.ext RB.ext) _ _ _ _ HI.out.1 HB.out).at hlt2
        obtain ⟨A3, c3, rfl, hl3⟩ := hu.form
        obtain ⟨B3, d3, rfl, hl4⟩ := hu2.form
        have hga := getD_get (x := ([] : List UInt8)) hlt
        have hgb := getD_get (x := ([] : List UInt8)) hlt2
        have hr1 : ∀ k, (convert 57 9 (.slice A3 (ra[i]).length c3)).run Tryd.prog (wr.drewN k) = .ok (.string (sb ra[i])) (wr.drewN k) := fun k => str_u8 rfl (hu.rd.drewN k)
        have hr2 : ∀ k, (convert 57 9 (.slice B3 (rb[i]).length d3)).run Tryd.prog (wr.drewN k) = .ok (.string (sb rb[i])) (wr.drewN k) := fun k => str_u8 rfl (hu2.rd.drewN k)
        obtain ⟨p, hp⟩ : ∃ p, ra[i] = p := ⟨_, rfl⟩
        obtain ⟨q, hq⟩ : ∃ q, rb[i] = q := ⟨_, rfl⟩
        rw [hp] at hga hc hl3 hr1
        rw [hq] at hgb hc2 hl4 hr2
        have HG := Lib.hid (And.intro hga hgb)
        clear hga hgb hp hq hu hu2
        by_cases he : p = q
        · have h1 := sb_same he
          have HE := Lib.hid he
          clear he
          go_wp2_with fail
          go_quiet (fail)
          go_wp2_with fail
          go_roundw
          case rel => exact ⟨i + 1, by omega, by go_num, Lib.hid (And.intro (by first | exact HI.out.1.drewN _ | exact HI.out.1) fun j hj => by
            by_cases hji : j = i
            · rw [hji, HG.out.1, HG.out.2, HE.out]
            · exact HI.out.2 j (by omega))⟩
          case measure => simp [intOf]; omega
        · have h1 := sb_other he
          have HE := Lib.hid he
          clear he
          go_wp2_with fail
          go_quiet (fail)
          go_wp2_with fail
          go_ret
          refine ⟨ret_bool (decide_ne fun h => HE.out ?_), by first | exact HI.out.1.drewN _ | exact HI.out.1⟩
          rw [← HG.out.1, ← HG.out.2, h]
      · obtain rfl : i = ra.length := by omega
        go_wp2_with fail
        go_ret
        refine ⟨ret_bool ?_, HI.out.1⟩
        have : ra = rb := by
          apply List.ext_getElem HL.out
          intro j h1 h2
          have := HI.out.2 j h1
          rwa [getD_get h1, getD_get h2] at this
        simp [this]
  · have e0 : ((ra.length : Int) != (rb.length : Int)) = true := by rw [bne_iff_ne]; omega
    have HL := Lib.hid hl
    clear hl
    go_enter Tryd.func18, Tryd.ntmps18
    go_wp2_with fail
    go_ret
    exact ⟨ret_bool (decide_ne fun h => HL.out (by rw [h])), Ext.refl _⟩
end Go.Proofs.YtgkohfmgdejkpaaDoor
