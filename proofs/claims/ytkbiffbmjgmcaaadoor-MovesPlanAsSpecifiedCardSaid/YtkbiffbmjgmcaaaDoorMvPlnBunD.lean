/- What the program's functions do, step by step: part D of the texts for this claim; no condition beyond what each theorem states. -/
import Derived.Lib.AppendStr
import Derived.Deep.RegionHeld3
import Derived.Deep.CutRange
import Derived.Test.YtkbiffbmjgmcaaaDoorMvPlnBunA
import Derived.Test.YtkbiffbmjgmcaaaDoorMvPlnBunB
import Derived.Test.YtkbiffbmjgmcaaaDoorMvPlnBunC
/- What the root words reach of other texts. -/
/- BITS of sets, in plain terms. -/
namespace Cd
open Gf
theorem bit_test (s i : Nat) : bitAt s i = 1 ↔ s.testBit i = true := by
  unfold bitAt
  rw [Nat.testBit_eq_decide_div_mod_eq, decide_eq_true_eq]
theorem bit_01 (s i : Nat) : bitAt s i = 0 ∨ bitAt s i = 1 := by unfold bitAt; omega
theorem bit_or (s i j : Nat) : bitAt (s ||| 2 ^ i) j = 1 ↔ bitAt s j = 1 ∨ j = i := by
  rw [bit_test, bit_test, Nat.testBit_or, Nat.testBit_two_pow, Bool.or_eq_true, decide_eq_true_eq]
  exact or_congr Iff.rfl eq_comm
theorem bit_set : ∀ (g : List Int) (s j : Nat), (∀ i ∈ g, 0 ≤ i) → (bitAt (setOf s g) j = 1 ↔ bitAt s j = 1 ∨ (j : Int) ∈ g)
  | [], s, j, _ => by rw [setOf_nil]; simp
  | i :: g, s, j, h => by
    have e : setOf s (i :: g) = setOf (s ||| 2 ^ i.toNat) g := by unfold setOf; rfl
    rw [e, bit_set g _ j fun x hx => h x (by simp [hx]), bit_or, List.mem_cons, or_assoc]
    have h0 := h i (by simp)
    have : j = i.toNat ↔ (j : Int) = i := by omega
    rw [this]
end Cd
/- CODES, in plain terms: what Encode and Decode compute, and that a chunk comes back. No program in sight. -/
namespace Cd
open Gf Go.Proofs.YtkbiffbmjgmcaaaDoor
section
variable {d gl : Int} {gs : List (List Int)} {n m : Int} {pieces : List (List UInt8)}
end
section
variable {d gl : Int} {gs : List (List Int)}
theorem rowsOf_width (h : check d gs gl = 0) {r : List UInt8} (hr : r ∈ rowsOf d gs gl) : r.length = d.toNat := by
  rw [rowsOf_ok h] at hr
  exact rows_width hr
theorem rowsOf_len (h : check d gs gl = 0) : ((rowsOf d gs gl).length : Int) = d + gs.length + gl := by
  have hk := check_ok h
  rw [rowsOf_ok h, rows_len]
  omega
theorem can_def {m : Nat} : can d gl gs (m : Int) = true ↔ check d gs gl = 0 ∧ m < 2 ^ (rowsOf d gs gl).length ∧ (stairs d.toNat (pick (rowsOf d gs gl) m)).length = d.toNat := by
  unfold can
  rw [decide_eq_true_eq, Int.toNat_natCast, nat_pow_cast]
  constructor
  · rintro ⟨h1, _, h2, h3⟩; exact ⟨h1, by omega, h3⟩
  · rintro ⟨h1, h2, h3⟩; exact ⟨h1, by omega, by omega, h3⟩
end
end Cd
/- THE WALKS over the strings of the field's specification. -/
namespace Go.Proofs.YtkbiffbmjgmcaaaDoor
open Go.RowKit

theorem rmul_u8 (a b : UInt8) (w : World) : Calls Tryd.prog 95 #[bv a, bv b] w fun e w' => e = .returned (bv (Gf.mul a b)) ∧ w = w' := by
  refine (rmul_any _ _ w (by omega) (by have := Gf.lt8 a; omega) (by omega) (by have := Gf.lt8 b; omega)).mono ?_
  rintro e w' ⟨rfl, rfl⟩
  exact ⟨by rw [Gf.mulI_toNat], rfl⟩

theorem map_range_succ (g : Nat → UInt8) (k : Nat) : ((List.range k).map g).map bv ++ [bv (g k)] = ((List.range (k + 1)).map g).map bv := by
  rw [List.range_succ]; simp

end Go.Proofs.YtkbiffbmjgmcaaaDoor
/- THE SPECIFICATION'S CHECK of codes, in plain terms: it is the program's. -/
namespace Cd
/-- Is a number in one of the first g groups? -/
def prevHas (gs : List (List Int)) (g : Nat) (x : Int) : Bool := (List.range g).any fun h => decide (x ∈ gs.getD h [])
def refBad (d : Int) (gs : List (List Int)) (g k : Nat) : Bool :=
  decide ((gs.getD g []).getD k 0 < 0) || decide (d ≤ (gs.getD g []).getD k 0) || (decide (0 < k) && decide ((gs.getD g []).getD k 0 ≤ (gs.getD g []).getD (k - 1) 0)) || prevHas gs g ((gs.getD g []).getD k 0)
/-- The error of one group. -/
def refGroup (d : Int) (gs : List (List Int)) (g : Nat) : Int :=
  if gs.getD g [] = [] then 8 else if (List.range (gs.getD g []).length).any (refBad d gs g) then 1 else 0
theorem prevHas_true {gs : List (List Int)} {g h : Nat} {x : Int} (hh : h < g) (hx : x ∈ gs.getD h []) : prevHas gs g x = true := by
  unfold prevHas
  rw [List.any_eq_true]
  exact ⟨h, List.mem_range.2 hh, by simpa using hx⟩
theorem prevHas_false {gs : List (List Int)} {g : Nat} {x : Int} (h : ∀ j, j < g → x ∉ gs.getD j []) : prevHas gs g x = false := by
  unfold prevHas
  rw [List.any_eq_false]
  intro j hj
  simpa using h j (List.mem_range.1 hj)
theorem prevHas_succ (gs : List (List Int)) (g : Nat) (x : Int) : prevHas gs (g + 1) x = true ↔ prevHas gs g x = true ∨ x ∈ gs.getD g [] := by
  unfold prevHas
  rw [List.range_succ, List.any_append, Bool.or_eq_true]
  simp
theorem refGroup_none {d : Int} {gs : List (List Int)} {g : Nat} (h : gs.getD g [] = []) : refGroup d gs g = 8 := if_pos h
theorem refGroup_bad {d : Int} {gs : List (List Int)} {g k : Nat} (h : gs.getD g [] ≠ []) (hk : k < (gs.getD g []).length) (hb : refBad d gs g k = true) : refGroup d gs g = 1 := by
  unfold refGroup
  rw [if_neg h, if_pos]
  rw [List.any_eq_true]
  exact ⟨k, List.mem_range.2 hk, hb⟩
theorem refGroup_ok {d : Int} {gs : List (List Int)} {g : Nat} (h : gs.getD g [] ≠ []) (hb : ∀ k, k < (gs.getD g []).length → refBad d gs g k = false) : refGroup d gs g = 0 := by
  unfold refGroup
  rw [if_neg h, if_neg]
  rw [Bool.not_eq_true, List.any_eq_false]
  intro k hk
  rw [hb k (List.mem_range.1 hk)]
  simp
theorem refBad_def (d : Int) (gs : List (List Int)) (g k : Nat) : refBad d gs g k = (decide ((gs.getD g []).getD k 0 < 0) || decide (d ≤ (gs.getD g []).getD k 0) || (decide (0 < k) && decide ((gs.getD g []).getD k 0 ≤ (gs.getD g []).getD (k - 1) 0)) || prevHas gs g ((gs.getD g []).getD k 0)) := rfl
/-- A group is bad for the program exactly if it is for the specification. -/
theorem bad_ref {d : Int} {gs : List (List Int)} {g s : Nat} (hs : ∀ x : Nat, bitAt s x = 1 ↔ prevHas gs g x = true) : bad d s (gs.getD g []) = (List.range (gs.getD g []).length).any (refBad d gs g) := by
  have each : ∀ k, badAt d s (gs.getD g []) k = refBad d gs g k := fun k => by
    rw [badAt_def, refBad_def]
    obtain ⟨x, hx⟩ : ∃ x, (gs.getD g []).getD k 0 = x := ⟨_, rfl⟩
    rw [hx]
    by_cases h0 : x < 0
    · simp [h0]
    · have h1 := hs x.toNat
      rw [show ((x.toNat : Nat) : Int) = x from by omega] at h1
      cases hp : prevHas gs g x with
      | true => rw [h1.2 hp]; simp
      | false =>
        have : bitAt s x.toNat ≠ 1 := fun h => by rw [h1.1 h] at hp; cases hp
        rw [show (bitAt s x.toNat == 1) = false from by simpa using this]
  unfold bad
  congr 1
  funext k
  exact each k
theorem checkG_ref {d : Int} {gs : List (List Int)} : ∀ i, i ≤ gs.length → (∀ h, h < i → refGroup d gs h = 0) →
    ∃ s, checkG d 0 gs = checkG d s (gs.drop i) ∧ ∀ x : Nat, bitAt s x = 1 ↔ prevHas gs i x = true
  | 0, _, _ => ⟨0, rfl, fun x => by simp [bitAt, prevHas]⟩
  | i + 1, hi, h => by
    obtain ⟨s, h1, h2⟩ := checkG_ref i (by omega) (fun j hj => h j (by omega))
    have hl : i < gs.length := by omega
    have hg : gs.getD i [] = gs[i] := by rw [List.getD_eq_getElem?_getD, List.getElem?_eq_getElem hl]; rfl
    have hr := h i (by omega)
    have hne : gs.getD i [] ≠ [] := fun he => by rw [refGroup_none he] at hr; cases hr
    have hb := bad_ref (d := d) h2
    have hbf : bad d s (gs.getD i []) = false := by
      rw [hb]
      cases ha : (List.range (gs.getD i []).length).any (refBad d gs i) with
      | false => rfl
      | true =>
        unfold refGroup at hr
        rw [if_neg hne, if_pos ha] at hr
        cases hr
    refine ⟨setOf s gs[i], ?_, fun x => ?_⟩
    · rw [h1, drop_cons hl, checkG_next (by rw [← hg]; exact hne) (by rw [← hg]; exact hbf)]
    · rw [bit_set gs[i] s x (fun j hj => by rw [← hg] at hj; exact (bad_bounds hbf hj).1), h2 x, prevHas_succ, hg]
theorem checkG_err {d : Int} {gs : List (List Int)} {i : Nat} (hi : i < gs.length) (h : ∀ j, j < i → refGroup d gs j = 0) (he : refGroup d gs i ≠ 0) : checkG d 0 gs = refGroup d gs i := by
  obtain ⟨s, h1, h2⟩ := checkG_ref i (by omega) h
  have hg : gs.getD i [] = gs[i] := by rw [List.getD_eq_getElem?_getD, List.getElem?_eq_getElem hi]; rfl
  rw [h1, drop_cons hi, ← hg]
  by_cases hne : gs.getD i [] = []
  · rw [refGroup_none hne, hne, checkG_nil]
  · have hb := bad_ref (d := d) h2
    unfold refGroup at he ⊢
    rw [if_neg hne] at he ⊢
    cases ha : (List.range (gs.getD i []).length).any (refBad d gs i) with
    | false => rw [ha] at he; simp at he
    | true => rw [ha] at hb; rw [checkG_bad hne hb]; rfl
theorem checkR_err {d gl : Int} {gs : List (List Int)} (h1 : ¬ (d < 1 ∨ 16 < d ∨ gl < 0 ∨ 4 < gl)) (h2 : ¬ 24 < d + gs.length + gl) {i : Nat} (hi : i < gs.length) (h : ∀ j, j < i → refGroup d gs j = 0) (he : refGroup d gs i ≠ 0) : check d gs gl = refGroup d gs i := by
  rw [check_groups h1 (by omega), checkG_err hi h he]
theorem checkR_ok {d gl : Int} {gs : List (List Int)} (h1 : ¬ (d < 1 ∨ 16 < d ∨ gl < 0 ∨ 4 < gl)) (h2 : ¬ 24 < d + gs.length + gl) (h : ∀ j, j < gs.length → refGroup d gs j = 0) : check d gs gl = 0 := by
  obtain ⟨s, e, _⟩ := checkG_ref gs.length (Nat.le_refl _) h
  rw [check_groups h1 (by omega), e, List.drop_length, checkG_end]
attribute [irreducible] refGroup refBad prevHas
end Cd
/- THE WALKS over the specification of codes: Has, group, Check, Pieces, Size, Bit, In, IsSet. -/
namespace Go.Proofs.YtkbiffbmjgmcaaaDoor
open Go.RowKit
theorem rHas_any (l : List Int) (x : Int) (B : Option Addr) (n c : Nat) (w : World) (hB : Rs RI w (.slice B n c) l) :
    Calls Tryd.prog 37 #[.slice B n c, .int .i64 x] w fun e w' => e = .returned (.bool (decide (x ∈ l))) ∧ w = w' := by
  have hn := hB.len
  obtain ⟨_, _, e0, hl⟩ := hB.form
  have HB := Lib.hid hB
  have HN := Lib.hid hn
  have hl2 : n ≤ 9223372036854775807 := by omega
  clear hB hn e0 hl
  go_enter Tryd.func37, Tryd.ntmps37
  go_wp2_with fail
  go_loop [5] (fun vi => ∃ i : Nat, i ≤ n ∧ vi = .int .i64 i ∧ Hid (∀ j, j < i → l.getD j 0 ≠ x)) (fun vi => n - (intOf vi).toNat)
  case atStart => exact ⟨0, Nat.zero_le _, rfl, Lib.hid fun j hj => absurd hj (Nat.not_lt_zero j)⟩
  case round =>
    obtain ⟨i, hi, rfl, HJ⟩ := hrel
    by_cases hlt : i < n
    · have hll : i < l.length := by rw [← HN.out]; exact hlt
      obtain ⟨ad, u, rfl, hc, hu⟩ := HB.out.at hll
      obtain ⟨rfl, _, _⟩ := hu
      have hgd := getD_get (x := (0 : Int)) hll
      obtain ⟨y, hy⟩ : ∃ y, l[i] = y := ⟨_, rfl⟩
      rw [hy] at hc hgd
      have hm : y ∈ l := by rw [← hy]; exact List.getElem_mem hll
      have HM := Lib.hid (And.intro hgd hm)
      clear hgd hm hy
      by_cases h1 : y = x
      · have e1 : (y == x) = true := by rw [h1]; simp
        have hd : decide (x ∈ l) = true := by rw [decide_eq_true_eq, ← h1]; exact HM.out.2
        have HD := Lib.hid hd
        clear h1 hd
        go_wp2_with fail
        go_ret
        exact ⟨ret_bool HD.out.symm, rfl⟩
      · have e1 : (y == x) = false := by rw [beq_eq_false_iff_ne]; exact h1
        have H1 := Lib.hid h1
        clear h1
        go_wp2_with fail
        go_round
        case rel => exact ⟨i + 1, by omega, by go_num, Lib.hid fun j hj => by
          by_cases hji : j = i
          · rw [hji, HM.out.1]; exact H1.out
          · exact HJ.out j (by omega)⟩
        case measure => simp [intOf]; omega
    · obtain rfl : i = n := by omega
      have hd : decide (x ∈ l) = false := by
        rw [decide_eq_false_iff_not]
        intro hm
        obtain ⟨j, hj, he⟩ := List.getElem_of_mem hm
        have := HJ.out j (by rw [HN.out]; exact hj)
        rw [getD_get hj] at this
        exact this he
      have HD := Lib.hid hd
      clear hd
      go_wp2_with fail
      go_ret
      exact ⟨ret_bool HD.out.symm, rfl⟩

set_option maxHeartbeats 1000000 in
theorem rGroup_any (d gl : Int) (gs : List (List Int)) (g : Nat) (G : Value) (w : World) (hG : Rs (Rs RI) w G gs) (hg : g < gs.length) :
    Calls Tryd.prog 57 #[.agg #[.int .i64 d, G, .int .i64 gl], .int .i64 g] w fun e w' => e = .returned (.int .i64 (Cd.refGroup d gs g)) ∧ Ext w w' := by
  have hx0 := (Ext.refl w).alloc (.cells #[.int .i64 d, G, .int .i64 gl] 28)
  have hG1 := Rs.ext (Rs.ext RI.ext) _ _ _ _ hx0 hG
  obtain ⟨A, c, rfl, hl⟩ := hG.form
  obtain ⟨ad, u, rfl, hcell, hu⟩ := hG1.at hg
  obtain ⟨B, cB, rfl, hlB⟩ := hu.form
  have hgd := getD_get (x := ([] : List Int)) hg
  obtain ⟨p, hp⟩ : ∃ p, gs[g] = p := ⟨_, rfl⟩
  rw [hp] at hu hlB hgd hcell
  have HX := Lib.hid hx0
  have HG := Lib.hid hG1
  have HU := Lib.hid hu
  have HD := Lib.hid hgd
  clear hG hx0 hG1 hu hgd hp
  by_cases h0 : p = []
  · have h8 : Cd.refGroup d gs g = 8 := Cd.refGroup_none (by rw [HD.out]; exact h0)
    have H8 := Lib.hid h8
    have hl0 : p.length = 0 := by rw [h0]; rfl
    clear h8 h0
    go_enter Tryd.func57, Tryd.ntmps57
    go_wp2_with fail
    go_ret
    exact ⟨ret_int H8.out.symm, HX.out⟩
  · have hgl : p.length ≠ 0 := fun h => h0 (List.length_eq_zero_iff.1 h)
    have e0 : ((p.length : Int) == 0) = false := by rw [beq_eq_false_iff_ne]; omega
    have H0 := Lib.hid (show gs.getD g [] ≠ [] by rw [HD.out]; exact h0)
    clear h0 hgl
    go_enter Tryd.func57, Tryd.ntmps57
    go_wp2_with fail
    go_loop [5] (fun vk => ∃ k : Nat, k ≤ p.length ∧ vk = .int .i64 k ∧ Hid (∀ j, j < k → Cd.refBad d gs g j = false)) (fun vk => p.length - (intOf vk).toNat)
    case atStart => exact ⟨0, Nat.zero_le _, rfl, Lib.hid fun j hj => absurd hj (Nat.not_lt_zero j)⟩
    case round =>
      obtain ⟨k, hk, rfl, HB⟩ := hrel
      by_cases hkl : k < p.length
      · obtain ⟨bd, u, rfl, hbc, hu⟩ := HU.out.at hkl
        obtain ⟨rfl, hlo, hhi⟩ := hu
        have hgk := getD_get (x := (0 : Int)) hkl
        have hbd := Cd.refBad_def d gs g k
        rw [HD.out, hgk] at hbd
        obtain ⟨y, hy⟩ : ∃ y, p[k] = y := ⟨_, rfl⟩
        rw [hy] at hbd hbc hlo hhi
        have bad1 : Cd.refBad d gs g k = true → Cd.refGroup d gs g = 1 := fun h => Cd.refGroup_bad H0.out (by rw [HD.out]; exact hkl) h
        have BD := Lib.hid hbd
        have B1 := Lib.hid bad1
        clear hgk hbd bad1 hy
        by_cases c1 : y < 0
        · have H1 := Lib.hid (B1.out (by rw [BD.out]; simp [c1]))
          go_wp2_with fail
          go_ret
          exact ⟨ret_int H1.out.symm, HX.out⟩
        · by_cases c2 : d ≤ y
          · have H1 := Lib.hid (B1.out (by rw [BD.out]; simp [c2]))
            go_wp2_with fail
            go_ret
            exact ⟨ret_int H1.out.symm, HX.out⟩
          · by_cases ck : 0 < k
            · obtain ⟨bd2, u2, e2, hbc2, hu2⟩ := HU.out.at (i := k - 1) (by omega)
              injection e2 with e2
              subst e2
              obtain ⟨rfl, hlo2, hhi2⟩ := hu2
              have hgk2 := getD_get (x := (0 : Int)) (show k - 1 < p.length by omega)
              obtain ⟨z, hz⟩ : ∃ z, p[k - 1] = z := ⟨_, rfl⟩
              rw [hz] at hgk2 hbc2 hlo2 hhi2
              have HK2 := Lib.hid hgk2
              clear hgk2 hz
              by_cases c3 : y ≤ z
              · have H1 := Lib.hid (B1.out (by rw [BD.out, HK2.out]; simp [c3, ck]))
                go_wp2_with fail
                go_ret
                exact ⟨ret_int H1.out.symm, HX.out⟩
              · have hno : Cd.prevHas gs g y = false → Cd.refBad d gs g k = false := fun h => by rw [BD.out, HK2.out, h]; simp [c1, c2, c3]
                have hyes : Cd.prevHas gs g y = true → Cd.refGroup d gs g = 1 := fun h => B1.out (by rw [BD.out, h]; simp)
                have HNO := Lib.hid (And.intro hno hyes)
                clear hno hyes
                go_wp2_with fail
                go_loop [7] (fun vh => ∃ h : Nat, h ≤ g ∧ vh = .int .i64 h ∧ Hid (∀ j, j < h → y ∉ gs.getD j [])) (fun vh => g - (intOf vh).toNat)
                case atStart => exact ⟨0, Nat.zero_le _, rfl, Lib.hid fun j hj => absurd hj (Nat.not_lt_zero j)⟩
                case round =>
                  obtain ⟨h, hh, rfl, HH⟩ := hrel
                  by_cases hhl : h < g
                  · obtain ⟨ad2, v, e3, hvc, hv⟩ := HG.out.at (i := h) (by omega)
                    injection e3 with e3
                    subst e3
                    obtain ⟨B2, c2', rfl, hl2⟩ := hv.form
                    have hgh := getD_get (x := ([] : List Int)) (show h < gs.length by omega)
                    obtain ⟨q, hq⟩ : ∃ q, gs[h] = q := ⟨_, rfl⟩
                    rw [hq] at hv hl2 hgh hvc
                    have HV := Lib.hid hv
                    have HGH := Lib.hid hgh
                    clear hv hgh hq
                    by_cases hin : y ∈ q
                    · have e4 : decide (y ∈ q) = true := by simpa using hin
                      have H1 := Lib.hid (HNO.out.2 (Cd.prevHas_true hhl (by rw [HGH.out]; exact hin)))
                      clear hin
                      go_wp2_with fail
                      refine (rHas_any q y _ _ _ _ HV.out).mono ?_
                      rintro e w1 ⟨rfl, rfl⟩
                      rw [e4]
                      go_wp2_with fail
                      go_ret
                      exact ⟨ret_int H1.out.symm, HX.out⟩
                    · have e4 : decide (y ∈ q) = false := by simpa using hin
                      have HIN := Lib.hid hin
                      clear hin
                      go_wp2_with fail
                      refine (rHas_any q y _ _ _ _ HV.out).mono ?_
                      rintro e w1 ⟨rfl, rfl⟩
                      rw [e4]
                      go_wp2_with fail
                      go_round
                      case rel => exact ⟨h + 1, by omega, by go_num, Lib.hid fun j hj => by
                        by_cases hjh : j = h
                        · rw [hjh, HGH.out]; exact HIN.out
                        · exact HH.out j (by omega)⟩
                      case measure => simp [intOf]; omega
                  · obtain rfl : h = g := by omega
                    have H1 := Lib.hid (HNO.out.1 (Cd.prevHas_false HH.out))
                    go_wp2_with fail
                    go_round
                    case rel => exact ⟨k + 1, by omega, by go_num, Lib.hid fun j hj => by
                      by_cases hjk : j = k
                      · rw [hjk]; exact H1.out
                      · exact HB.out j (by omega)⟩
                    case measure => simp [intOf]; omega
            · have hno : Cd.prevHas gs g y = false → Cd.refBad d gs g k = false := fun h => by rw [BD.out, h]; simp [c1, c2, ck]
              have hyes : Cd.prevHas gs g y = true → Cd.refGroup d gs g = 1 := fun h => B1.out (by rw [BD.out, h]; simp)
              have HNO := Lib.hid (And.intro hno hyes)
              clear hno hyes
              go_wp2_with fail
              go_loop [7] (fun vh => ∃ h : Nat, h ≤ g ∧ vh = .int .i64 h ∧ Hid (∀ j, j < h → y ∉ gs.getD j [])) (fun vh => g - (intOf vh).toNat)
              case atStart => exact ⟨0, Nat.zero_le _, rfl, Lib.hid fun j hj => absurd hj (Nat.not_lt_zero j)⟩
              case round =>
                obtain ⟨h, hh, rfl, HH⟩ := hrel
                by_cases hhl : h < g
                · obtain ⟨ad2, v, e3, hvc, hv⟩ := HG.out.at (i := h) (by omega)
                  injection e3 with e3
                  subst e3
                  obtain ⟨B2, c2', rfl, hl2⟩ := hv.form
                  have hgh := getD_get (x := ([] : List Int)) (show h < gs.length by omega)
                  obtain ⟨q, hq⟩ : ∃ q, gs[h] = q := ⟨_, rfl⟩
                  rw [hq] at hv hl2 hgh hvc
                  have HV := Lib.hid hv
                  have HGH := Lib.hid hgh
                  clear hv hgh hq
                  by_cases hin : y ∈ q
                  · have e4 : decide (y ∈ q) = true := by simpa using hin
                    have H1 := Lib.hid (HNO.out.2 (Cd.prevHas_true hhl (by rw [HGH.out]; exact hin)))
                    clear hin
                    go_wp2_with fail
                    refine (rHas_any q y _ _ _ _ HV.out).mono ?_
                    rintro e w1 ⟨rfl, rfl⟩
                    rw [e4]
                    go_wp2_with fail
                    go_ret
                    exact ⟨ret_int H1.out.symm, HX.out⟩
                  · have e4 : decide (y ∈ q) = false := by simpa using hin
                    have HIN := Lib.hid hin
                    clear hin
                    go_wp2_with fail
                    refine (rHas_any q y _ _ _ _ HV.out).mono ?_
                    rintro e w1 ⟨rfl, rfl⟩
                    rw [e4]
                    go_wp2_with fail
                    go_round
                    case rel => exact ⟨h + 1, by omega, by go_num, Lib.hid fun j hj => by
                      by_cases hjh : j = h
                      · rw [hjh, HGH.out]; exact HIN.out
                      · exact HH.out j (by omega)⟩
                    case measure => simp [intOf]; omega
                · obtain rfl : h = g := by omega
                  have H1 := Lib.hid (HNO.out.1 (Cd.prevHas_false HH.out))
                  go_wp2_with fail
                  go_round
                  case rel => exact ⟨k + 1, by omega, by go_num, Lib.hid fun j hj => by
                    by_cases hjk : j = k
                    · rw [hjk]; exact H1.out
                    · exact HB.out j (by omega)⟩
                  case measure => simp [intOf]; omega
      · obtain rfl : k = p.length := by omega
        have hz : Cd.refGroup d gs g = 0 := Cd.refGroup_ok H0.out (by rw [HD.out]; exact HB.out)
        have HZ := Lib.hid hz
        clear hz
        go_wp2_with fail
        go_ret
        exact ⟨ret_int HZ.out.symm, HX.out⟩
end Go.Proofs.YtkbiffbmjgmcaaaDoor
/- THE WALKS over the specification of codes: Check, Pieces, Size, Bit, In, IsSet. -/
namespace Cd
/-- Is a number in a set of small numbers? -/
def inS (m k : Nat) : Bool := decide (bitAt m k = 1)
theorem inS_def (m k : Nat) : inS m k = decide (m / 2 ^ k % 2 = 1) := rfl
/-- Is a number a set of pieces of a code? -/
def isSet (d : Int) (gs : List (List Int)) (gl : Int) (m : Int) : Bool := decide (0 ≤ m ∧ m < ((2 ^ (pieces d gs gl).toNat : Nat) : Int))
theorem pieces_lt (d gl : Int) (gs : List (List Int)) : 0 ≤ pieces d gs gl ∧ pieces d gs gl ≤ 24 := by
  by_cases h : check d gs gl = 0
  · rw [pieces_ok h]; have := check_ok h; omega
  · rw [pieces_no h]; omega
end Cd
namespace Go.Proofs.YtkbiffbmjgmcaaaDoor
open Go.RowKit
set_option maxHeartbeats 4000000 in
theorem rCheck_any (d gl : Int) (gs : List (List Int)) (G : Value) (w : World) (hG : Rs (Rs RI) w G gs) (hn : gs.length ≤ 1000000) :
    Calls Tryd.prog 31 #[.agg #[.int .i64 d, G, .int .i64 gl]] w fun e w' => e = .returned (.int .i64 (Cd.check d gs gl)) ∧ Ext w w' := by
  have hx0 := (Ext.refl w).alloc (.cells #[.int .i64 d, G, .int .i64 gl] 28)
  have HX := Lib.hid (And.intro hx0 (Rs.ext (Rs.ext RI.ext) _ _ _ _ hx0 hG))
  by_cases h : d < 1 ∨ 16 < d ∨ gl < 0 ∨ 4 < gl
  · rw [Cd.check_range h]
    have four : d < 1 ∨ (¬ d < 1 ∧ 16 < d) ∨ (¬ d < 1 ∧ ¬ 16 < d ∧ gl < 0) ∨ (¬ d < 1 ∧ ¬ 16 < d ∧ ¬ gl < 0 ∧ 4 < gl) := by omega
    clear h hG hx0
    rcases four with g | ⟨g1, g⟩ | ⟨g1, g2, g⟩ | ⟨g1, g2, g3, g⟩
    all_goals
      go_enter Tryd.func31, Tryd.ntmps31
      go_wp2_with fail
      go_ret
      exact ⟨rfl, HX.out.1⟩
  · have h1 : 1 ≤ d := by omega
    have h2 : d ≤ 16 := by omega
    have h3 : 0 ≤ gl := by omega
    have h4 : gl ≤ 4 := by omega
    obtain ⟨A, c, rfl, hl⟩ := hG.form
    have H := Lib.hid h
    clear hG hx0 h
    by_cases hb : 24 < d + gs.length + gl
    · have hc := Cd.check_limit H.out (.inr hb)
      have HC := Lib.hid hc
      clear hc
      go_enter Tryd.func31, Tryd.ntmps31
      go_wp2_with fail
      go_ret
      exact ⟨ret_int HC.out.symm, HX.out.1⟩
    · have hb2 : d + gs.length + gl ≤ 24 := by omega
      clear hb
      go_enter Tryd.func31, Tryd.ntmps31
      go_wp2_with fail
      go_loopw [3] (fun vi wr => ∃ i : Nat, i ≤ gs.length ∧ vi = .int .i64 i ∧ Hid (Ext (w.alloc (.cells #[.int .i64 d, .slice A gs.length c, .int .i64 gl] 28)) wr ∧ ∀ j, j < i → Cd.refGroup d gs j = 0)) (fun vi _ => gs.length - (intOf vi).toNat)
      case atStart => exact ⟨0, Nat.zero_le _, rfl, Lib.hid (And.intro (Ext.refl _) fun j hj => absurd hj (Nat.not_lt_zero j))⟩
      case round =>
        obtain ⟨i, hi, rfl, HR⟩ := hrel
        have hc0 : wr.cell? ⟨w.heap.size, 0, none⟩ = some (.int .i64 d) := HR.out.1.cell (by go_simp)
        have hc1 : wr.cell? ⟨w.heap.size, 1, none⟩ = some (.slice A gs.length c) := HR.out.1.cell (by go_simp)
        have hc2 : wr.cell? ⟨w.heap.size, 2, none⟩ = some (.int .i64 gl) := HR.out.1.cell (by go_simp)
        by_cases hlt : i < gs.length
        · have hgr := Rs.ext (Rs.ext RI.ext) _ _ _ _ HR.out.1 HX.out.2
          have HG := Lib.hid hgr
          clear hgr
          by_cases he : Cd.refGroup d gs i = 0
          · have e1 : (Cd.refGroup d gs i != 0) = false := by rw [he]; rfl
            have HE := Lib.hid he
            clear he
            go_wp2_with fail
            refine (rGroup_any d gl gs i _ _ HG.out hlt).mono ?_
            rintro e w1 ⟨rfl, hx1⟩
            have HX1 := Lib.hid (HR.out.1.trans hx1)
            clear hx1 hc0 hc1 hc2
            go_wp2_with fail
            go_roundw
            case rel => exact ⟨i + 1, by omega, by go_num, Lib.hid (And.intro HX1.out fun j hj => by
              by_cases hji : j = i
              · rw [hji]; exact HE.out
              · exact HR.out.2 j (by omega))⟩
            case measure => simp [intOf]; omega
          · have e1 : (Cd.refGroup d gs i != 0) = true := by rw [bne_iff_ne]; exact he
            have hc := Cd.checkR_err H.out (by omega) hlt HR.out.2 he
            have HC := Lib.hid hc
            clear he hc
            go_wp2_with fail
            refine (rGroup_any d gl gs i _ _ HG.out hlt).mono ?_
            rintro e w1 ⟨rfl, hx1⟩
            have HX1 := Lib.hid (HR.out.1.trans hx1)
            clear hx1 hc0 hc1 hc2
            go_wp2_with fail
            go_ret
            exact ⟨ret_int HC.out.symm, HX.out.1.trans HX1.out⟩
        · obtain rfl : i = gs.length := by omega
          have hc := Cd.checkR_ok H.out (by omega) HR.out.2
          have HC := Lib.hid hc
          clear hc
          go_wp2_with fail
          go_ret
          exact ⟨ret_int HC.out.symm, HX.out.1.trans HR.out.1⟩
theorem rPieces_any (d gl : Int) (gs : List (List Int)) (G : Value) (w : World) (hG : Rs (Rs RI) w G gs) (hn : gs.length ≤ 1000000) :
    Calls Tryd.prog 58 #[.agg #[.int .i64 d, G, .int .i64 gl]] w fun e w' => e = .returned (.int .i64 (Cd.pieces d gs gl)) ∧ Ext w w' := by
  have hx0 := (Ext.refl w).alloc (.cells #[.int .i64 d, G, .int .i64 gl] 28)
  have HX := Lib.hid (And.intro hx0 (Rs.ext (Rs.ext RI.ext) _ _ _ _ hx0 hG))
  obtain ⟨A, c, rfl, hl⟩ := hG.form
  clear hG hx0
  by_cases h0 : Cd.check d gs gl = 0
  · have hp := Cd.pieces_ok h0
    have hk := Cd.check_ok h0
    have e1 : (Cd.check d gs gl != 0) = false := by rw [h0]; rfl
    have HP := Lib.hid hp
    clear h0 hp
    go_enter Tryd.func58, Tryd.ntmps58
    go_wp2_with fail
    refine (rCheck_any d gl gs _ _ HX.out.2 hn).mono ?_
    rintro e w1 ⟨rfl, hx1⟩
    have hc0 : w1.cell? ⟨w.heap.size, 0, none⟩ = some (.int .i64 d) := hx1.cell (by go_simp)
    have hc1 : w1.cell? ⟨w.heap.size, 1, none⟩ = some (.slice A gs.length c) := hx1.cell (by go_simp)
    have hc2 : w1.cell? ⟨w.heap.size, 2, none⟩ = some (.int .i64 gl) := hx1.cell (by go_simp)
    have HX1 := Lib.hid (HX.out.1.trans hx1)
    clear hx1
    go_wp2_with fail
    go_ret
    exact ⟨ret_int HP.out.symm, HX1.out⟩
  · have hp := Cd.pieces_no h0
    have e1 : (Cd.check d gs gl != 0) = true := by rw [bne_iff_ne]; exact h0
    have HP := Lib.hid hp
    clear h0 hp
    go_enter Tryd.func58, Tryd.ntmps58
    go_wp2_with fail
    refine (rCheck_any d gl gs _ _ HX.out.2 hn).mono ?_
    rintro e w1 ⟨rfl, hx1⟩
    have HX1 := Lib.hid (HX.out.1.trans hx1)
    clear hx1
    go_wp2_with fail
    go_ret
    exact ⟨ret_int HP.out.symm, HX1.out⟩
theorem rBit_any (k : Nat) (w : World) (hk : k ≤ 24) :
    Calls Tryd.prog 38 #[.int .i64 k] w fun e w' => e = .returned (.int .i64 ((2 ^ k : Nat) : Int)) ∧ w = w' := by
  go_enter Tryd.func38, Tryd.ntmps38
  go_wp2_with fail
  go_loop [3, 4] (fun vn vi => ∃ i n : Nat, i ≤ k ∧ vi = .int .i64 i ∧ vn = .int .i64 n ∧ n ≤ 16777216 ∧ Hid (n = 2 ^ i)) (fun _ vi => k - (intOf vi).toNat)
  case atStart => exact ⟨0, 1, Nat.zero_le _, rfl, rfl, by omega, Lib.hid rfl⟩
  case round =>
    obtain ⟨i, n, hi, rfl, rfl, hb, HN⟩ := hrel
    by_cases hlt : i < k
    · have hn2 : n * 2 = 2 ^ (i + 1) := by rw [HN.out, Nat.pow_succ]
      have hb2 : n * 2 ≤ 16777216 := by
        rw [hn2]
        exact Nat.pow_le_pow_right (by omega) (show i + 1 ≤ 24 by omega)
      have HN2 := Lib.hid hn2
      clear hn2
      go_wp2_with fail
      go_round
      case rel => exact ⟨i + 1, n * 2, by omega, by go_num, by go_num, hb2, Lib.hid HN2.out⟩
      case measure => simp [intOf]; omega
    · obtain rfl : i = k := by omega
      go_wp2_with fail
      go_ret
      exact ⟨ret_int (by rw [HN.out]; simp), rfl⟩
theorem rIn_any (m k : Nat) (w : World) (hm : m ≤ 16777216) (hk : k ≤ 1000) :
    Calls Tryd.prog 75 #[.int .i64 m, .int .i64 k] w fun e w' => e = .returned (.bool (Cd.inS m k)) ∧ w = w' := by
  go_enter Tryd.func75, Tryd.ntmps75
  go_wp2_with fail
  go_loop [0, 5] (fun vn vi => ∃ i n : Nat, i ≤ k ∧ vi = .int .i64 i ∧ vn = .int .i64 n ∧ n ≤ 16777216 ∧ Hid (n = m / 2 ^ i)) (fun _ vi => k - (intOf vi).toNat)
  case atStart => exact ⟨0, m, Nat.zero_le _, rfl, rfl, by omega, Lib.hid (by simp)⟩
  case round =>
    obtain ⟨i, n, hi, rfl, rfl, hb, HN⟩ := hrel
    by_cases hlt : i < k
    · have hn2 : n / 2 = m / 2 ^ (i + 1) := by rw [HN.out, Nat.div_div_eq_div_mul, Nat.pow_succ]
      have HN2 := Lib.hid hn2
      clear hn2
      go_wp2_with fail
      go_round
      case rel => exact ⟨i + 1, n / 2, by omega, by go_num, by go_num, by omega, Lib.hid HN2.out⟩
      case measure => simp [intOf]; omega
    · obtain rfl : i = k := by omega
      have hs : Cd.inS m i = decide (n % 2 = 1) := by rw [Cd.inS_def, HN.out]
      have HS := Lib.hid hs
      clear hs
      rcases Nat.mod_two_eq_zero_or_one n with h | h
      · have h2 : ((n : Int) % 2 == 1) = false := by rw [beq_eq_false_iff_ne]; omega
        have hd : Cd.inS m i = false := by rw [HS.out]; simp [h]
        have HD := Lib.hid hd
        clear hd h
        go_wp2_with fail
        go_ret
        exact ⟨ret_bool (by rw [HD.out]), rfl⟩
      · have h2 : ((n : Int) % 2 == 1) = true := by rw [beq_iff_eq]; omega
        have hd : Cd.inS m i = true := by rw [HS.out]; simp [h]
        have HD := Lib.hid hd
        clear hd h
        go_wp2_with fail
        go_ret
        exact ⟨ret_bool (by rw [HD.out]), rfl⟩
theorem rIsSet_any (d gl : Int) (gs : List (List Int)) (m : Int) (G : Value) (w : World) (hG : Rs (Rs RI) w G gs) (hn : gs.length ≤ 1000000) :
    Calls Tryd.prog 74 #[.agg #[.int .i64 d, G, .int .i64 gl], .int .i64 m] w fun e w' => e = .returned (.bool (Cd.isSet d gs gl m)) ∧ Ext w w' := by
  have hx0 := (Ext.refl w).alloc (.cells #[.int .i64 d, G, .int .i64 gl] 28)
  have HX := Lib.hid (And.intro hx0 (Rs.ext (Rs.ext RI.ext) _ _ _ _ hx0 hG))
  obtain ⟨A, c, rfl, hl⟩ := hG.form
  clear hG hx0
  have hp := Cd.pieces_lt d gl gs
  by_cases h0 : 0 ≤ m
  · obtain ⟨p, hpe⟩ : ∃ p : Nat, Cd.pieces d gs gl = p := ⟨(Cd.pieces d gs gl).toNat, by omega⟩
    have hs : Cd.isSet d gs gl m = decide (m < ((2 ^ p : Nat) : Int)) := by
      unfold Cd.isSet
      rw [hpe, Int.toNat_natCast]
      simp [h0]
    have HS := Lib.hid (And.intro hs hpe)
    have hp24 : p ≤ 24 := by omega
    clear hs hpe hp
    go_enter Tryd.func74, Tryd.ntmps74
    go_wp2_with fail
    refine (rPieces_any d gl gs _ _ HX.out.2 hn).mono ?_
    rintro e w1 ⟨rfl, hx1⟩
    rw [HS.out.2]
    have HX1 := Lib.hid (HX.out.1.trans hx1)
    clear hx1
    go_wp2_with fail
    refine (rBit_any p _ hp24).mono ?_
    rintro e w2 ⟨rfl, rfl⟩
    obtain ⟨q, hq⟩ : ∃ q : Nat, 2 ^ p = q := ⟨_, rfl⟩
    have hs := HS.out.1
    rw [hq] at hs ⊢
    have HS2 := Lib.hid hs
    clear hs hq
    go_wp2_with fail
    go_ret
    exact ⟨ret_bool HS2.out.symm, HX1.out⟩
  · have hs : Cd.isSet d gs gl m = false := by
      unfold Cd.isSet
      simp [h0]
    have HS := Lib.hid hs
    clear hs hp
    go_enter Tryd.func74, Tryd.ntmps74
    go_wp2_with fail
    go_ret
    exact ⟨ret_bool HS.out.symm, HX.out.1⟩
end Go.Proofs.YtkbiffbmjgmcaaaDoor
/- THE WALKS over the specification of codes: row, Rows, part. -/
namespace Cd
open Gf
/-- A coefficient of a piece's row. -/
def rowAt (d : Nat) (gs : List (List Int)) (k i : Nat) : UInt8 := if k < d then unitAt k i else if k < d + gs.length then inAt (setOf 0 (gs.getD (k - d) [])) i else gloAt (k - d - gs.length) i
theorem rowAt_unit {d k : Nat} (gs : List (List Int)) (i : Nat) (h : k < d) : rowAt d gs k i = unitAt k i := if_pos h
theorem rowAt_in {d k : Nat} {gs : List (List Int)} (i : Nat) (h : ¬ k < d) (h2 : k < d + gs.length) : rowAt d gs k i = inAt (setOf 0 (gs.getD (k - d) [])) i := by rw [rowAt, if_neg h, if_pos h2]
theorem rowAt_glo {d k : Nat} {gs : List (List Int)} (i : Nat) (h2 : ¬ k < d + gs.length) : rowAt d gs k i = gloAt (k - d - gs.length) i := by rw [rowAt, if_neg (by omega), if_neg h2]
theorem rows_get {d gl k : Nat} {gs : List (List Int)} (h : k < d + gs.length + gl) : (rows d gs gl).getD k [] = (List.range d).map (rowAt d gs k) := by
  have hr : ∀ g : Nat → UInt8, (∀ i, rowAt d gs k i = g i) → rowOf d g = (List.range d).map (rowAt d gs k) := fun g hg => by
    unfold rowOf
    congr 1
    funext i
    rw [hg i]
  rw [← rows_parts, List.getD_eq_getElem?_getD]
  by_cases h1 : k < d
  · rw [List.getElem?_append_left (by rw [List.length_append, rows1_length]; omega), List.getElem?_append_left (by rw [rows1_length]; exact h1)]
    unfold rows1
    rw [List.getElem?_map, List.getElem?_range h1]
    exact hr _ fun i => rowAt_unit gs i h1
  · by_cases h2 : k < d + gs.length
    · rw [List.getElem?_append_left (by rw [List.length_append, rows1_length, rows2_length]; exact h2), List.getElem?_append_right (by rw [rows1_length]; omega), rows1_length]
      unfold rows2
      rw [List.getElem?_map, List.getElem?_eq_getElem (by omega)]
      refine hr _ fun i => ?_
      rw [rowAt_in i h1 h2, List.getD_eq_getElem?_getD, List.getElem?_eq_getElem (by omega)]
      rfl
    · rw [List.getElem?_append_right (by rw [List.length_append, rows1_length, rows2_length]; omega), List.length_append, rows1_length, rows2_length]
      unfold rows3
      rw [List.getElem?_map, List.getElem?_range (by omega)]
      refine hr _ fun i => ?_
      rw [rowAt_glo i h2]
      show gloAt _ i = gloAt _ i
      rw [show k - d - gs.length = k - (d + gs.length) from by omega]
theorem inAt_set {d : Nat} {g : List Int} (hg : ∀ i ∈ g, 0 ≤ i ∧ i < (d : Int)) (i : Nat) : inAt (setOf 0 g) i = if (i : Int) ∈ g then 1 else 0 := by
  have h := bit_set g 0 i fun j hj => (hg j hj).1
  unfold inAt
  have h0 : ¬ bitAt 0 i = 1 := by simp [bitAt]
  by_cases hm : (i : Int) ∈ g
  · rw [if_pos hm, h.2 (.inr hm)]; rfl
  · rw [if_neg hm]
    have h1 : bitAt (setOf 0 g) i ≠ 1 := fun e => by rcases h.1 e with h2 | h2; exact h0 h2; exact hm h2
    have h2 : bitAt (setOf 0 g) i = 0 := by rcases bit_01 (setOf 0 g) i with h2 | h2; exact h2; exact absurd h2 h1
    rw [h2]; rfl
theorem glo_val {i j : Nat} : (gloAt j i).toNat = powN 2 (i * (j + 1) % 255) := by
  unfold gloAt
  rw [UInt8.toNat_ofNat', Nat.mod_eq_of_lt (powN_lt _)]
attribute [irreducible] rowAt
end Cd
namespace Go.Proofs.YtkbiffbmjgmcaaaDoor
open Go.RowKit
theorem own_older {w : World} {B B' e s n : Nat} {v : Value} {xs : List Value} (h : w.ownsRow B' e s v n xs) (hb : B ≤ B') : w.ownsRow B e s v n xs := by
  refine ⟨h.1, ?_⟩
  rcases h.2 with h2 | ⟨g, cap, cur, hv, hB, rest⟩
  · exact .inl h2
  · exact .inr ⟨g, cap, cur, hv, Nat.le_trans hb hB, rest⟩
theorem Rd.range {w : World} {A : Option Addr} {d : Nat} {g : Nat → UInt8} {l : List UInt8} (h : Rd w A (((List.range d).map g).map bv)) (hl : (List.range d).map g = l) : Rd w A (l.map bv) := hl ▸ h

set_option maxHeartbeats 4000000 in
theorem rRow_ok (d gl k : Nat) (gs : List (List Int)) (G : Value) (w : World) (hG : Rs (Rs RI) w G gs) (h0 : Cd.check d gs gl = 0) (hk : k < d + gs.length + gl) :
    Calls Tryd.prog 76 #[.agg #[.int .i64 d, G, .int .i64 gl], .int .i64 k] w fun e w' => ∃ A c, e = .returned (.slice A d c) ∧ Ext w w' ∧ w'.ownsRow w.heap.size 5 1 (.slice A d c) d (((List.range d).map (Cd.rowAt d gs k)).map bv) := by
  have hx0 := (Ext.refl w).alloc (.cells #[.int .i64 d, G, .int .i64 gl] 28)
  have HX := Lib.hid (And.intro hx0 (Rs.ext (Rs.ext RI.ext) _ _ _ _ hx0 hG))
  obtain ⟨GA, Gc, rfl, hgl⟩ := hG.form
  have hck := Cd.check_ok h0
  obtain ⟨k1, k2, k3, k4, k5, k6⟩ := hck
  have HGO := Lib.hid (Cd.check_groups_ok h0)
  clear hG hx0 h0
  go_enter Tryd.func76, Tryd.ntmps76
  go_wp2_with fail
  go_loopw [5, 6] (fun vo vi wr => ∃ (i : Nat) (A : Option Addr) (cp : Nat), i ≤ d ∧ vi = .int .i64 i ∧ vo = .slice A i cp ∧ Hid (Ext (w.alloc (.cells #[.int .i64 d, .slice GA gs.length Gc, .int .i64 gl] 28)) wr ∧ wr.ownsRow (w.alloc (.cells #[.int .i64 d, .slice GA gs.length Gc, .int .i64 gl] 28)).heap.size 5 1 (.slice A i cp) i (((List.range i).map (Cd.rowAt d gs k)).map bv))) (fun _ vi _ => d - (intOf vi).toNat)
  case atStart => exact ⟨0, none, 0, Nat.zero_le _, rfl, rfl, Lib.hid (And.intro (Ext.refl _) (World.ownsRow_nil _ _ _ _))⟩
  case round =>
    obtain ⟨i, A, cp, hi, rfl, rfl, HR⟩ := hrel
    have hc0 : wr.cell? ⟨w.heap.size, 0, none⟩ = some (.int .i64 d) := HR.out.1.cell (by go_simp)
    have hc1 : wr.cell? ⟨w.heap.size, 1, none⟩ = some (.slice GA gs.length Gc) := HR.out.1.cell (by go_simp)
    by_cases hlt : i < d
    · by_cases hkd : k < d
      · by_cases hik : i = k
        · have e1 : ((i : Int) == (k : Int)) = true := by rw [beq_iff_eq]; omega
          have hval : Value.int .u8 1 = bv (Cd.rowAt d gs k i) := by rw [Cd.rowAt_unit gs i hkd, hik, Cd.unitAt_eq]; rfl
          clear hik
          have HVAL := Lib.hid hval
          clear hval
          go_wp2_with (at_builtin; refine wpl_append_new (w.alloc (.cells #[.int .i64 d, .slice GA gs.length Gc, .int .i64 gl] 28)) 45 5 rfl _ _ rfl Tryd.underlying45 info_u8 rfl rfl HR.out.2 HR.out.1 rfl rfl (by omega) (by omega) ?_; intro A' c' w2 ho hx _)
          have ho' : w2.ownsRow (w.alloc (.cells #[.int .i64 d, .slice GA gs.length Gc, .int .i64 gl] 28)).heap.size 5 1 (.slice A' (i + 1) c') (i + 1) (((List.range (i + 1)).map (Cd.rowAt d gs k)).map bv) := by
            rw [← map_range_succ (Cd.rowAt d gs k), ← HVAL.out]
            exact ho
          have HO := Lib.hid (And.intro hx ho')
          clear hx ho ho' hc0 hc1
          go_wp2_with fail
          go_roundw
          case rel => exact ⟨i + 1, A', c', by omega, by go_num, rfl, HO.out⟩
          case measure => simp [intOf]; omega
        · have e1 : ((i : Int) == (k : Int)) = false := by rw [beq_eq_false_iff_ne]; omega
          have hval : Value.int .u8 0 = bv (Cd.rowAt d gs k i) := by rw [Cd.rowAt_unit gs i hkd, Cd.unitAt_ne hik]; rfl
          clear hik
          have HVAL := Lib.hid hval
          clear hval
          go_wp2_with (at_builtin; refine wpl_append_new (w.alloc (.cells #[.int .i64 d, .slice GA gs.length Gc, .int .i64 gl] 28)) 45 5 rfl _ _ rfl Tryd.underlying45 info_u8 rfl rfl HR.out.2 HR.out.1 rfl rfl (by omega) (by omega) ?_; intro A' c' w2 ho hx _)
          have ho' : w2.ownsRow (w.alloc (.cells #[.int .i64 d, .slice GA gs.length Gc, .int .i64 gl] 28)).heap.size 5 1 (.slice A' (i + 1) c') (i + 1) (((List.range (i + 1)).map (Cd.rowAt d gs k)).map bv) := by
            rw [← map_range_succ (Cd.rowAt d gs k), ← HVAL.out]
            exact ho
          have HO := Lib.hid (And.intro hx ho')
          clear hx ho ho' hc0 hc1
          go_wp2_with fail
          go_roundw
          case rel => exact ⟨i + 1, A', c', by omega, by go_num, rfl, HO.out⟩
          case measure => simp [intOf]; omega
      · by_cases hkg : k < d + gs.length
        · have hlk : k - d < gs.length := by omega
          obtain ⟨ad, u, rfl, hcell, hu⟩ := (Rs.ext (Rs.ext RI.ext) _ _ _ _ HR.out.1 HX.out.2).at hlk
          obtain ⟨B, cB, rfl, hlB⟩ := hu.form
          have hgb := HGO.out gs[k - d] (List.getElem_mem hlk)
          have hra := Cd.rowAt_in (gs := gs) i hkd hkg
          rw [getD_get hlk] at hra
          obtain ⟨g, hg⟩ : ∃ g, gs[k - d] = g := ⟨_, rfl⟩
          rw [hg] at hcell hu hlB hgb hra
          rw [Cd.inAt_set (d := d) hgb] at hra
          have HU := Lib.hid hu
          have HRA := Lib.hid hra
          clear hu hgb hra hg
          by_cases hm : (i : Int) ∈ g
          · have e4 : decide ((i : Int) ∈ g) = true := by simpa using hm
            have hval : Value.int .u8 1 = bv (Cd.rowAt d gs k i) := by rw [HRA.out, if_pos hm]; rfl
            clear hm
            have HVAL := Lib.hid hval
            clear hval
            go_wp2_with fail
            refine (rHas_any g i _ _ _ _ HU.out).mono ?_
            rintro e w1 ⟨rfl, rfl⟩
            rw [e4]
            go_wp2_with (at_builtin; refine wpl_append_new (w.alloc (.cells #[.int .i64 d, .slice (some ad) gs.length Gc, .int .i64 gl] 28)) 45 5 rfl _ _ rfl Tryd.underlying45 info_u8 rfl rfl HR.out.2 HR.out.1 rfl rfl (by omega) (by omega) ?_; intro A' c' w2 ho hx _)
            have ho' : w2.ownsRow (w.alloc (.cells #[.int .i64 d, .slice (some ad) gs.length Gc, .int .i64 gl] 28)).heap.size 5 1 (.slice A' (i + 1) c') (i + 1) (((List.range (i + 1)).map (Cd.rowAt d gs k)).map bv) := by
              rw [← map_range_succ (Cd.rowAt d gs k), ← HVAL.out]
              exact ho
            have HO := Lib.hid (And.intro hx ho')
            clear hx ho ho' hc0 hc1
            go_wp2_with fail
            go_roundw
            case rel => exact ⟨i + 1, A', c', by omega, by go_num, rfl, HO.out⟩
            case measure => simp [intOf]; omega
          · have e4 : decide ((i : Int) ∈ g) = false := by simpa using hm
            have hval : Value.int .u8 0 = bv (Cd.rowAt d gs k i) := by rw [HRA.out, if_neg hm]; rfl
            clear hm
            have HVAL := Lib.hid hval
            clear hval
            go_wp2_with fail
            refine (rHas_any g i _ _ _ _ HU.out).mono ?_
            rintro e w1 ⟨rfl, rfl⟩
            rw [e4]
            go_wp2_with (at_builtin; refine wpl_append_new (w.alloc (.cells #[.int .i64 d, .slice (some ad) gs.length Gc, .int .i64 gl] 28)) 45 5 rfl _ _ rfl Tryd.underlying45 info_u8 rfl rfl HR.out.2 HR.out.1 rfl rfl (by omega) (by omega) ?_; intro A' c' w2 ho hx _)
            have ho' : w2.ownsRow (w.alloc (.cells #[.int .i64 d, .slice (some ad) gs.length Gc, .int .i64 gl] 28)).heap.size 5 1 (.slice A' (i + 1) c') (i + 1) (((List.range (i + 1)).map (Cd.rowAt d gs k)).map bv) := by
              rw [← map_range_succ (Cd.rowAt d gs k), ← HVAL.out]
              exact ho
            have HO := Lib.hid (And.intro hx ho')
            clear hx ho ho' hc0 hc1
            go_wp2_with fail
            go_roundw
            case rel => exact ⟨i + 1, A', c', by omega, by go_num, rfl, HO.out⟩
            case measure => simp [intOf]; omega
        · obtain ⟨j, hj⟩ : ∃ j, k - d - gs.length = j := ⟨_, rfl⟩
          obtain ⟨m, hm⟩ : ∃ m, i * (j + 1) = m := ⟨_, rfl⟩
          have hj4 : j < 4 := by omega
          have hi16 : i < 16 := by omega
          have hm64 : m < 64 := by
            have := Nat.mul_le_mul (show i ≤ 15 by omega) (show j + 1 ≤ 4 by omega)
            omega
          have hmul : (i : Int) * ((k : Int) - (d : Int) - (gs.length : Int) + 1) = (m : Int) := by
            rw [← hm, Int.natCast_mul]
            congr 1
            omega
          have hval : Value.int .u8 (Gf.powN 2 m : Nat) = bv (Cd.rowAt d gs k i) := by
            rw [Cd.rowAt_glo i hkg, hj]
            show _ = Value.int .u8 ((Cd.gloAt j i).toNat : Int)
            rw [Cd.glo_val, hm, Nat.mod_eq_of_lt (by omega)]
          have hm2 : ((m : Int) % 255).toNat = m := by omega
          clear hj hm
          have HVAL := Lib.hid hval
          clear hval
          go_wp2_with fail
          refine (rexp (m : Int) _ (by omega) (by omega)).mono ?_
          rintro e w1 ⟨rfl, rfl⟩
          rw [hm2]
          go_wp2_with (at_builtin; refine wpl_append_new (w.alloc (.cells #[.int .i64 d, .slice GA gs.length Gc, .int .i64 gl] 28)) 45 5 rfl _ _ rfl Tryd.underlying45 info_u8 rfl rfl HR.out.2 HR.out.1 rfl rfl (by omega) (by omega) ?_; intro A' c' w2 ho hx _)
          have ho' : w2.ownsRow (w.alloc (.cells #[.int .i64 d, .slice GA gs.length Gc, .int .i64 gl] 28)).heap.size 5 1 (.slice A' (i + 1) c') (i + 1) (((List.range (i + 1)).map (Cd.rowAt d gs k)).map bv) := by
            rw [← map_range_succ (Cd.rowAt d gs k), ← HVAL.out]
            exact ho
          have HO := Lib.hid (And.intro hx ho')
          clear hx ho ho' hc0 hc1
          go_wp2_with fail
          go_roundw
          case rel => exact ⟨i + 1, A', c', by omega, by go_num, rfl, HO.out⟩
          case measure => simp [intOf]; omega
    · obtain rfl : i = d := by omega
      go_wp2_with fail
      go_ret
      exact ⟨A, cp, rfl, HX.out.1.trans HR.out.1, own_older HR.out.2 HX.out.1.size⟩
end Go.Proofs.YtkbiffbmjgmcaaaDoor
/- THE WALKS over the specification of codes: Rows, part, Encode, SameRows, SameTexts, Few. -/
namespace Cd
end Cd
namespace Go.Proofs.YtkbiffbmjgmcaaaDoor
open Go.RowKit
/-- A row of bytes that a call has made. -/
def byteRow (A : Option Addr) (c : Nat) (r : List UInt8) : LRow := ⟨.slice A r.length c, 5, 1, r.length, r.map bv⟩
/-- Rows of bytes that a call has made, and the list of them. -/
def RowsOwn (w0 w : World) (A : Option Addr) (n c : Nat) (rs : List (List UInt8)) : Prop :=
  ∃ L : List LRow, n = rs.length ∧ L.length = rs.length ∧ (∀ (j : Nat) (r : List UInt8), rs[j]? = some r → ∃ A2 c2, L[j]? = some (byteRow A2 c2 r)) ∧ Owns w0 w (⟨.slice A n c, 45, 1, n, L.map (·.v)⟩ :: L)
/-- The same with one row more, that is not in the list yet. -/
def RowsMore (w0 w : World) (A : Option Addr) (n c : Nat) (rs : List (List UInt8)) (A2 : Option Addr) (c2 : Nat) (r : List UInt8) : Prop :=
  ∃ L : List LRow, n = rs.length ∧ L.length = rs.length ∧ (∀ (j : Nat) (r : List UInt8), rs[j]? = some r → ∃ A2 c2, L[j]? = some (byteRow A2 c2 r)) ∧ Owns w0 w ((⟨.slice A n c, 45, 1, n, L.map (·.v)⟩ :: L) ++ [byteRow A2 c2 r])
theorem RowsOwn.nil (w : World) : RowsOwn w w none 0 0 [] := ⟨[], rfl, rfl, fun j r h => by simp at h, Owns.start w (by intro r hr; simp at hr; subst hr; exact ⟨rfl, rfl, rfl⟩)⟩
theorem RowsOwn.next {w0 w w' : World} {A : Option Addr} {n c : Nat} {rs : List (List UInt8)} (h : RowsOwn w0 w A n c rs) (hx : Ext w w') : RowsOwn w0 w' A n c rs := by
  obtain ⟨L, h1, h2, h3, h4⟩ := h
  exact ⟨L, h1, h2, h3, h4.next hx⟩
theorem RowsOwn.ext {w0 w : World} {A : Option Addr} {n c : Nat} {rs : List (List UInt8)} (h : RowsOwn w0 w A n c rs) : Ext w0 w := by
  obtain ⟨L, h1, h2, h3, h4⟩ := h
  exact h4.ext
theorem RowsOwn.more {w0 w w2 : World} {A A2 : Option Addr} {n c c2 : Nat} {rs : List (List UInt8)} {r : List UInt8} (h : RowsOwn w0 w A n c rs) (hx : Ext w w2) (ho : w2.ownsRow w.heap.size 5 1 (.slice A2 r.length c2) r.length (r.map bv)) : RowsMore w0 w2 A n c rs A2 c2 r := by
  obtain ⟨L, h1, h2, h3, h4⟩ := h
  exact ⟨L, h1, h2, h3, h4.behind hx ho⟩
theorem RowsOwn.rs {w0 w : World} {A : Option Addr} {n c : Nat} {rs : List (List UInt8)} (h : RowsOwn w0 w A n c rs) (hl : rs.length ≤ 9223372036854775807) (hw : ∀ r ∈ rs, r.length ≤ 9223372036854775807) : Rs (Rs RB) w (.slice A n c) rs := by
  obtain ⟨L, rfl, h2, h3, h4⟩ := h
  refine ⟨A, c, rfl, hl, fun i r hi => ?_⟩
  obtain ⟨A2, c2, hL⟩ := h3 i r hi
  have hv : (L.map (·.v))[i]? = some (.slice A2 r.length c2) := by rw [List.getElem?_map, hL]; rfl
  obtain ⟨ad, e1, _, e3⟩ := h4.rd 0 rfl i _ hv
  exact ⟨ad, _, e1, e3, Rs.of_rd (h4.rd (i + 1) (n := r.length) hL) (hw r (List.mem_of_getElem? hi))⟩
/-- 'out = append(out, r)': a row of bytes that is the call's own. -/
theorem wpl_append_row {P : Program} {w0 w : World} {e' : TypeId} {ops : Array Oper} {rest : List Oper} {o : Oper} {a : Act} {Q : Exit → Act → World → Prop} (t : TypeId) (hgd : o.guard = none) (s x : Operand)
    (ho : o.op = .call { callee := .builtin .append, args := #[s, x], argTypes := #[t, t] })
    {z : Value} (ht : P.underlying t = some (.slice 45)) (hi : (P.info? 45).map (fun i => (i.zero, i.size, i.bytes)) = some (some z, 1, 24)) (hz1 : z.cells.size = 1)
    {A A2 : Option Addr} {n c c2 m : Nat} {rs : List (List UInt8)} {r : List UInt8} (h : RowsMore w0 w A n c rs A2 c2 r) (hm : m = r.length) (hs : a.eval s = .slice A n c)
    (hx : a.eval x = .slice (some ⟨w.heap.size, 0, none⟩) 1 1) (hn : n < 1000000000000)
    (hK : ∀ A' c' w', RowsOwn w0 w' A' (n + 1) c' (rs ++ [r]) → wpList P ops Q rest (a.put o.dst (.slice A' (n + 1) c')) w') :
    wpList P ops Q (o :: rest) a (w.alloc (.cells #[.slice A2 m c2] e')) := by
  subst hm
  obtain ⟨L, h1, h2, h3, h4⟩ := h
  refine wpl_append_owns (u := .slice A2 r.length c2) t 45 hgd s x ho ht hi hz1 (h4.push1 (e := e')) 0 rfl hs hx (cell_of_row _ _ 0 #[_] e' (0, 0) (heap_new w _)) rfl hn (by decide) ?_
  intro g cap w' hO _
  refine hK _ _ _ ⟨L ++ [byteRow A2 c2 r], by simp [h1], by simp [h2], fun j q hj => ?_, ?_⟩
  · rw [List.getElem?_append] at hj ⊢
    rw [h2]
    split
    · rename_i hlt
      rw [if_pos hlt] at hj
      exact h3 j q hj
    · rename_i hlt
      rw [if_neg hlt] at hj
      cases hk : j - rs.length with
      | zero =>
        rw [hk] at hj
        simp at hj
        subst hj
        exact ⟨A2, c2, rfl⟩
      | succ k => rw [hk] at hj; simp at hj
  · have h5 := hO.sublist (L' := ⟨.slice (some ⟨g, 0, none⟩) (n + 1) cap, 45, 1, n + 1, L.map (·.v) ++ [.slice A2 r.length c2]⟩ :: (L ++ [byteRow A2 c2 r])) (by simp)
    simpa [byteRow] using h5
end Go.Proofs.YtkbiffbmjgmcaaaDoor
/- THE WALKS over the specification of codes: SameRows, SameTexts, Few. -/
namespace Cd
/-- At most n groups of at most 20 elements. -/
def few (gs : List (List Int)) (n : Nat) : Bool := decide (gs.length ≤ n) && gs.all fun g => decide (g.length ≤ 20)
theorem few_big {gs : List (List Int)} {n : Nat} (h : ¬ gs.length ≤ n) : few gs n = false := by simp [few, h]
theorem few_bad {gs : List (List Int)} {n g : Nat} (h : g < gs.length) (h2 : ¬ (gs[g]).length ≤ 20) : few gs n = false := by
  unfold few
  rw [Bool.and_eq_false_iff]
  right
  rw [List.all_eq_false]
  exact ⟨gs[g], List.getElem_mem h, by simpa using h2⟩
theorem few_ok {gs : List (List Int)} {n : Nat} (h : gs.length ≤ n) (h2 : ∀ g, g < gs.length → (gs.getD g []).length ≤ 20) : few gs n = true := by
  unfold few
  rw [Bool.and_eq_true, List.all_eq_true]
  refine ⟨by simpa using h, fun g hg => ?_⟩
  obtain ⟨i, hi, rfl⟩ := List.getElem_of_mem hg
  have := h2 i hi
  rw [Go.Proofs.YtkbiffbmjgmcaaaDoor.getD_get hi] at this
  simpa using this
end Cd
namespace Go.Proofs.YtkbiffbmjgmcaaaDoor
open Go.RowKit
theorem rFew_any (d gl : Int) (gs : List (List Int)) (n : Nat) (G : Value) (w : World) (hG : Rs (Rs RI) w G gs) (hn : n ≤ 1000) :
    Calls Tryd.prog 23 #[.agg #[.int .i64 d, G, .int .i64 gl], .int .i64 n] w fun e w' => e = .returned (.bool (Cd.few gs n)) ∧ Ext w w' := by
  have hx0 := (Ext.refl w).alloc (.cells #[.int .i64 d, G, .int .i64 gl] 28)
  have HX := Lib.hid (And.intro hx0 (Rs.ext (Rs.ext RI.ext) _ _ _ _ hx0 hG))
  obtain ⟨GA, Gc, rfl, hgl⟩ := hG.form
  clear hG hx0
  by_cases h1 : gs.length ≤ n
  · have H1 := Lib.hid h1
    go_enter Tryd.func23, Tryd.ntmps23
    go_wp2_with fail
    go_loop [5] (fun vi => ∃ i : Nat, i ≤ gs.length ∧ vi = .int .i64 i ∧ Hid (∀ j, j < i → (gs.getD j []).length ≤ 20)) (fun vi => gs.length - (intOf vi).toNat)
    case atStart => exact ⟨0, Nat.zero_le _, rfl, Lib.hid fun j hj => absurd hj (Nat.not_lt_zero j)⟩
    case round =>
      obtain ⟨i, hi, rfl, HI⟩ := hrel
      by_cases hlt : i < gs.length
      · obtain ⟨ad, u, rfl, hcell, hu⟩ := HX.out.2.at hlt
        obtain ⟨B, cB, rfl, hlB⟩ := hu.form
        have hgd := getD_get (x := ([] : List Int)) hlt
        have hbad := fun h => Cd.few_bad (n := n) hlt h
        obtain ⟨g, hg⟩ : ∃ g, gs[i] = g := ⟨_, rfl⟩
        rw [hg] at hcell hu hlB hgd hbad
        have HB := Lib.hid (And.intro hgd hbad)
        clear hgd hbad hu hg
        by_cases h2 : g.length ≤ 20
        · go_wp2_with fail
          go_round
          case rel => exact ⟨i + 1, by omega, by go_num, Lib.hid fun j hj => by
            by_cases hji : j = i
            · rw [hji, HB.out.1]; exact h2
            · exact HI.out j (by omega)⟩
          case measure => simp [intOf]; omega
        · go_wp2_with fail
          go_ret
          exact ⟨ret_bool (HB.out.2 h2).symm, HX.out.1⟩
      · obtain rfl : i = gs.length := by omega
        go_wp2_with fail
        go_ret
        exact ⟨ret_bool (Cd.few_ok H1.out HI.out).symm, HX.out.1⟩
  · go_enter Tryd.func23, Tryd.ntmps23
    go_wp2_with fail
    go_ret
    exact ⟨ret_bool (Cd.few_big h1).symm, HX.out.1⟩
end Go.Proofs.YtkbiffbmjgmcaaaDoor
/- THE WALKS over the specification of codes: drawn regions of less and Rank. -/
namespace Go.Proofs.YtkbiffbmjgmcaaaDoor
open Go.RowKit
theorem ent_rmul : ∀ args w, (callFunc 95 args).run Tryd.prog w = .ok (.enter 95 args) w := enters_of Tryd.func95 (by kernel_rfl) rfl
theorem ent_less : ∀ args w, (callFunc 88 args).run Tryd.prog w = .ok (.enter 88 args) w := enters_of Tryd.func88 (by kernel_rfl) rfl
noncomputable def less_six_code : Code := ((Tryd.f88.body.bind (regionOf 6)).getD .skip)
def less_six_dsts : List (Option Nat) := [some 26, some 27, some 28, some 29, some 30, some 31, some 32, some 33, some 34, some 35, some 36, some 37, some 38, some 39, some 8]
theorem less_six_apart : apartD less_six_dsts = true := by decide +kernel
set_option maxRecDepth 1000000 in
set_option maxHeartbeats 16000000 in
theorem less_six (bX bY : Addr) (A : Option Addr) (n m cx cy ca i : Nat) (xr xo xf : UInt8) (la : List Value) (w wr : World) (hi8 : i < 1000000) (hin : i < n) (him : i < m) (hxor : Hid (bits .xor .u8 (xr.toNat : Int) ((Gf.mul xf xo).toNat : Int) = ((xr ^^^ Gf.mul xf xo).toNat : Int))) (hX : Hid (w.cell? (bX.add i) = some (bv xr))) (hY : Hid (w.cell? (bY.add i) = some (bv xo))) (HOO : Hid (Owns w wr.drew [⟨.slice A i ca, 5, 1, i, la⟩, no])) (c2 c3 c4 c5 c6 c10 c11 c12 c13 c14 c15 c16 c17 c18 c19 c20 c21 c22 c23 c24 c25 c26 c27 c28 c29 c30 c31 c32 c33 c34 c35 c36 c37 c38 c39 c40 : Value) (df : List Deferred) (K : Act → World → Prop)
    (hK : ∀ (g13 k13 : Nat) (u26 u27 u28 u29 u30 u31 u32 u33 u34 u35 u36 u37 u38 u39 : Value) (wx : World), Owns w wx [⟨.slice (some ⟨g13, 0, none⟩) (i + 1) k13, 5, 1, i + 1, la ++ [bv (xr ^^^ Gf.mul xf xo)]⟩, no] → K ⟨#[.slice (some bX) n cx, .slice (some bY) m cy, c2, c3, c4, c5, c6, bv xf, .slice (some ⟨g13, 0, none⟩) (i + 1) k13, .int .i64 i, c10, c11, c12, c13, c14, c15, c16, c17, c18, c19, c20, c21, c22, c23, c24, c25, u26, u27, u28, u29, u30, u31, u32, u33, u34, u35, u36, u37, u38, u39, c40], df⟩ wx) :
    Code.wp Tryd.prog less_six_code (AtEnd K) ⟨#[.slice (some bX) n cx, .slice (some bY) m cy, c2, c3, c4, c5, c6, bv xf, .slice A i ca, .int .i64 i, c10, c11, c12, c13, c14, c15, c16, c17, c18, c19, c20, c21, c22, c23, c24, c25, c26, c27, c28, c29, c30, c31, c32, c33, c34, c35, c36, c37, c38, c39, c40], df⟩ wr := by
  conv => arg 2; whnf
  refine region_inv (by kernel_rfl) [[], [], [], [1, 2], [3], [], [], [], [6, 7], [8], [5, 9], [4, 10], [11], [0, 12, 10], [13, 13, 0, 1, 2, 3, 4, 5, 6, 7, 8, 9, 10, 11, 12, 13]] (by kernel_rfl) [0, 1, 2, 3, 4, 5, 6, 7, 8, 9, 10, 11, 12, 13, 14] (by decide +kernel) (by decide +kernel) (by decide +kernel) (fun L a wc => ∃ (g12 : Nat) (g13 : Nat) (k13 : Nat), InvO less_six_dsts [.slice A i ca, .slice (some bX) n cx, .int .i64 i, .pointer (some (bX.add i)), bv xr, bv xf, .slice (some bY) m cy, .int .i64 i, .pointer (some (bY.add i)), bv xo, bv (Gf.mul xf xo), bv (xr ^^^ Gf.mul xf xo), .slice (some ⟨g12, 0, none⟩) 1 1, .slice (some ⟨g13, 0, none⟩) (i + 1) k13, .slice (some ⟨g13, 0, none⟩) (i + 1) k13] ⟨#[.slice (some bX) n cx, .slice (some bY) m cy, c2, c3, c4, c5, c6, bv xf, .slice A i ca, .int .i64 i, c10, c11, c12, c13, c14, c15, c16, c17, c18, c19, c20, c21, c22, c23, c24, c25, c26, c27, c28, c29, c30, c31, c32, c33, c34, c35, c36, c37, c38, c39, c40], df⟩ L a ∧ Hid (Owns w wc [(if L 13 = true then ⟨.slice (some ⟨g13, 0, none⟩) (i + 1) k13, 5, 1, i + 1, la ++ [bv (xr ^^^ Gf.mul xf xo)]⟩ else ⟨.slice A i ca, 5, 1, i, la⟩), (if L 12 = true then ⟨.slice (some ⟨g12, 0, none⟩) 1 1, 5, 1, 1, [bv (xr ^^^ Gf.mul xf xo)]⟩ else no)])) ⟨0, 0, 0, InvO.start, HOO⟩ ?_ ?_
  · refine ⟨?_, ?_, ?_, ?_, ?_, ?_, ?_, ?_, ?_, ?_, ?_, ?_, ?_, ?_, ?_, trivial⟩
    · -- 0 move
      rintro L a wc ⟨g12, g13, k13, hv, HO⟩ hL hc hd
      exact wpOp_val rfl rfl (ex_move rfl ((hv.old 14 8 rfl (Bool.eq_false_iff.2 fun h => Bool.false_ne_true (hL.symm.trans (hc 14 h 0 (by decide))))).trans rfl)) ⟨g12, g13, k13, hv.put less_six_apart 0 rfl (Nat.le_of_ble_eq_true rfl) (Nat.le_of_ble_eq_true rfl) rfl, HO⟩
    · -- 1 move
      rintro L a wc ⟨g12, g13, k13, hv, HO⟩ hL hc hd
      exact wpOp_val rfl rfl (ex_move rfl ((hv.fixed 0 (by decide)).trans rfl)) ⟨g12, g13, k13, hv.put less_six_apart 1 rfl (Nat.le_of_ble_eq_true rfl) (Nat.le_of_ble_eq_true rfl) rfl, HO⟩
    · -- 2 move
      rintro L a wc ⟨g12, g13, k13, hv, HO⟩ hL hc hd
      exact wpOp_val rfl rfl (ex_move rfl ((hv.fixed 9 (by decide)).trans rfl)) ⟨g12, g13, k13, hv.put less_six_apart 2 rfl (Nat.le_of_ble_eq_true rfl) (Nat.le_of_ble_eq_true rfl) rfl, HO⟩
    · -- 3 index
      rintro L a wc ⟨g12, g13, k13, hv, HO⟩ hL hc hd
      have b1 : (0 : Int) ≤ (i : Int) := by omega
      have b2 : (i : Int) < (n : Int) := by omega
      exact wpOp_val rfl rfl (ex_index rfl (hv.get 1 rfl rfl (hd 1 (by decide))) (hv.get 2 rfl rfl (hd 2 (by decide))) (by go_simp)) ⟨g12, g13, k13, hv.put less_six_apart 3 rfl (Nat.le_of_ble_eq_true rfl) (Nat.le_of_ble_eq_true rfl) rfl, HO⟩
    · -- 4 load
      rintro L a wc ⟨g12, g13, k13, hv, HO⟩ hL hc hd
      have eX : wc.cell? (bX.add i) = some (bv xr) := HO.out.ext.cell hX.out
      exact wpOp_val rfl rfl (ex_load rfl (hv.get 3 rfl rfl (hd 3 (by decide))) (by go_simp)) ⟨g12, g13, k13, hv.put less_six_apart 4 rfl (Nat.le_of_ble_eq_true rfl) (Nat.le_of_ble_eq_true rfl) rfl, HO⟩
    · -- 5 move
      rintro L a wc ⟨g12, g13, k13, hv, HO⟩ hL hc hd
      exact wpOp_val rfl rfl (ex_move rfl ((hv.fixed 7 (by decide)).trans rfl)) ⟨g12, g13, k13, hv.put less_six_apart 5 rfl (Nat.le_of_ble_eq_true rfl) (Nat.le_of_ble_eq_true rfl) rfl, HO⟩
    · -- 6 move
      rintro L a wc ⟨g12, g13, k13, hv, HO⟩ hL hc hd
      exact wpOp_val rfl rfl (ex_move rfl ((hv.fixed 1 (by decide)).trans rfl)) ⟨g12, g13, k13, hv.put less_six_apart 6 rfl (Nat.le_of_ble_eq_true rfl) (Nat.le_of_ble_eq_true rfl) rfl, HO⟩
    · -- 7 move
      rintro L a wc ⟨g12, g13, k13, hv, HO⟩ hL hc hd
      exact wpOp_val rfl rfl (ex_move rfl ((hv.fixed 9 (by decide)).trans rfl)) ⟨g12, g13, k13, hv.put less_six_apart 7 rfl (Nat.le_of_ble_eq_true rfl) (Nat.le_of_ble_eq_true rfl) rfl, HO⟩
    · -- 8 index
      rintro L a wc ⟨g12, g13, k13, hv, HO⟩ hL hc hd
      have b1 : (0 : Int) ≤ (i : Int) := by omega
      have b2 : (i : Int) < (m : Int) := by omega
      exact wpOp_val rfl rfl (ex_index rfl (hv.get 6 rfl rfl (hd 6 (by decide))) (hv.get 7 rfl rfl (hd 7 (by decide))) (by go_simp)) ⟨g12, g13, k13, hv.put less_six_apart 8 rfl (Nat.le_of_ble_eq_true rfl) (Nat.le_of_ble_eq_true rfl) rfl, HO⟩
    · -- 9 load
      rintro L a wc ⟨g12, g13, k13, hv, HO⟩ hL hc hd
      have eY : wc.cell? (bY.add i) = some (bv xo) := HO.out.ext.cell hY.out
      exact wpOp_val rfl rfl (ex_load rfl (hv.get 8 rfl rfl (hd 8 (by decide))) (by go_simp)) ⟨g12, g13, k13, hv.put less_six_apart 9 rfl (Nat.le_of_ble_eq_true rfl) (Nat.le_of_ble_eq_true rfl) rfl, HO⟩
    · -- 10 call
      rintro L a wc ⟨g12, g13, k13, hv, HO⟩ hL hc hd
      refine wpOp_call (R := fun v w1 => v = bv (Gf.mul xf xo) ∧ wc = w1) rfl rfl (ex_call rfl rfl (map2c (hv.get 5 rfl rfl (hd 5 (by decide))) (hv.get 9 rfl rfl (hd 9 (by decide)))) (ent_rmul _ _)) ((rmul_u8 xf xo wc).mono (fun e w' h => ⟨_, h.1, rfl, h.2⟩)) ?_
      rintro v w' ⟨rfl, rfl⟩
      exact ⟨g12, g13, k13, hv.put less_six_apart 10 rfl (Nat.le_of_ble_eq_true rfl) (Nat.le_of_ble_eq_true rfl) rfl, HO⟩
    · -- 11 bin
      rintro L a wc ⟨g12, g13, k13, hv, HO⟩ hL hc hd
      have h := hxor.out
      exact wpOp_val rfl rfl (ex_bin rfl (hv.get 4 rfl rfl (hd 4 (by decide))) (hv.get 10 rfl rfl (hd 10 (by decide))) (by go_simp)) ⟨g12, g13, k13, hv.put less_six_apart 11 rfl (Nat.le_of_ble_eq_true rfl) (Nat.le_of_ble_eq_true rfl) rfl, HO⟩
    · -- 12 lines
      rintro L a wc ⟨g12, g13, k13, hv, HO⟩ hL hc hd
      have hn := HO.out.new 1 #[bv (xr ^^^ Gf.mul xf xo)] 5 (by simp [maxLen])
      exact wpOp_value rfl rfl (ex_build rfl Tryd.underlying45 info_u8 (hv.get 11 rfl rfl (hd 11 (by decide))) rfl) ⟨wc.heap.size, g13, k13, hv.put less_six_apart 12 rfl (Nat.le_of_ble_eq_true rfl) (Nat.le_of_ble_eq_true rfl) rfl, Lib.hid hn⟩
    · -- 13 lines
      rintro L a wc ⟨g12, g13, k13, hv, HO⟩ hL hc hd
      refine wpOp_append rfl rfl 45 5 rfl Tryd.underlying45 info_u8 rfl HO.out 0 (congrArg some (if_neg (by simp [hL]))) (hv.get 0 rfl rfl (hd 0 (by decide))) (hv.get 12 rfl rfl (hd 12 (by decide))) (HO.out.cell 1 (congrArg some (if_pos (hd 12 (by decide)))) 0 rfl) rfl (by omega) (by decide) ?_
      intro gg cc w2 hO2
      have hv := hv.reset 14 (Bool.eq_false_iff.2 fun h => Bool.false_ne_true (hL.symm.trans (hc 14 h 13 (by decide)))) (.slice (some ⟨gg, 0, none⟩) (i + 1) cc)
      exact ⟨g12, gg, cc, hv.put less_six_apart 13 rfl (Nat.le_of_ble_eq_true rfl) (Nat.le_of_ble_eq_true rfl) rfl, Lib.hid hO2⟩
    · -- 14 assign
      rintro L a wc ⟨g12, g13, k13, hv, HO⟩ hL hc hd
      exact wpOp_val rfl rfl (ex_assign rfl (hv.get 13 rfl rfl (hd 13 (by decide)))) ⟨g12, g13, k13, hv.put less_six_apart 14 rfl (Nat.le_of_ble_eq_true rfl) (Nat.le_of_ble_eq_true rfl) rfl, HO⟩
  · rintro L a wc ⟨g12, g13, k13, hv, HO⟩ hall
    show K a wc
    have ha := act_lit a
    rw [hv.size, hv.defers] at ha
    have hl : ∀ f : Nat → Value, ((List.range (⟨#[.slice (some bX) n cx, .slice (some bY) m cy, c2, c3, c4, c5, c6, bv xf, .slice A i ca, .int .i64 i, c10, c11, c12, c13, c14, c15, c16, c17, c18, c19, c20, c21, c22, c23, c24, c25, c26, c27, c28, c29, c30, c31, c32, c33, c34, c35, c36, c37, c38, c39, c40], df⟩ : Act).tmps.size).map f).toArray = #[f 0, f 1, f 2, f 3, f 4, f 5, f 6, f 7, f 8, f 9, f 10, f 11, f 12, f 13, f 14, f 15, f 16, f 17, f 18, f 19, f 20, f 21, f 22, f 23, f 24, f 25, f 26, f 27, f 28, f 29, f 30, f 31, f 32, f 33, f 34, f 35, f 36, f 37, f 38, f 39, f 40] := fun _ => rfl
    rw [hl] at ha
    simp only [hv.fixed 0 (by decide), hv.fixed 1 (by decide), hv.fixed 2 (by decide), hv.fixed 3 (by decide), hv.fixed 4 (by decide), hv.fixed 5 (by decide), hv.fixed 6 (by decide), hv.fixed 7 (by decide), hv.fixed 9 (by decide), hv.fixed 10 (by decide), hv.fixed 11 (by decide), hv.fixed 12 (by decide), hv.fixed 13 (by decide), hv.fixed 14 (by decide), hv.fixed 15 (by decide), hv.fixed 16 (by decide), hv.fixed 17 (by decide), hv.fixed 18 (by decide), hv.fixed 19 (by decide), hv.fixed 20 (by decide), hv.fixed 21 (by decide), hv.fixed 22 (by decide), hv.fixed 23 (by decide), hv.fixed 24 (by decide), hv.fixed 25 (by decide), hv.fixed 40 (by decide), hv.get 14 (d := 8) rfl rfl (hall 14 (by decide))] at ha
    rw [ha]
    have hO := HO.out
    simp only [hall 12 (by decide), hall 13 (by decide), if_true] at hO
    exact hK g13 k13 _ _ _ _ _ _ _ _ _ _ _ _ _ _ wc (hO.drop 1)

theorem rinv_u8 (b : UInt8) (hb : b ≠ 0) (w : World) : Calls Tryd.prog 96 #[bv b] w fun e w' => e = .returned (bv (Gf.inv b)) ∧ w = w' := by
  refine (rinv_nat b.toNat (Gf.lt8 b) w (fun h => hb (UInt8.toNat_inj.1 h))).mono ?_
  rintro e w' ⟨rfl, rfl⟩
  exact ⟨by rw [← Gf.inv_toNat], rfl⟩
set_option maxHeartbeats 1000000 in
theorem rLess_any (r o : List UInt8) (a : Nat) (VR VO : Value) (w : World) (hR : Rs RB w VR r) (hO : Rs RB w VO o) (hl : r.length ≤ 1000) (hlo : r.length ≤ o.length) (ha : a < r.length) (ho : o.getD a 0 ≠ 0) :
    Calls Tryd.prog 88 #[VR, VO, .int .i64 a] w fun e w' => ∃ A c, e = .returned (.slice A r.length c) ∧ Ext w w' ∧ w'.ownsRow w.heap.size 5 1 (.slice A r.length c) r.length ((Cd.lessR r o a).map bv) := by
  obtain ⟨RA, cr, rfl, _⟩ := hR.form
  obtain ⟨OA, co, rfl, hol⟩ := hO.form
  have hrd := hR.rd
  have hod := hO.rd
  obtain ⟨bX, rfl, _, hXa⟩ := hrd.at (k := a) (by simpa using ha)
  obtain ⟨bY, rfl, _, hYa⟩ := hod.at (k := a) (by simp; omega)
  rw [List.getElem_map] at hXa hYa
  have hao : a < o.length := by omega
  have hr0 : r[a] = r.getD a 0 := (getD_get ha).symm
  have ho0 : o[a] = o.getD a 0 := (getD_get hao).symm
  rw [hr0] at hXa
  rw [ho0] at hYa
  obtain ⟨f, hf⟩ : ∃ f, Gf.mul (r.getD a 0) (Gf.inv (o.getD a 0)) = f := ⟨_, rfl⟩
  have hls : ∀ k, k < r.length → (Cd.lessR r o a).getD k 0 = r.getD k 0 ^^^ Gf.mul f (o.getD k 0) := fun k hk => by rw [Cd.lessR_get hk, hf]
  have hll := Cd.lessR_len r o a
  obtain ⟨q, hq⟩ : ∃ q, Cd.lessR r o a = q := ⟨_, rfl⟩
  rw [hq] at hls hll ⊢
  obtain ⟨n, hn⟩ : ∃ n, r.length = n := ⟨_, rfl⟩
  obtain ⟨m, hm⟩ : ∃ m, o.length = m := ⟨_, rfl⟩
  rw [hn] at hl hlo ha hls hll ⊢
  rw [hm] at hlo hao hol ⊢
  have HRD := Lib.hid (And.intro hrd hod)
  have HLS := Lib.hid (And.intro hls hll)
  have HNM := Lib.hid (And.intro hn hm)
  have HF := Lib.hid hf
  have HO0 := Lib.hid ho
  obtain ⟨xa, hxa⟩ : ∃ xa, r.getD a 0 = xa := ⟨_, rfl⟩
  obtain ⟨ya, hya⟩ : ∃ ya, o.getD a 0 = ya := ⟨_, rfl⟩
  rw [hxa] at hXa
  rw [hya] at hYa
  have HXY := Lib.hid (And.intro hxa hya)
  have hXd : ∀ k, (w.drewN k).cell? (bX.add a) = some (bv xa) := fun k => hXa
  have hYd : ∀ k, (w.drewN k).cell? (bY.add a) = some (bv ya) := fun k => hYa
  clear hR hO hrd hod hls hll hn hm hf ho hr0 ho0 hxa hya hq
  go_enter Tryd.func88, Tryd.ntmps88
  go_wp2_with fail
  go_quiet (first
    | (go_at_call 96; exact quiet_left (rinv_u8 ya (by rw [← HXY.out.2]; exact HO0.out) _))
    | (go_at_call 95; exact quiet_add_left (rmul_u8 xa (Gf.inv ya) _))
    | (go_at_call 95; exact quiet_left (rmul_u8 xa (Gf.inv ya) _)))
  have hfe : Gf.mul xa (Gf.inv ya) = f := by rw [← HXY.out.1, ← HXY.out.2]; exact HF.out
  rw [hfe]
  have HX0 := Lib.hid ((Ext.refl w).drewN nq)
  have hst : Owns w (w.drewN nq) [⟨.slice none 0 0, 5, 1, 0, []⟩, no] := (Owns.start w (by intro r hr; simp [no] at hr; rcases hr with rfl | rfl <;> simp)).drewN nq
  have HST := Lib.hid hst
  clear hfe hXd hYd hXa hYa hst
  go_wp2_with fail
  go_loopw [8, 9] (fun vo vi wr => ∃ (i cp : Nat) (A : Option Addr), i ≤ n ∧ vi = .int .i64 i ∧ vo = .slice A i cp ∧ Hid (Owns w wr [⟨.slice A i cp, 5, 1, i, (q.take i).map bv⟩, no])) (fun _ vi _ => n - (intOf vi).toNat)
  case atStart => exact ⟨0, 0, none, Nat.zero_le _, rfl, rfl, Lib.hid (by simpa using HST.out)⟩
  case round =>
    obtain ⟨i, cp, A, hi, rfl, rfl, HI⟩ := hrel
    by_cases hlt : i < n
    · have hir : i < r.length := by rw [HNM.out.1]; exact hlt
      have him : i < o.length := by rw [HNM.out.2]; omega
      have hiq : i < q.length := by rw [HLS.out.2]; exact hlt
      have hX := HRD.out.1.all (k := i) (by simpa using hir)
      have hY := HRD.out.2.all (k := i) (by simpa using him)
      rw [List.getElem_map, ← getD_get (x := (0 : UInt8)) hir] at hX
      rw [List.getElem_map, ← getD_get (x := (0 : UInt8)) him] at hY
      have hqi : (q.take (i + 1)).map bv = (q.take i).map bv ++ [bv (r.getD i 0 ^^^ Gf.mul f (o.getD i 0))] := by
        rw [← HLS.out.1 i hlt, getD_get hiq, List.take_succ_eq_append_getElem hiq, List.map_append]; rfl
      obtain ⟨xr, hxr⟩ : ∃ xr, r.getD i 0 = xr := ⟨_, rfl⟩
      obtain ⟨xo, hxo⟩ : ∃ xo, o.getD i 0 = xo := ⟨_, rfl⟩
      rw [hxr] at hX hqi
      rw [hxo] at hY hqi
      have hxor : bits .xor .u8 (xr.toNat : Int) ((Gf.mul f xo).toNat : Int) = ((xr ^^^ Gf.mul f xo).toNat : Int) := by
        rw [u8_xor_nat _ _ (Gf.lt8 _) (Gf.lt8 _), UInt8.toNat_xor]
      have HH := Lib.hid (And.intro hX (And.intro hY (And.intro hqi hxor)))
      clear hX hY hqi hxor hxr hxo hir him hiq
      go_upto_region 6 with fail
      refine wp_atEnd' (less_six bX bY A n m cr co cp i xr xo f ((q.take i).map bv) w wr (by omega) hlt (by omega) (Lib.hid HH.out.2.2.2) (Lib.hid HH.out.1) (Lib.hid HH.out.2.1) (Lib.hid HI.out.drew) _ _ _ _ _ _ _ _ _ _ _ _ _ _ _ _ _ _ _ _ _ _ _ _ _ _ _ _ _ _ _ _ _ _ _ _ _ _ ?_)
      intros
      rename_i w8 hO8
      have HO8 := Lib.hid hO8
      clear hO8
      go_wp2_with fail
      go_roundw
      case rel => exact ⟨i + 1, _, _, by omega, by go_num, rfl, Lib.hid (by rw [HH.out.2.2.1]; exact HO8.out)⟩
      case measure => simp [intOf]; omega
    · obtain rfl : i = n := by omega
      go_wp2_with fail
      go_ret
      have hq : q.take i = q := by rw [← HLS.out.2, List.take_length]
      have h1 := HI.out
      rw [hq] at h1
      exact ⟨A, cp, rfl, h1.ext, h1.row 0 rfl⟩
end Go.Proofs.YtkbiffbmjgmcaaaDoor
/- THE WALK over the specification of codes: Rank. -/
namespace Go.Proofs.YtkbiffbmjgmcaaaDoor
open Go.RowKit
theorem rLess_at (r o : List UInt8) (a m : Nat) (VR VO : Value) (w : World) (hm : r.length = m) (hR : Rs RB w VR r) (hO : Rs RB w VO o) (hl : m ≤ 1000) (hlo : m ≤ o.length) (ha : a < m) (ho : o.getD a 0 ≠ 0) :
    Calls Tryd.prog 88 #[VR, VO, .int .i64 a] w fun e w' => ∃ A c, e = .returned (.slice A m c) ∧ Ext w w' ∧ w'.ownsRow w.heap.size 5 1 (.slice A m c) m ((Cd.lessR r o a).map bv) := by
  subst hm
  exact rLess_any r o a VR VO w hR hO hl hlo ha ho
/-- Values that are rows of bytes of a call's own. -/
def RowsIn (vs : List Value) (L : List LRow) (rs : List (List UInt8)) : Prop := vs.length = rs.length ∧ ∀ (j : Nat) (r : List UInt8), rs[j]? = some r → ∃ A2 c2, vs[j]? = some (.slice A2 r.length c2) ∧ byteRow A2 c2 r ∈ L
theorem RowsIn.nil (L : List LRow) : RowsIn [] L [] := ⟨rfl, fun j r h => by simp at h⟩
theorem RowsIn.mono {vs : List Value} {L M : List LRow} {rs : List (List UInt8)} (h : RowsIn vs L rs) (hm : ∀ x ∈ L, x ∈ M) : RowsIn vs M rs :=
  ⟨h.1, fun j r hj => by
    obtain ⟨A2, c2, h1, h2⟩ := h.2 j r hj
    exact ⟨A2, c2, h1, hm _ h2⟩⟩
theorem RowsIn.snoc {vs : List Value} {L : List LRow} {rs : List (List UInt8)} (h : RowsIn vs L rs) {A2 : Option Addr} {c2 m : Nat} {q : List UInt8} (hq : q.length = m) (hm : (⟨.slice A2 m c2, 5, 1, m, q.map bv⟩ : LRow) ∈ L) : RowsIn (vs ++ [.slice A2 m c2]) L (rs ++ [q]) := by
  subst hq
  refine ⟨by simp [h.1], fun j t h2 => ?_⟩
  rw [List.getElem?_append] at h2 ⊢
  rw [h.1]
  by_cases hj : j < rs.length
  · rw [if_pos hj] at h2 ⊢
    exact h.2 j t h2
  · rw [if_neg hj] at h2 ⊢
    cases hk : j - rs.length with
    | zero =>
      rw [hk] at h2
      simp at h2
      subst h2
      exact ⟨A2, c2, rfl, hm⟩
    | succ k => rw [hk] at h2; simp at h2
theorem RowsIn.rs {w0 w : World} {M : List LRow} (hO : Owns w0 w M) {i n c : Nat} {A : Option Addr} {vs : List Value} {rs : List (List UInt8)} (hi : M[i]? = some ⟨.slice A n c, 45, 1, n, vs⟩) (h : RowsIn vs M rs) (hl : rs.length ≤ 9223372036854775807) (hw : ∀ r ∈ rs, r.length ≤ 9223372036854775807) : Rs (Rs RB) w (.slice A n c) rs := by
  have h1 : vs.length = n * 1 := (hO.row i hi).1
  have hn : n = rs.length := by rw [← h.1]; omega
  subst hn
  refine ⟨A, c, rfl, hl, fun j r hj => ?_⟩
  obtain ⟨A2, c2, e1, e2⟩ := h.2 j r hj
  obtain ⟨ad, a1, _, a3⟩ := hO.rd i hi j _ e1
  obtain ⟨k, hk, e3⟩ := List.getElem_of_mem e2
  have e4 : M[k]? = some (byteRow A2 c2 r) := by rw [List.getElem?_eq_getElem hk, e3]
  exact ⟨ad, _, a1, a3, Rs.of_rd (hO.rd k (n := r.length) e4) (hw r (List.mem_of_getElem? hj))⟩
noncomputable def rank_app_code : Code := ((Tryd.f77.body.bind (regionOf 19)).getD .skip)
def rank_app_dsts : List (Option Nat) := [some 50, some 51, some 52, some 53, some 54, some 55, some 56, some 57, some 58, some 59, some 60, some 61, some 62, some 10]
theorem rank_app_apart : apartD rank_app_dsts = true := by decide +kernel
set_option maxRecDepth 1000000 in
set_option maxHeartbeats 16000000 in
theorem rank_app (bL : Addr) (A RA OA : Option Addr) (n cl i ca k p xa m cr mo co : Nat) (r o q : List UInt8) (vs : List Value) (L0 : List LRow) (w wr : World) (hi8 : i < 1000000) (hk : k < n) (hp : p < n) (hm : r.length = m) (hl : m ≤ 1000) (hlo : m ≤ o.length) (ha : xa < m) (ho : Hid (o.getD xa 0 ≠ 0)) (hq : Hid (q = Cd.lessR r o xa)) (hX : Hid (w.cell? (bL.add k) = some (.slice RA m cr))) (hY : Hid (w.cell? (bL.add p) = some (.slice OA mo co))) (HR : Hid (Rs RB w (.slice RA m cr) r)) (HS : Hid (Rs RB w (.slice OA mo co) o)) (HOO : Hid (Owns w wr.drew ([⟨.slice A i ca, 45, 1, i, vs⟩, no] ++ (L0 ++ [])))) (c0 c1 c2 c3 c4 c6 c9 c12 c13 c14 c15 c16 c17 c18 c19 c20 c21 c22 c23 c24 c25 c26 c27 c28 c29 c30 c31 c32 c33 c34 c35 c36 c37 c38 c39 c40 c41 c42 c43 c44 c45 c46 c47 c48 c49 c50 c51 c52 c53 c54 c55 c56 c57 c58 c59 c60 c61 c62 c63 c64 : Value) (df : List Deferred) (K : Act → World → Prop)
    (hK : ∀ (A2 : Option Addr) (ce g12 k12 : Nat) (u50 u51 u52 u53 u54 u55 u56 u57 u58 u59 u60 u61 u62 : Value) (wx : World), Owns w wx ([⟨.slice (some ⟨g12, 0, none⟩) (i + 1) k12, 45, 1, i + 1, vs ++ [.slice A2 m ce]⟩, no] ++ (L0 ++ [(⟨.slice A2 m ce, 5, 1, m, q.map bv⟩ : LRow)])) → K ⟨#[c0, c1, c2, c3, c4, .slice (some bL) n cl, c6, .int .i64 xa, .int .i64 p, c9, .slice (some ⟨g12, 0, none⟩) (i + 1) k12, .int .i64 k, c12, c13, c14, c15, c16, c17, c18, c19, c20, c21, c22, c23, c24, c25, c26, c27, c28, c29, c30, c31, c32, c33, c34, c35, c36, c37, c38, c39, c40, c41, c42, c43, c44, c45, c46, c47, c48, c49, u50, u51, u52, u53, u54, u55, u56, u57, u58, u59, u60, u61, u62, c63, c64], df⟩ wx) :
    Code.wp Tryd.prog rank_app_code (AtEnd K) ⟨#[c0, c1, c2, c3, c4, .slice (some bL) n cl, c6, .int .i64 xa, .int .i64 p, c9, .slice A i ca, .int .i64 k, c12, c13, c14, c15, c16, c17, c18, c19, c20, c21, c22, c23, c24, c25, c26, c27, c28, c29, c30, c31, c32, c33, c34, c35, c36, c37, c38, c39, c40, c41, c42, c43, c44, c45, c46, c47, c48, c49, c50, c51, c52, c53, c54, c55, c56, c57, c58, c59, c60, c61, c62, c63, c64], df⟩ wr := by
  conv => arg 2; whnf
  refine region_inv (by kernel_rfl) [[], [], [], [1, 2], [3], [], [], [5, 6], [7], [], [4, 8, 9], [10], [0, 11, 10], [12, 12, 0, 1, 2, 3, 4, 5, 6, 7, 8, 9, 10, 11, 12]] (by kernel_rfl) [0, 1, 2, 3, 4, 5, 6, 7, 8, 9, 10, 11, 12, 13] (by decide +kernel) (by decide +kernel) (by decide +kernel) (fun L a wc => ∃ (A2 : Option Addr) (ce : Nat) (g11 : Nat) (g12 : Nat) (k12 : Nat), InvO rank_app_dsts [.slice A i ca, .slice (some bL) n cl, .int .i64 k, .pointer (some (bL.add k)), .slice RA m cr, .slice (some bL) n cl, .int .i64 p, .pointer (some (bL.add p)), .slice OA mo co, .int .i64 xa, .slice A2 m ce, .slice (some ⟨g11, 0, none⟩) 1 1, .slice (some ⟨g12, 0, none⟩) (i + 1) k12, .slice (some ⟨g12, 0, none⟩) (i + 1) k12] ⟨#[c0, c1, c2, c3, c4, .slice (some bL) n cl, c6, .int .i64 xa, .int .i64 p, c9, .slice A i ca, .int .i64 k, c12, c13, c14, c15, c16, c17, c18, c19, c20, c21, c22, c23, c24, c25, c26, c27, c28, c29, c30, c31, c32, c33, c34, c35, c36, c37, c38, c39, c40, c41, c42, c43, c44, c45, c46, c47, c48, c49, c50, c51, c52, c53, c54, c55, c56, c57, c58, c59, c60, c61, c62, c63, c64], df⟩ L a ∧ Hid (Owns w wc ([(if L 12 = true then ⟨.slice (some ⟨g12, 0, none⟩) (i + 1) k12, 45, 1, i + 1, vs ++ [.slice A2 m ce]⟩ else ⟨.slice A i ca, 45, 1, i, vs⟩), (if L 11 = true then ⟨.slice (some ⟨g11, 0, none⟩) 1 1, 45, 1, 1, [.slice A2 m ce]⟩ else no)] ++ (L0 ++ (if L 10 = true then [(⟨.slice A2 m ce, 5, 1, m, q.map bv⟩ : LRow)] else []))))) ⟨none, 0, 0, 0, 0, InvO.start, HOO⟩ ?_ ?_
  · refine ⟨?_, ?_, ?_, ?_, ?_, ?_, ?_, ?_, ?_, ?_, ?_, ?_, ?_, ?_, trivial⟩
    · -- 0 move
      rintro L a wc ⟨A2, ce, g11, g12, k12, hv, HO⟩ hL hc hd
      exact wpOp_val rfl rfl (ex_move rfl ((hv.old 13 10 rfl (Bool.eq_false_iff.2 fun h => Bool.false_ne_true (hL.symm.trans (hc 13 h 0 (by decide))))).trans rfl)) ⟨A2, ce, g11, g12, k12, hv.put rank_app_apart 0 rfl (Nat.le_of_ble_eq_true rfl) (Nat.le_of_ble_eq_true rfl) rfl, HO⟩
    · -- 1 move
      rintro L a wc ⟨A2, ce, g11, g12, k12, hv, HO⟩ hL hc hd
      exact wpOp_val rfl rfl (ex_move rfl ((hv.fixed 5 (by decide)).trans rfl)) ⟨A2, ce, g11, g12, k12, hv.put rank_app_apart 1 rfl (Nat.le_of_ble_eq_true rfl) (Nat.le_of_ble_eq_true rfl) rfl, HO⟩
    · -- 2 move
      rintro L a wc ⟨A2, ce, g11, g12, k12, hv, HO⟩ hL hc hd
      exact wpOp_val rfl rfl (ex_move rfl ((hv.fixed 11 (by decide)).trans rfl)) ⟨A2, ce, g11, g12, k12, hv.put rank_app_apart 2 rfl (Nat.le_of_ble_eq_true rfl) (Nat.le_of_ble_eq_true rfl) rfl, HO⟩
    · -- 3 index
      rintro L a wc ⟨A2, ce, g11, g12, k12, hv, HO⟩ hL hc hd
      have b1 : (0 : Int) ≤ (k : Int) := by omega
      have b2 : (k : Int) < (n : Int) := by omega
      exact wpOp_val rfl rfl (ex_index rfl (hv.get 1 rfl rfl (hd 1 (by decide))) (hv.get 2 rfl rfl (hd 2 (by decide))) (by go_simp)) ⟨A2, ce, g11, g12, k12, hv.put rank_app_apart 3 rfl (Nat.le_of_ble_eq_true rfl) (Nat.le_of_ble_eq_true rfl) rfl, HO⟩
    · -- 4 load
      rintro L a wc ⟨A2, ce, g11, g12, k12, hv, HO⟩ hL hc hd
      have eX : wc.cell? (bL.add k) = some (.slice RA m cr) := HO.out.ext.cell hX.out
      exact wpOp_val rfl rfl (ex_load rfl (hv.get 3 rfl rfl (hd 3 (by decide))) (by go_simp)) ⟨A2, ce, g11, g12, k12, hv.put rank_app_apart 4 rfl (Nat.le_of_ble_eq_true rfl) (Nat.le_of_ble_eq_true rfl) rfl, HO⟩
    · -- 5 move
      rintro L a wc ⟨A2, ce, g11, g12, k12, hv, HO⟩ hL hc hd
      exact wpOp_val rfl rfl (ex_move rfl ((hv.fixed 5 (by decide)).trans rfl)) ⟨A2, ce, g11, g12, k12, hv.put rank_app_apart 5 rfl (Nat.le_of_ble_eq_true rfl) (Nat.le_of_ble_eq_true rfl) rfl, HO⟩
    · -- 6 move
      rintro L a wc ⟨A2, ce, g11, g12, k12, hv, HO⟩ hL hc hd
      exact wpOp_val rfl rfl (ex_move rfl ((hv.fixed 8 (by decide)).trans rfl)) ⟨A2, ce, g11, g12, k12, hv.put rank_app_apart 6 rfl (Nat.le_of_ble_eq_true rfl) (Nat.le_of_ble_eq_true rfl) rfl, HO⟩
    · -- 7 index
      rintro L a wc ⟨A2, ce, g11, g12, k12, hv, HO⟩ hL hc hd
      have b1 : (0 : Int) ≤ (p : Int) := by omega
      have b2 : (p : Int) < (n : Int) := by omega
      exact wpOp_val rfl rfl (ex_index rfl (hv.get 5 rfl rfl (hd 5 (by decide))) (hv.get 6 rfl rfl (hd 6 (by decide))) (by go_simp)) ⟨A2, ce, g11, g12, k12, hv.put rank_app_apart 7 rfl (Nat.le_of_ble_eq_true rfl) (Nat.le_of_ble_eq_true rfl) rfl, HO⟩
    · -- 8 load
      rintro L a wc ⟨A2, ce, g11, g12, k12, hv, HO⟩ hL hc hd
      have eY : wc.cell? (bL.add p) = some (.slice OA mo co) := HO.out.ext.cell hY.out
      exact wpOp_val rfl rfl (ex_load rfl (hv.get 7 rfl rfl (hd 7 (by decide))) (by go_simp)) ⟨A2, ce, g11, g12, k12, hv.put rank_app_apart 8 rfl (Nat.le_of_ble_eq_true rfl) (Nat.le_of_ble_eq_true rfl) rfl, HO⟩
    · -- 9 move
      rintro L a wc ⟨A2, ce, g11, g12, k12, hv, HO⟩ hL hc hd
      exact wpOp_val rfl rfl (ex_move rfl ((hv.fixed 7 (by decide)).trans rfl)) ⟨A2, ce, g11, g12, k12, hv.put rank_app_apart 9 rfl (Nat.le_of_ble_eq_true rfl) (Nat.le_of_ble_eq_true rfl) rfl, HO⟩
    · -- 10 call
      rintro L a wc ⟨A2, ce, g11, g12, k12, hv, HO⟩ hL hc hd
      refine wpOp_call (R := fun v w1 => ∃ A3 c3, v = .slice A3 m c3 ∧ Ext wc w1 ∧ w1.ownsRow wc.heap.size 5 1 (.slice A3 m c3) m (q.map bv)) rfl rfl (ex_call rfl rfl (map3c (hv.get 4 rfl rfl (hd 4 (by decide))) (hv.get 8 rfl rfl (hd 8 (by decide))) (hv.get 9 rfl rfl (hd 9 (by decide)))) (ent_less _ _)) ((rLess_at r o xa m (.slice RA m cr) (.slice OA mo co) wc hm (Rs.ext RB.ext _ _ _ _ HO.out.ext HR.out) (Rs.ext RB.ext _ _ _ _ HO.out.ext HS.out) hl hlo ha ho.out).mono (fun e w' ⟨A3, c3, h1, h2, h3⟩ => ⟨_, h1, A3, c3, rfl, h2, by rw [hq.out]; exact h3⟩)) ?_
      rintro v w' ⟨A3, c3, rfl, hx, ho2⟩
      have n11 : L 11 = false := Bool.eq_false_iff.2 fun h => Bool.false_ne_true (hL.symm.trans (hc 11 h 10 (by decide)))
      have n12 : L 12 = false := Bool.eq_false_iff.2 fun h => Bool.false_ne_true (hL.symm.trans (hc 11 (hc 12 h 11 (by decide)) 10 (by decide)))
      have h := HO.out.behind hx ho2
      simp only [hL, n11, n12, Bool.false_eq_true, if_false, List.append_nil] at h
      have h2 : Owns w w' ([(if L 12 = true then ⟨.slice (some ⟨g12, 0, none⟩) (i + 1) k12, 45, 1, i + 1, vs ++ [.slice A3 m c3]⟩ else ⟨.slice A i ca, 45, 1, i, vs⟩), (if L 11 = true then ⟨.slice (some ⟨g11, 0, none⟩) 1 1, 45, 1, 1, [.slice A3 m c3]⟩ else no)] ++ (L0 ++ [(⟨.slice A3 m c3, 5, 1, m, q.map bv⟩ : LRow)])) := by simp only [n11, n12, Bool.false_eq_true, if_false]; simpa using h
      exact ⟨A3, c3, g11, g12, k12, hv.put rank_app_apart 10 rfl (Nat.le_of_ble_eq_true rfl) (Nat.le_of_ble_eq_true rfl) rfl, Lib.hid h2⟩
    · -- 11 lines
      rintro L a wc ⟨A2, ce, g11, g12, k12, hv, HO⟩ hL hc hd
      have hn := HO.out.new 1 #[.slice A2 m ce] 45 (by simp [maxLen])
      exact wpOp_value rfl rfl (ex_build rfl Tryd.underlying65 info_bytes (hv.get 10 rfl rfl (hd 10 (by decide))) rfl) ⟨A2, ce, wc.heap.size, g12, k12, hv.put rank_app_apart 11 rfl (Nat.le_of_ble_eq_true rfl) (Nat.le_of_ble_eq_true rfl) rfl, Lib.hid hn⟩
    · -- 12 lines
      rintro L a wc ⟨A2, ce, g11, g12, k12, hv, HO⟩ hL hc hd
      refine wpOp_append rfl rfl 65 45 rfl Tryd.underlying65 info_bytes rfl HO.out 0 (congrArg some (if_neg (by simp [hL]))) (hv.get 0 rfl rfl (hd 0 (by decide))) (hv.get 11 rfl rfl (hd 11 (by decide))) (HO.out.cell 1 (congrArg some (if_pos (hd 11 (by decide)))) 0 rfl) rfl (by omega) (by decide) ?_
      intro gg cc w2 hO2
      have hv := hv.reset 13 (Bool.eq_false_iff.2 fun h => Bool.false_ne_true (hL.symm.trans (hc 13 h 12 (by decide)))) (.slice (some ⟨gg, 0, none⟩) (i + 1) cc)
      exact ⟨A2, ce, g11, gg, cc, hv.put rank_app_apart 12 rfl (Nat.le_of_ble_eq_true rfl) (Nat.le_of_ble_eq_true rfl) rfl, Lib.hid hO2⟩
    · -- 13 assign
      rintro L a wc ⟨A2, ce, g11, g12, k12, hv, HO⟩ hL hc hd
      exact wpOp_val rfl rfl (ex_assign rfl (hv.get 12 rfl rfl (hd 12 (by decide)))) ⟨A2, ce, g11, g12, k12, hv.put rank_app_apart 13 rfl (Nat.le_of_ble_eq_true rfl) (Nat.le_of_ble_eq_true rfl) rfl, HO⟩
  · rintro L a wc ⟨A2, ce, g11, g12, k12, hv, HO⟩ hall
    show K a wc
    have ha := act_lit a
    rw [hv.size, hv.defers] at ha
    have hl : ∀ f : Nat → Value, ((List.range (⟨#[c0, c1, c2, c3, c4, .slice (some bL) n cl, c6, .int .i64 xa, .int .i64 p, c9, .slice A i ca, .int .i64 k, c12, c13, c14, c15, c16, c17, c18, c19, c20, c21, c22, c23, c24, c25, c26, c27, c28, c29, c30, c31, c32, c33, c34, c35, c36, c37, c38, c39, c40, c41, c42, c43, c44, c45, c46, c47, c48, c49, c50, c51, c52, c53, c54, c55, c56, c57, c58, c59, c60, c61, c62, c63, c64], df⟩ : Act).tmps.size).map f).toArray = #[f 0, f 1, f 2, f 3, f 4, f 5, f 6, f 7, f 8, f 9, f 10, f 11, f 12, f 13, f 14, f 15, f 16, f 17, f 18, f 19, f 20, f 21, f 22, f 23, f 24, f 25, f 26, f 27, f 28, f 29, f 30, f 31, f 32, f 33, f 34, f 35, f 36, f 37, f 38, f 39, f 40, f 41, f 42, f 43, f 44, f 45, f 46, f 47, f 48, f 49, f 50, f 51, f 52, f 53, f 54, f 55, f 56, f 57, f 58, f 59, f 60, f 61, f 62, f 63, f 64] := fun _ => rfl
    rw [hl] at ha
    simp only [hv.fixed 0 (by decide), hv.fixed 1 (by decide), hv.fixed 2 (by decide), hv.fixed 3 (by decide), hv.fixed 4 (by decide), hv.fixed 5 (by decide), hv.fixed 6 (by decide), hv.fixed 7 (by decide), hv.fixed 8 (by decide), hv.fixed 9 (by decide), hv.fixed 11 (by decide), hv.fixed 12 (by decide), hv.fixed 13 (by decide), hv.fixed 14 (by decide), hv.fixed 15 (by decide), hv.fixed 16 (by decide), hv.fixed 17 (by decide), hv.fixed 18 (by decide), hv.fixed 19 (by decide), hv.fixed 20 (by decide), hv.fixed 21 (by decide), hv.fixed 22 (by decide), hv.fixed 23 (by decide), hv.fixed 24 (by decide), hv.fixed 25 (by decide), hv.fixed 26 (by decide), hv.fixed 27 (by decide), hv.fixed 28 (by decide), hv.fixed 29 (by decide), hv.fixed 30 (by decide), hv.fixed 31 (by decide), hv.fixed 32 (by decide), hv.fixed 33 (by decide), hv.fixed 34 (by decide), hv.fixed 35 (by decide), hv.fixed 36 (by decide), hv.fixed 37 (by decide), hv.fixed 38 (by decide), hv.fixed 39 (by decide), hv.fixed 40 (by decide), hv.fixed 41 (by decide), hv.fixed 42 (by decide), hv.fixed 43 (by decide), hv.fixed 44 (by decide), hv.fixed 45 (by decide), hv.fixed 46 (by decide), hv.fixed 47 (by decide), hv.fixed 48 (by decide), hv.fixed 49 (by decide), hv.fixed 63 (by decide), hv.fixed 64 (by decide), hv.get 13 (d := 10) rfl rfl (hall 13 (by decide))] at ha
    rw [ha]
    have hO := HO.out
    simp only [hall 10 (by decide), hall 11 (by decide), hall 12 (by decide), if_true] at hO
    exact hK A2 ce g12 k12 _ _ _ _ _ _ _ _ _ _ _ _ _ wc (hO.drop 1)
set_option maxHeartbeats 4000000 in
theorem rRank_any (rows : List (List UInt8)) (n : Nat) (V : Value) (w : World) (hV : Rs (Rs RB) w V rows) (hw : ∀ r ∈ rows, r.length = n) (hn : n ≤ 1000) (hlen : rows.length ≤ 1000) :
    Calls Tryd.prog 77 #[V, .int .i64 n] w fun e w' => e = .returned (.int .i64 (Cd.rankR rows n : Nat)) ∧ Ext w w' := by
  have hz := fun xa (ha : xa ≤ n) => Cd.rankTo_zero hw xa ha
  have hsz := fun xa => Nat.le_trans (Cd.rankTo_size rows xa) hlen
  have hle := fun xa => Cd.rankTo_le rows xa
  have h0 : Cd.rankTo rows 0 = (rows, 0) := by unfold Cd.rankTo; rfl
  have HZ := Lib.hid (And.intro hz (And.intro hsz hle))
  have HV0 : Hid (Ext w w ∧ Rs (Rs RB) w V (Cd.rankTo rows 0).1) := by rw [h0]; exact Lib.hid (And.intro (Ext.refl _) hV)
  have hr0 : (Cd.rankTo rows 0).2 = 0 := by rw [h0]
  clear hz hsz hle hV hw h0
  go_enter Tryd.func77, Tryd.ntmps77
  go_wp2_with fail
  go_loopw [5, 6, 7] (fun vl vr va wr => ∃ xa rk : Nat, xa ≤ n ∧ va = .int .i64 xa ∧ vr = .int .i64 rk ∧ rk ≤ 1000 ∧ Hid (rk = (Cd.rankTo rows xa).2) ∧ Hid (Ext w wr ∧ Rs (Rs RB) wr vl (Cd.rankTo rows xa).1)) (fun _ _ va _ => n - (intOf va).toNat)
  case atStart => exact ⟨0, 0, Nat.zero_le _, rfl, rfl, by omega, Lib.hid hr0.symm, HV0⟩
  case round =>
    obtain ⟨xa, rk, hxa, rfl, rfl, hrk, HRK, HR⟩ := hrel
    obtain ⟨wo, rfl⟩ : ∃ wo, wo = wr := ⟨_, rfl⟩
    clear hr0
    by_cases hlt : xa < n
    · have hz := HZ.out.1 xa (by omega)
      have hsz := HZ.out.2.1 xa
      have hnext : ∀ p, Cd.pivTo (Cd.rankTo rows xa).1 xa (Cd.rankTo rows xa).1.length = some p → Cd.rankTo rows (xa + 1) = (Cd.restTo (Cd.rankTo rows xa).1 p xa (Cd.rankTo rows xa).1.length, (Cd.rankTo rows xa).2 + 1) := fun p h => Cd.rankTo_yes h
      have hskip : Cd.pivTo (Cd.rankTo rows xa).1 xa (Cd.rankTo rows xa).1.length = none → Cd.rankTo rows (xa + 1) = Cd.rankTo rows xa := fun h => Cd.rankTo_no h
      have hrl := HR.out.2
      obtain ⟨l, hl⟩ : ∃ l, (Cd.rankTo rows xa).1 = l := ⟨_, rfl⟩
      rw [hl] at hz hsz hnext hskip hrl
      obtain ⟨LA, lc, rfl, hll⟩ := hrl.form
      have HN := Lib.hid (And.intro hnext hskip)
      have HZZ := Lib.hid (And.intro hz hl)
      have hp0 : Cd.pivTo l xa 0 = none := by unfold Cd.pivTo; rfl
      have HP0 := Lib.hid hp0
      obtain ⟨ll, hlle⟩ : ∃ ll, l.length = ll := ⟨_, rfl⟩
      rw [hlle] at hsz hll hrl ⊢
      have HRL := Lib.hid (And.intro HR.out.1 hrl)
      have HLL := Lib.hid hlle
      clear hz hnext hskip hrl hl hp0 hlle HR
      go_wp2_with fail
      go_loop [8, 9] (fun vp vk => ∃ (k : Nat) (pv : Int), k ≤ ll ∧ vk = .int .i64 k ∧ vp = .int .i64 pv ∧ -1 ≤ pv ∧ pv ≤ 1000 ∧ Hid ((pv < 0 ∧ Cd.pivTo l xa k = none) ∨ (0 ≤ pv ∧ Cd.pivTo l xa k = some pv.toNat))) (fun _ vk => ll - (intOf vk).toNat)
      case atStart => exact ⟨0, -1, Nat.zero_le _, rfl, rfl, by omega, by omega, Lib.hid (.inl (And.intro (by omega) HP0.out))⟩
      case round =>
        obtain ⟨k, pv, hk, rfl, rfl, hpv1, hpv2, HPV⟩ := hrel
        by_cases hpv : pv < 0
        · have hno : Cd.pivTo l xa k = none := by
            rcases HPV.out with h | h
            · exact h.2
            · omega
          have HNO := Lib.hid hno
          clear hno
          by_cases hkl : k < ll
          · have hkl2 : k < l.length := by rw [HLL.out]; exact hkl
            obtain ⟨ad, u, rfl, hc, hu⟩ := HRL.out.2.at hkl2
            obtain ⟨B, cB, rfl, hlB⟩ := hu.form
            have hul := (HZZ.out.1 _ (List.getElem_mem hkl2)).1
            have hub := hu.rd.at (k := xa) (by simp [hul]; exact hlt)
            have hgd := getD_get (x := ([] : List UInt8)) hkl2
            have hno := fun h => Cd.pivTo_no (l := l) (a := xa) (k := k) HNO.out h
            have hyes := fun h => Cd.pivTo_yes (l := l) (a := xa) (k := k) HNO.out h
            rw [hgd] at hno hyes
            obtain ⟨r, hr⟩ : ∃ r, l[k] = r := ⟨_, rfl⟩
            simp only [hr] at hub
            rw [hr] at hc hul hno hyes
            rw [hul] at hc
            have hxr : xa < r.length := by rw [hul]; exact hlt
            obtain ⟨bd, rfl, _, hb⟩ := hub
            rw [List.getElem_map, ← getD_get (x := (0 : UInt8)) hxr] at hb
            obtain ⟨xb, hxb⟩ : ∃ xb, r.getD xa 0 = xb := ⟨_, rfl⟩
            rw [hxb] at hb hno hyes
            have HY := Lib.hid (And.intro hno hyes)
            clear hu hlB hul hgd hno hyes hr hxr hxb
            by_cases hb0 : xb = 0
            · have e1 : ((xb.toNat : Int) != 0) = false := by rw [hb0]; rfl
              have HB := Lib.hid hb0
              clear hb0
              go_wp2_with fail
              go_round
              case rel => exact ⟨k + 1, pv, by omega, by go_num, rfl, by omega, by omega, Lib.hid (.inl (And.intro hpv (HY.out.1 HB.out)))⟩
              case measure => simp [intOf]; omega
            · have e1 : ((xb.toNat : Int) != 0) = true := by
                rw [bne_iff_ne]
                intro h
                exact hb0 (UInt8.toNat_inj.1 (by simpa using h))
              have HB := Lib.hid hb0
              clear hb0
              go_wp2_with fail
              go_round
              case rel => exact ⟨k + 1, (k : Int), by omega, by go_num, rfl, by omega, by omega, Lib.hid (.inr (And.intro (by omega) (by rw [Int.toNat_natCast]; exact HY.out.2 HB.out)))⟩
              case measure => simp [intOf]; omega
          · obtain rfl : k = ll := by omega
            have hsk := HN.out.2 (by rw [HLL.out]; exact HNO.out)
            have HSK := Lib.hid hsk
            clear hsk
            go_wp2_with fail
            go_roundw
            case rel => exact ⟨xa + 1, rk, by omega, by go_num, rfl, by omega, Lib.hid (by rw [HSK.out]; exact HRK.out), Lib.hid (by rw [HSK.out, HZZ.out.2]; exact HRL.out)⟩
            case measure => simp [intOf]; omega
        · obtain ⟨p, rfl⟩ : ∃ p : Nat, pv = p := ⟨pv.toNat, by omega⟩
          have hyes : Cd.pivTo l xa k = some p := by
            rcases HPV.out with h | h
            · omega
            · simpa using h.2
          have hful : Cd.pivTo l xa l.length = some p := Cd.pivTo_mono hyes (by rw [HLL.out]; exact hk)
          obtain ⟨hpl, hpn⟩ := Cd.pivTo_spec hful
          have hstep := HN.out.1 p hful
          obtain ⟨bL, u2, rfl, hc2, hu2⟩ := HRL.out.2.at hpl
          obtain ⟨OA, oc, rfl, hlO⟩ := hu2.form
          have hol := (HZZ.out.1 _ (List.getElem_mem hpl)).1
          have hgp := getD_get (x := ([] : List UInt8)) hpl
          have hrlen : ∀ m, (Cd.restTo l p xa m).length ≤ m := Cd.restTo_len l p xa
          have hrle := HZ.out.2.2 xa
          rw [← HRK.out] at hrle
          have hpl2 : p < ll := by rw [← HLL.out]; exact hpl
          have HST := Lib.hid (And.intro hstep (And.intro hpn hrlen))
          have HO := Lib.hid (And.intro hc2 (And.intro hu2 (And.intro hol hgp)))
          have hr0 : Cd.restTo l p xa 0 = [] := by unfold Cd.restTo; rfl
          have HR0 := Lib.hid hr0
          clear hyes hful hpn hstep hc2 hu2 hlO hol hgp hrlen hr0
          by_cases hkl : k < ll
          all_goals
            go_wp2_with fail
            go_loopw [10, 11] (fun vo vj wr => ∃ (j i ca : Nat) (A : Option Addr) (vs : List Value) (L0 : List LRow), j ≤ ll ∧ vj = .int .i64 j ∧ vo = .slice A i ca ∧ i ≤ j ∧ Hid (Owns wo wr ([⟨.slice A i ca, 45, 1, i, vs⟩, no] ++ (L0 ++ [])) ∧ RowsIn vs L0 (Cd.restTo l p xa j))) (fun _ vj _ => ll - (intOf vj).toNat)
            case atStart => exact ⟨0, 0, 0, none, [], [], Nat.zero_le _, rfl, rfl, Nat.le_refl _, Lib.hid (And.intro (Owns.start wo (by intro r hr; simp [no] at hr; rcases hr with rfl | rfl <;> simp)) (by rw [HR0.out]; exact RowsIn.nil _))⟩
            case round =>
              obtain ⟨j, i, ca, A, vs, L0, hj, rfl, rfl, hij, HJ⟩ := hrel
              by_cases hjl : j < ll
              · by_cases hjp : j = p
                · have e1 : ((j : Int) != (p : Int)) = false := by rw [hjp]; simp
                  have hs : Cd.restTo l p xa (j + 1) = Cd.restTo l p xa j := by rw [hjp]; exact Cd.restTo_skip l p xa
                  have HS := Lib.hid hs
                  clear hjp hs
                  go_wp2_with fail
                  go_roundw
                  case rel => exact ⟨j + 1, i, ca, A, vs, L0, by omega, by go_num, rfl, by omega, Lib.hid (by rw [HS.out]; exact HJ.out)⟩
                  case measure => simp [intOf]; omega
                · have e1 : ((j : Int) != (p : Int)) = true := by rw [bne_iff_ne]; omega
                  have hs := Cd.restTo_next (l := l) (a := xa) hjp
                  have hjl2 : j < l.length := by rw [HLL.out]; exact hjl
                  obtain ⟨ad, u, ea, hc, hu⟩ := HRL.out.2.at hjl2
                  injection ea with ea
                  subst ea
                  obtain ⟨RA, cr, rfl, hlR⟩ := hu.form
                  have hrl := (HZZ.out.1 _ (List.getElem_mem hjl2)).1
                  rw [getD_get hjl2, HO.out.2.2.2] at hs
                  have hpp := HO.out
                  rw [hpp.2.2.1] at hpp
                  have HSS := Lib.hid (And.intro hs (And.intro hc (And.intro hu hrl)))
                  clear hs hc hu hrl hlR hjp hpp
                  go_upto_region 19 with fail
                  refine wp_atEnd' (rank_app bL A RA OA ll lc i ca j p xa n cr n oc l[j] l[p] _ vs L0 wo wr (by omega) hjl hpl2 HSS.out.2.2.2 hn (by rw [HO.out.2.2.1]; exact Nat.le_refl _) hlt (Lib.hid (by rw [← HO.out.2.2.2]; exact HST.out.2.1)) (Lib.hid rfl) (Lib.hid (by rw [← HSS.out.2.2.2]; exact HSS.out.2.1)) (Lib.hid (by rw [← HO.out.2.2.1]; exact HO.out.1)) (Lib.hid (by rw [← HSS.out.2.2.2]; exact HSS.out.2.2.1)) (Lib.hid (by rw [← HO.out.2.2.1]; exact HO.out.2.1)) (Lib.hid HJ.out.1.drew) _ _ _ _ _ _ _ _ _ _ _ _ _ _ _ _ _ _ _ _ _ _ _ _ _ _ _ _ _ _ _ _ _ _ _ _ _ _ _ _ _ _ _ _ _ _ _ _ _ _ _ _ _ _ _ _ _ _ _ _ _ _ ?_)
                  intro A9 c9 g9 k9
                  intros
                  rename_i wx hOx
                  have hrs : RowsIn (vs ++ [.slice A9 n c9]) (L0 ++ [(⟨.slice A9 n c9, 5, 1, n, (Cd.lessR l[j] l[p] xa).map bv⟩ : LRow)]) (Cd.restTo l p xa j ++ [Cd.lessR l[j] l[p] xa]) := (HJ.out.2.mono (fun x hx => List.mem_append_left _ hx)).snoc (by rw [Cd.lessR_len]; exact HSS.out.2.2.2) (List.mem_append_right _ (List.mem_singleton.2 rfl))
                  have HOX := Lib.hid (And.intro hOx hrs)
                  clear hOx hrs
                  go_wp2_with fail
                  go_roundw
                  case rel => exact ⟨j + 1, i + 1, _, _, _, _, by omega, by go_num, rfl, by omega, Lib.hid (And.intro (by simpa using HOX.out.1) (by rw [HSS.out.1]; exact HOX.out.2))⟩
                  case measure => simp [intOf]; omega
              · obtain rfl : j = ll := by omega
                have hrest : Rs (Rs RB) wr (.slice A i ca) (Cd.restTo l p xa j) := RowsIn.rs HJ.out.1 (i := 0) rfl (HJ.out.2.mono (fun x hx => by simp [hx])) (by have := HST.out.2.2 j; omega) (fun r hr => by
                  obtain ⟨k2, h1, h2, rfl⟩ := Cd.restTo_mem.1 hr
                  rw [Cd.lessR_len]
                  have h3 := (HZZ.out.1 _ (Cd.getD_mem (l := l) (k := k2) (x := []) (by rw [HLL.out]; exact h1))).1
                  omega)
                have HREST := Lib.hid (And.intro (HRL.out.1.trans HJ.out.1.ext) hrest)
                clear hrest
                go_wp2_with fail
                go_roundw
                case rel => exact ⟨xa + 1, rk + 1, by omega, by go_num, by go_num, by omega, Lib.hid (by rw [HST.out.1, HRK.out]), Lib.hid (by rw [HST.out.1]; show _ ∧ Rs (Rs RB) _ _ (Cd.restTo l p xa l.length); rw [HLL.out]; exact HREST.out)⟩
                case measure => simp [intOf]; omega
    · obtain rfl : xa = n := by omega
      go_wp2_with fail
      go_ret
      exact ⟨ret_int (by rw [HRK.out]; rfl), HR.out.1⟩
end Go.Proofs.YtkbiffbmjgmcaaaDoor
/- THE WALK over the specification of codes: Recoverable. -/
namespace Cd
theorem can_nat {d gl m : Nat} {gs : List (List Int)} {R : List (List UInt8)} (h : check d gs gl = 0) (hR : rowsOf d gs gl = R) (hm : m < 2 ^ R.length) : can d gl gs (m : Int) = ((rankR (pickTo R m R.length) d : Int) == (d : Int)) := by
  subst hR
  have hw : ∀ r ∈ pickTo (rowsOf d gs gl) m (rowsOf d gs gl).length, r.length = d := fun r hr => by have := rowsOf_width h (pickTo_mem hr); simpa using this
  rw [Bool.eq_iff_iff, can_def, beq_iff_eq]
  have hi := rank_iff hw
  show _ ∧ _ ∧ (Gf.stairs d (pick (rowsOf d gs gl) m)).length = d ↔ _
  unfold pick
  rw [← hi]
  constructor
  · rintro ⟨_, _, h3⟩; rw [h3]
  · intro h3; exact ⟨h, hm, by omega⟩
theorem can_no {d gl m : Int} {gs : List (List Int)} (h : check d gs gl ≠ 0 ∨ isSet d gs gl m = false) : can d gl gs m = false := by
  unfold can
  rw [decide_eq_false_iff_not]
  rintro ⟨h0, h1, h2, _⟩
  rcases h with h | h
  · exact h h0
  · unfold isSet at h
    rw [decide_eq_false_iff_not] at h
    apply h
    have hl := rowsOf_len h0
    have hp := pieces_ok h0
    rw [← hl] at hp
    rw [hp, Int.toNat_natCast]
    exact ⟨h1, by rw [Go.Proofs.YtkbiffbmjgmcaaaDoor.nat_pow_cast] at h2; exact h2⟩
theorem pickTo_len (R : List (List UInt8)) (m : Nat) : ∀ k, (pickTo R m k).length ≤ k
  | 0 => by simp [pickTo_zero]
  | k + 1 => by
    have ih := pickTo_len R m k
    unfold pickTo at ih ⊢
    rw [List.range_succ, List.filterMap_append, List.length_append]
    have : (List.filterMap (fun i => if bitAt m i = 1 then R[i]? else none) [k]).length ≤ 1 := List.length_filterMap_le _ _
    omega
end Cd
namespace Go.Proofs.YtkbiffbmjgmcaaaDoor
open Go.RowKit
theorem ent_rank : ∀ args w, (callFunc 77 args).run Tryd.prog w = .ok (.enter 77 args) w := enters_of Tryd.func77 (by kernel_rfl) rfl
noncomputable def rec_last_code : Code := ((Tryd.f60.body.bind (regionOf 13)).getD .skip)
def rec_last_dsts : List (Option Nat) := [some 33, some 34, some 35, some 36, some 37, some 38, some 39, some 4]
theorem rec_last_apart : apartD rec_last_dsts = true := by decide +kernel
set_option maxRecDepth 1000000 in
set_option maxHeartbeats 16000000 in
theorem rec_last (B i cp d : Nat) (A : Option Addr) (bb : Bool) (rs : List (List UInt8)) (wr : World) (hd16 : d ≤ 16) (hl : rs.length ≤ 1000) (h0 : wr.cell? ⟨B, 0, none⟩ = some (.int .i64 d)) (HR : Hid (Rs (Rs RB) wr (.slice A i cp) rs)) (hw : Hid (∀ r ∈ rs, r.length = d)) (hb : Hid (((Cd.rankR rs d : Int) == (d : Int)) = bb)) (c0 c1 c3 c4 c5 c7 c8 c9 c10 c11 c12 c13 c14 c15 c16 c17 c18 c19 c20 c21 c22 c23 c24 c25 c26 c27 c28 c29 c30 c31 c32 c33 c34 c35 c36 c37 c38 c39 : Value) (df : List Deferred) (K : Act → World → Prop)
    (hK : ∀  (u33 u34 u35 u36 u37 u38 u39 : Value) (wx : World), Ext wr wx → K ⟨#[c0, c1, .pointer (some ⟨B, 0, none⟩), c3, .bool bb, c5, .slice A i cp, c7, c8, c9, c10, c11, c12, c13, c14, c15, c16, c17, c18, c19, c20, c21, c22, c23, c24, c25, c26, c27, c28, c29, c30, c31, c32, u33, u34, u35, u36, u37, u38, u39], df⟩ wx) :
    Code.wp Tryd.prog rec_last_code (AtEnd K) ⟨#[c0, c1, .pointer (some ⟨B, 0, none⟩), c3, c4, c5, .slice A i cp, c7, c8, c9, c10, c11, c12, c13, c14, c15, c16, c17, c18, c19, c20, c21, c22, c23, c24, c25, c26, c27, c28, c29, c30, c31, c32, c33, c34, c35, c36, c37, c38, c39], df⟩ wr := by
  conv => arg 2; whnf
  refine region_inv (by kernel_rfl) [[], [], [1], [0, 2], [], [4], [3, 5], [6, 3, 0, 1, 2, 3, 4, 5, 6]] (by kernel_rfl) [0, 1, 2, 3, 4, 5, 6, 7] (by decide +kernel) (by decide +kernel) (by decide +kernel) (fun L a wc => Inv rec_last_dsts [.slice A i cp, .pointer (some ⟨B, 0, none⟩), .int .i64 d, .int .i64 (Cd.rankR rs d : Nat), .pointer (some ⟨B, 0, none⟩), .int .i64 d, .bool bb, .bool bb] ⟨#[c0, c1, .pointer (some ⟨B, 0, none⟩), c3, c4, c5, .slice A i cp, c7, c8, c9, c10, c11, c12, c13, c14, c15, c16, c17, c18, c19, c20, c21, c22, c23, c24, c25, c26, c27, c28, c29, c30, c31, c32, c33, c34, c35, c36, c37, c38, c39], df⟩ L a ∧ Hid (Ext wr wc)) ⟨Inv.start, Lib.hid ((Ext.refl wr).drew)⟩ ?_ ?_
  · refine ⟨?_, ?_, ?_, ?_, ?_, ?_, ?_, ?_, trivial⟩
    · -- 0 move
      rintro L a wc ⟨hv, HO⟩ hL hc hd
      exact wpOp_val rfl rfl (ex_move rfl ((hv.fixed 6 (by decide)).trans rfl)) ⟨hv.put rec_last_apart 0 rfl (Nat.le_of_ble_eq_true rfl) (Nat.le_of_ble_eq_true rfl) rfl, HO⟩
    · -- 1 field
      rintro L a wc ⟨hv, HO⟩ hL hc hd
      exact wpOp_val rfl rfl (ex_field rfl ((hv.fixed 2 (by decide)).trans rfl) (by go_simp)) ⟨hv.put rec_last_apart 1 rfl (Nat.le_of_ble_eq_true rfl) (Nat.le_of_ble_eq_true rfl) rfl, HO⟩
    · -- 2 load
      rintro L a wc ⟨hv, HO⟩ hL hc hd
      have e0 : wc.cell? ⟨B, 0, none⟩ = some (.int .i64 d) := HO.out.cell h0
      exact wpOp_val rfl rfl (ex_load rfl (hv.get 1 rfl rfl (hd 1 (by decide))) (by go_simp)) ⟨hv.put rec_last_apart 2 rfl (Nat.le_of_ble_eq_true rfl) (Nat.le_of_ble_eq_true rfl) rfl, HO⟩
    · -- 3 call
      rintro L a wc ⟨hv, HO⟩ hL hc hd
      refine wpOp_call (R := fun v w1 => v = .int .i64 (Cd.rankR rs d : Nat) ∧ Ext wc w1) rfl rfl (ex_call rfl rfl (map2c (hv.get 0 rfl rfl (hd 0 (by decide))) (hv.get 2 rfl rfl (hd 2 (by decide)))) (ent_rank _ _)) ((rRank_any rs d (.slice A i cp) wc (Rs.ext (Rs.ext RB.ext) _ _ _ _ HO.out HR.out) hw.out (by omega) hl).mono (fun e w' h => ⟨_, h.1, rfl, h.2⟩)) ?_
      rintro v w' ⟨rfl, hx⟩
      exact ⟨hv.put rec_last_apart 3 rfl (Nat.le_of_ble_eq_true rfl) (Nat.le_of_ble_eq_true rfl) rfl, Lib.hid (HO.out.trans hx)⟩
    · -- 4 field
      rintro L a wc ⟨hv, HO⟩ hL hc hd
      exact wpOp_val rfl rfl (ex_field rfl ((hv.fixed 2 (by decide)).trans rfl) (by go_simp)) ⟨hv.put rec_last_apart 4 rfl (Nat.le_of_ble_eq_true rfl) (Nat.le_of_ble_eq_true rfl) rfl, HO⟩
    · -- 5 load
      rintro L a wc ⟨hv, HO⟩ hL hc hd
      have e0 : wc.cell? ⟨B, 0, none⟩ = some (.int .i64 d) := HO.out.cell h0
      exact wpOp_val rfl rfl (ex_load rfl (hv.get 4 rfl rfl (hd 4 (by decide))) (by go_simp)) ⟨hv.put rec_last_apart 5 rfl (Nat.le_of_ble_eq_true rfl) (Nat.le_of_ble_eq_true rfl) rfl, HO⟩
    · -- 6 bin
      rintro L a wc ⟨hv, HO⟩ hL hc hd
      have h := hb.out
      exact wpOp_val rfl rfl (ex_bin rfl (hv.get 3 rfl rfl (hd 3 (by decide))) (hv.get 5 rfl rfl (hd 5 (by decide))) (by go_simp)) ⟨hv.put rec_last_apart 6 rfl (Nat.le_of_ble_eq_true rfl) (Nat.le_of_ble_eq_true rfl) rfl, HO⟩
    · -- 7 assign
      rintro L a wc ⟨hv, HO⟩ hL hc hd
      exact wpOp_val rfl rfl (ex_assign rfl (hv.get 6 rfl rfl (hd 6 (by decide)))) ⟨hv.put rec_last_apart 7 rfl (Nat.le_of_ble_eq_true rfl) (Nat.le_of_ble_eq_true rfl) rfl, HO⟩
  · rintro L a wc ⟨hv, HO⟩ hall
    show K a wc
    have ha := act_lit a
    rw [hv.size, hv.defers] at ha
    have hl : ∀ f : Nat → Value, ((List.range (⟨#[c0, c1, .pointer (some ⟨B, 0, none⟩), c3, c4, c5, .slice A i cp, c7, c8, c9, c10, c11, c12, c13, c14, c15, c16, c17, c18, c19, c20, c21, c22, c23, c24, c25, c26, c27, c28, c29, c30, c31, c32, c33, c34, c35, c36, c37, c38, c39], df⟩ : Act).tmps.size).map f).toArray = #[f 0, f 1, f 2, f 3, f 4, f 5, f 6, f 7, f 8, f 9, f 10, f 11, f 12, f 13, f 14, f 15, f 16, f 17, f 18, f 19, f 20, f 21, f 22, f 23, f 24, f 25, f 26, f 27, f 28, f 29, f 30, f 31, f 32, f 33, f 34, f 35, f 36, f 37, f 38, f 39] := fun _ => rfl
    rw [hl] at ha
    simp only [hv.fixed 0 (by decide), hv.fixed 1 (by decide), hv.fixed 2 (by decide), hv.fixed 3 (by decide), hv.fixed 5 (by decide), hv.fixed 6 (by decide), hv.fixed 7 (by decide), hv.fixed 8 (by decide), hv.fixed 9 (by decide), hv.fixed 10 (by decide), hv.fixed 11 (by decide), hv.fixed 12 (by decide), hv.fixed 13 (by decide), hv.fixed 14 (by decide), hv.fixed 15 (by decide), hv.fixed 16 (by decide), hv.fixed 17 (by decide), hv.fixed 18 (by decide), hv.fixed 19 (by decide), hv.fixed 20 (by decide), hv.fixed 21 (by decide), hv.fixed 22 (by decide), hv.fixed 23 (by decide), hv.fixed 24 (by decide), hv.fixed 25 (by decide), hv.fixed 26 (by decide), hv.fixed 27 (by decide), hv.fixed 28 (by decide), hv.fixed 29 (by decide), hv.fixed 30 (by decide), hv.fixed 31 (by decide), hv.fixed 32 (by decide), hv.get 7 (d := 4) rfl rfl (hall 7 (by decide))] at ha
    rw [ha]
    exact hK _ _ _ _ _ _ _ wc HO.out
set_option maxHeartbeats 4000000 in
theorem rRec_ok (d gl m : Nat) (gs : List (List Int)) (G : Value) (w : World) (hG : Rs (Rs RI) w G gs) (h0 : Cd.check d gs gl = 0) (hs : Cd.isSet d gs gl m = true) :
    Calls Tryd.prog 60 #[.agg #[.int .i64 d, G, .int .i64 gl], .int .i64 m] w fun e w' => e = .returned (.bool (Cd.can d gl gs m)) ∧ Ext w w' := by
  have hx0 := (Ext.refl w).alloc (.cells #[.int .i64 d, G, .int .i64 gl] 28)
  have HX := Lib.hid (And.intro hx0 (Rs.ext (Rs.ext RI.ext) _ _ _ _ hx0 hG))
  obtain ⟨GA, Gc, rfl, hgl⟩ := hG.form
  have hck := Cd.check_ok h0
  obtain ⟨k1, k2, k3, k4, k5, k6⟩ := hck
  have hgn : gs.length ≤ 1000000 := by omega
  obtain ⟨p, hp⟩ : ∃ p, d + gs.length + gl = p := ⟨_, rfl⟩
  have hpc : Cd.pieces d gs gl = (p : Int) := by rw [Cd.pieces_ok h0]; omega
  have hrow : ∀ k, k < p → (Cd.rowsOf d gs gl).getD k [] = (List.range d).map (Cd.rowAt d gs k) := fun k hk => by
    rw [Cd.rowsOf_ok h0]
    exact Cd.rows_get (by show k < d + gs.length + gl; rw [hp]; exact hk)
  have hrl : (Cd.rowsOf (d : Int) gs (gl : Int)).length = p := by rw [Cd.rowsOf_ok h0, Cd.rows_len, ← hp]; rfl
  have hwd : ∀ r ∈ Cd.rowsOf (d : Int) gs (gl : Int), r.length = d := fun r hr => by have := Cd.rowsOf_width h0 hr; simpa using this
  obtain ⟨R, hR⟩ : ∃ R, Cd.rowsOf (d : Int) gs (gl : Int) = R := ⟨_, rfl⟩
  rw [hR] at hrow hrl hwd
  have hm : m < 2 ^ p := by
    unfold Cd.isSet at hs
    rw [decide_eq_true_eq, hpc, Int.toNat_natCast] at hs
    omega
  have hcan := Cd.can_nat (m := m) h0 hR (by rw [hrl]; exact hm)
  rw [hrl] at hcan
  have hp24 : p ≤ 24 := by omega
  have hm24 : m ≤ 16777216 := by
    have : 2 ^ p ≤ 2 ^ 24 := Nat.pow_le_pow_right (by omega) hp24
    omega
  have hd16 : d ≤ 16 := by omega
  have e1 : (Cd.check (d : Int) gs (gl : Int) != 0) = false := by rw [h0]; rfl
  have HC := Lib.hid (And.intro h0 (And.intro hs (And.intro hpc hp)))
  have HP := Lib.hid (And.intro hrow (And.intro hrl (And.intro hwd hcan)))
  clear hG hx0 h0 hs hpc hp hrow hrl hwd hR hcan hm k1 k3 k4 k5 k6
  have step : ∀ (w2 : World), Ext (w.alloc (.cells #[.int .i64 d, .slice GA gs.length Gc, .int .i64 gl] 28)) w2 →
      w2.cell? ⟨w.heap.size, 0, none⟩ = some (.int .i64 d) ∧ w2.cell? ⟨w.heap.size, 1, none⟩ = some (.slice GA gs.length Gc) ∧ w2.cell? ⟨w.heap.size, 2, none⟩ = some (.int .i64 gl) := fun w2 hx => ⟨hx.cell (by go_simp), hx.cell (by go_simp), hx.cell (by go_simp)⟩
  have ST := Lib.hid step
  clear step
  go_enter Tryd.func60, Tryd.ntmps60
  go_wp2_with fail
  refine (rCheck_any d gl gs _ _ HX.out.2 hgn).mono ?_
  rintro e w1 ⟨rfl, hx1⟩
  obtain ⟨c0, c1, c2⟩ := ST.out w1 hx1
  have HX1 := Lib.hid hx1
  clear hx1
  go_wp2_with fail
  clear c0 c1 c2
  refine (rIsSet_any d gl gs m _ _ (Rs.ext (Rs.ext RI.ext) _ _ _ _ HX1.out HX.out.2) hgn).mono ?_
  rintro e w2 ⟨rfl, hx2⟩
  rw [HC.out.2.1]
  have HX2 := Lib.hid (HX1.out.trans hx2)
  have hnil : RowsOwn (w.alloc (.cells #[.int .i64 d, .slice GA gs.length Gc, .int .i64 gl] 28)) w2 none 0 0 (Cd.pickTo R m 0) := by
    rw [Cd.pickTo_zero]
    exact (RowsOwn.nil _).next HX2.out
  have HNIL := Lib.hid hnil
  clear hx2 hnil
  go_wp2_with fail
  go_loopw [6, 7] (fun vo vi wr => ∃ (k i : Nat) (A : Option Addr) (cp : Nat), k ≤ p ∧ i ≤ k ∧ vi = .int .i64 k ∧ vo = .slice A i cp ∧ Hid (RowsOwn (w.alloc (.cells #[.int .i64 d, .slice GA gs.length Gc, .int .i64 gl] 28)) wr A i cp (Cd.pickTo R m k))) (fun _ vi _ => p - (intOf vi).toNat)
  case atStart => exact ⟨0, 0, none, 0, Nat.zero_le _, Nat.le_refl _, rfl, rfl, HNIL⟩
  case round =>
    obtain ⟨k, i, A, cp, hk, hik, rfl, rfl, HR⟩ := hrel
    obtain ⟨c0, c1, c2⟩ := ST.out wr HR.out.ext
    go_wp2_with fail
    clear c0 c1 c2
    refine (rPieces_any d gl gs _ _ (Rs.ext (Rs.ext RI.ext) _ _ _ _ HR.out.ext HX.out.2) hgn).mono ?_
    rintro e w3 ⟨rfl, hx3⟩
    rw [HC.out.2.2.1]
    have HR3 := Lib.hid (HR.out.next hx3)
    obtain ⟨c0, c1, c2⟩ := ST.out w3 HR3.out.ext
    clear hx3
    by_cases hlt : k < p
    · go_wp2_with fail
      refine (rIn_any m k _ hm24 (by omega)).mono ?_
      rintro e w4 ⟨rfl, rfl⟩
      by_cases hb : Cd.bitAt m k = 1
      · have hin : Cd.inS m k = true := by unfold Cd.inS; simp [hb]
        have hkR : k < R.length := by rw [HP.out.2.1]; exact hlt
        have hpk := Cd.pickTo_yes hkR hb
        rw [← getD_get (x := ([] : List UInt8)) hkR, HP.out.1 k hlt] at hpk
        rw [hin]
        have HPK := Lib.hid hpk
        clear hin hpk hkR hb
        go_wp2_with fail
        clear c0 c1 c2
        refine (rRow_ok d gl k gs _ _ (Rs.ext (Rs.ext RI.ext) _ _ _ _ HR3.out.ext HX.out.2) HC.out.1 (by rw [HC.out.2.2.2]; exact hlt)).mono ?_
        rintro e w5 ⟨A2, ce, rfl, hx5, ho5⟩
        have hmo : RowsMore (w.alloc (.cells #[.int .i64 d, .slice GA gs.length Gc, .int .i64 gl] 28)) w5 A i cp (Cd.pickTo R m k) A2 ce ((List.range d).map (Cd.rowAt d gs k)) := HR3.out.more hx5 (by simpa using ho5)
        have HMO := Lib.hid hmo
        clear hx5 ho5 hmo
        go_wp2_with (at_builtin; refine wpl_append_row 65 rfl _ _ rfl Tryd.underlying65 info_bytes rfl HMO.out (by simp) rfl rfl (by omega) ?_; intro A' c' w6 hO)
        have HO := Lib.hid hO
        clear hO
        go_wp2_with fail
        go_roundw
        case rel => exact ⟨k + 1, i + 1, A', c', by omega, by omega, by go_num, rfl, by rw [HPK.out]; exact HO⟩
        case measure => simp [intOf]; omega
      · have hin : Cd.inS m k = false := by unfold Cd.inS; simp [hb]
        have hpk := Cd.pickTo_no (rows := R) hb
        rw [hin]
        have HPK := Lib.hid hpk
        clear hin hpk hb
        go_wp2_with fail
        clear c0 c1 c2
        go_roundw
        case rel => exact ⟨k + 1, i, A, cp, by omega, by omega, by go_num, rfl, by rw [HPK.out]; exact HR3⟩
        case measure => simp [intOf]; omega
    · obtain rfl : k = p := by omega
      have hlen := Cd.pickTo_len R m k
      have hrs := HR3.out.rs (by omega) (fun r hr => by have := HP.out.2.2.1 r (Cd.pickTo_mem hr); omega)
      have HRS := Lib.hid hrs
      have HLEN := Lib.hid hlen
      have HPW : Hid (∀ r ∈ Cd.pickTo R m k, r.length = d) := Lib.hid fun r hr => HP.out.2.2.1 r (Cd.pickTo_mem hr)
      clear hrs hlen
      go_upto_region 13 with fail
      refine wp_atEnd' (rec_last w.heap.size i cp d A (Cd.can d gl gs m) (Cd.pickTo R m k) w3 hd16 (by have := HLEN.out; omega) c0 (Lib.hid HRS.out) HPW (Lib.hid HP.out.2.2.2.symm) _ _ _ _ _ _ _ _ _ _ _ _ _ _ _ _ _ _ _ _ _ _ _ _ _ _ _ _ _ _ _ _ _ _ _ _ _ _ _ _ ?_)
      intros
      rename_i w8 hx8
      have HX8 := Lib.hid (HX.out.1.trans (HR3.out.ext.trans hx8))
      clear hx8 c0 c1 c2
      go_wp2_with fail
      go_ret
      exact ⟨rfl, HX8.out⟩
theorem rRec_any (d gl m : Int) (gs : List (List Int)) (G : Value) (w : World) (hG : Rs (Rs RI) w G gs) (hgn : gs.length ≤ 1000000) :
    Calls Tryd.prog 60 #[.agg #[.int .i64 d, G, .int .i64 gl], .int .i64 m] w fun e w' => e = .returned (.bool (Cd.can d gl gs m)) ∧ Ext w w' := by
  by_cases h0 : Cd.check d gs gl = 0
  · cases hs : Cd.isSet d gs gl m with
    | true =>
      have hk := Cd.check_ok h0
      obtain ⟨n, rfl⟩ : ∃ n : Nat, d = n := ⟨d.toNat, by omega⟩
      obtain ⟨g, rfl⟩ : ∃ n : Nat, gl = n := ⟨gl.toNat, by omega⟩
      have hm : 0 ≤ m := by unfold Cd.isSet at hs; rw [decide_eq_true_eq] at hs; exact hs.1
      obtain ⟨m', rfl⟩ : ∃ n : Nat, m = n := ⟨m.toNat, by omega⟩
      exact rRec_ok n g m' gs G w hG h0 hs
    | false =>
      have hn := Cd.can_no (d := d) (gl := gl) (gs := gs) (m := m) (.inr hs)
      have hx0 := (Ext.refl w).alloc (.cells #[.int .i64 d, G, .int .i64 gl] 28)
      have HX := Lib.hid (And.intro hx0 (Rs.ext (Rs.ext RI.ext) _ _ _ _ hx0 hG))
      obtain ⟨GA, Gc, rfl, hgl⟩ := hG.form
      have e1 : (Cd.check d gs gl != 0) = false := by rw [h0]; rfl
      have HN := Lib.hid (And.intro hn hs)
      clear hG hx0 hn hs h0
      go_enter Tryd.func60, Tryd.ntmps60
      go_wp2_with fail
      refine (rCheck_any d gl gs _ _ HX.out.2 hgn).mono ?_
      rintro e w1 ⟨rfl, hx1⟩
      have c0 : w1.cell? ⟨w.heap.size, 0, none⟩ = some (.int .i64 d) := hx1.cell (by go_simp)
      have c1 : w1.cell? ⟨w.heap.size, 1, none⟩ = some (.slice GA gs.length Gc) := hx1.cell (by go_simp)
      have c2 : w1.cell? ⟨w.heap.size, 2, none⟩ = some (.int .i64 gl) := hx1.cell (by go_simp)
      have HX1 := Lib.hid hx1
      clear hx1
      go_wp2_with fail
      clear c0 c1 c2
      refine (rIsSet_any d gl gs m _ _ (Rs.ext (Rs.ext RI.ext) _ _ _ _ HX1.out HX.out.2) hgn).mono ?_
      rintro e w2 ⟨rfl, hx2⟩
      rw [HN.out.2]
      have HX2 := Lib.hid (HX1.out.trans hx2)
      clear hx2
      go_wp2_with fail
      go_ret
      exact ⟨ret_bool HN.out.1.symm, HX.out.1.trans HX2.out⟩
  · have hn := Cd.can_no (d := d) (gl := gl) (gs := gs) (m := m) (.inl h0)
    have hx0 := (Ext.refl w).alloc (.cells #[.int .i64 d, G, .int .i64 gl] 28)
    have HX := Lib.hid (And.intro hx0 (Rs.ext (Rs.ext RI.ext) _ _ _ _ hx0 hG))
    obtain ⟨GA, Gc, rfl, hgl⟩ := hG.form
    have e1 : (Cd.check d gs gl != 0) = true := by rw [bne_iff_ne]; exact h0
    have HN := Lib.hid hn
    clear hG hx0 hn h0
    go_enter Tryd.func60, Tryd.ntmps60
    go_wp2_with fail
    refine (rCheck_any d gl gs _ _ HX.out.2 hgn).mono ?_
    rintro e w1 ⟨rfl, hx1⟩
    have HX1 := Lib.hid (HX.out.1.trans hx1)
    clear hx1
    go_wp2_with fail
    go_ret
    exact ⟨ret_bool HN.out.symm, HX1.out⟩
end Go.Proofs.YtkbiffbmjgmcaaaDoor

/- THE WALKS over Moved and disks of the specification of moves. -/
namespace Go.Proofs.YtkbiffbmjgmcaaaDoor
open Go.RowKit
set_option maxHeartbeats 8000000 in
set_option maxRecDepth 100000 in
theorem kMoved_any (s : Mv.Sh) (hl : s.dst.length = s.src.length) (v : Value) (w : World) (hv : RSh w v s) :
    Calls Tryd.prog 24 #[v] w fun e w' => e = .returned (.int .i64 (Mv.movedTo s.src s.dst s.src.length : Nat)) ∧ Ext w w' := by
  obtain ⟨DA, KA, HA, GA, RA, FA, TA, cD, cK, cH, cG, cR, cF, cT, rfl, hS⟩ := hv.open
  have hx0 := (Ext.refl w).alloc (.cells #[.slice DA s.disks.length cD, .slice KA s.racks.length cK, .slice HA s.houses.length cH, .int .i64 s.owners, .int .i64 s.d, .slice GA s.gs.length cG, .int .i64 s.gl, .int .i64 s.floor, .slice RA s.room.length cR, .slice FA s.src.length cF, .slice TA s.dst.length cT] 30)
  have HX0 := Lib.hid hx0
  have HS := Lib.hid (hS.ext hx0)
  have hB := BoxAt.new w s DA KA HA GA RA FA TA cD cK cH cG cR cF cT
  have HB := Lib.hid hB
  have hl64 := hS.len.2.2.2.2.2.1
  have HLL := Lib.hid hl
  clear hl
  clear hv hS hx0 hB
  go_enter Tryd.func24, Tryd.ntmps24
  go_wp2_with fail
  go_loopw [3, 4] (fun vn vi wr => ∃ k m : Nat, k ≤ s.src.length ∧ m ≤ k ∧ vi = .int .i64 (k : Nat) ∧ vn = .int .i64 (m : Nat) ∧ Hid (Mv.movedTo s.src s.dst k = m ∧ Ext (w.alloc (.cells #[.slice DA s.disks.length cD, .slice KA s.racks.length cK, .slice HA s.houses.length cH, .int .i64 s.owners, .int .i64 s.d, .slice GA s.gs.length cG, .int .i64 s.gl, .int .i64 s.floor, .slice RA s.room.length cR, .slice FA s.src.length cF, .slice TA s.dst.length cT] 30)) wr)) (fun _ vi _ => s.src.length - (intOf vi).toNat)
  case atStart => exact ⟨0, 0, Nat.zero_le _, Nat.le_refl _, rfl, rfl, Lib.hid ⟨rfl, Ext.refl _⟩⟩
  case round =>
    obtain ⟨k, m, hk, hmk, rfl, rfl, HI⟩ := hrel
    have a9 := (HB.out.ext HI.out.2).b9
    have a10 := (HB.out.ext HI.out.2).b10
    by_cases hlt : k < s.src.length
    · have hltb : k < s.dst.length := by have := HLL.out; omega
      obtain ⟨a1, u1, eF, hc1, hu1⟩ := (Rs.ext RI.ext _ _ _ _ HI.out.2 HS.out.src).at hlt
      obtain ⟨rfl, _, _⟩ := hu1
      obtain ⟨a2, u2, eT, hc2, hu2⟩ := (Rs.ext RI.ext _ _ _ _ HI.out.2 HS.out.dst).at hltb
      obtain ⟨rfl, _, _⟩ := hu2
      subst eF eT
      have g1 := getD_get (x := (0 : Int)) hlt
      have g2 := getD_get (x := (0 : Int)) hltb
      obtain ⟨x, hx⟩ : ∃ x, s.src[k] = x := ⟨_, rfl⟩
      obtain ⟨y, hy⟩ : ∃ y, s.dst[k] = y := ⟨_, rfl⟩
      rw [hx] at hc1 g1
      rw [hy] at hc2 g2
      have HG := Lib.hid (And.intro g1 g2)
      clear hx hy g1 g2
      by_cases hxy : x = y
      · subst hxy
        go_wp2_with fail
        go_quiet (fail)
        go_wp2_with fail
        go_roundw
        case rel => exact ⟨k + 1, m, by omega, by omega, by go_num, rfl, Lib.hid ⟨by rw [Mv.movedTo_no (by rw [HG.out.1, HG.out.2])]; exact HI.out.1, HI.out.2.drewN nq⟩⟩
        case measure => simp [intOf]; omega
      · go_wp2_with fail
        go_quiet (fail)
        go_wp2_with fail
        go_roundw
        case rel => exact ⟨k + 1, m + 1, by omega, by omega, by go_num, by go_num, Lib.hid ⟨by rw [Mv.movedTo_yes (by rw [HG.out.1, HG.out.2]; exact hxy), HI.out.1], HI.out.2.drewN nq⟩⟩
        case measure => simp [intOf]; omega
    · obtain rfl : k = s.src.length := by omega
      go_wp2_with fail
      go_ret
      exact ⟨by rw [HI.out.1]; rfl, HX0.out.trans HI.out.2⟩
end Go.Proofs.YtkbiffbmjgmcaaaDoor

/- THE WALK over disks of the specification of moves. -/
namespace Go.Proofs.YtkbiffbmjgmcaaaDoor
open Go.RowKit
set_option maxHeartbeats 8000000 in
set_option maxRecDepth 100000 in
theorem kDisks_any (s : Mv.Sh) (l : List Int) (hgn : s.gs.length ≤ 1000000) (v u : Value) (w : World) (hv : RSh w v s) (hu : Rs RI w u l) :
    Calls Tryd.prog 33 #[v, u] w fun e w' => e = .returned (.bool (decide (Mv.layoutOk s l))) ∧ Ext w w' := by
  obtain ⟨DA, KA, HA, GA, RA, FA, TA, cD, cK, cH, cG, cR, cF, cT, rfl, hS⟩ := hv.open
  have hx0 := (Ext.refl w).alloc (.cells #[.slice DA s.disks.length cD, .slice KA s.racks.length cK, .slice HA s.houses.length cH, .int .i64 s.owners, .int .i64 s.d, .slice GA s.gs.length cG, .int .i64 s.gl, .int .i64 s.floor, .slice RA s.room.length cR, .slice FA s.src.length cF, .slice TA s.dst.length cT] 30)
  have HX0 := Lib.hid hx0
  have HS := Lib.hid (hS.ext hx0)
  have hB := BoxAt.new w s DA KA HA GA RA FA TA cD cK cH cG cR cF cT
  have HB := Lib.hid hB
  obtain ⟨PA, cP, rfl, hp64⟩ := hu.form
  have HP := Lib.hid (Rs.ext RI.ext _ _ _ _ hx0 hu)
  have hd64 := hS.len.1
  have a4 := hB.b4
  have a5 := hB.b5
  have a6 := hB.b6
  clear hv hu hS hx0 hB
  go_enter Tryd.func33, Tryd.ntmps33
  go_wp2_with fail
  clear a4 a5 a6
  refine (rPieces_any s.d s.gl s.gs _ _ HS.out.gs hgn).mono ?_
  rintro e w1 ⟨rfl, hx1⟩
  have HX1 := Lib.hid hx1
  obtain ⟨pn, hpn⟩ : ∃ pn, Cd.pieces s.d s.gs s.gl = pn := ⟨_, rfl⟩
  rw [hpn]
  have HPN := Lib.hid hpn
  clear hx1 hpn
  by_cases hlp : (l.length : Int) = pn
  case neg =>
    have HE := Lib.hid (show decide (Mv.layoutOk s l) = false from decide_eq_false fun e => hlp (by rw [← HPN.out]; exact e.1))
    go_wp2_with fail
    go_ret
    exact ⟨ret_bool HE.out.symm, HX0.out.trans HX1.out⟩
  case pos =>
  have HLP := Lib.hid hlp
  subst hlp
  go_wp2_with fail
  go_loopw [5] (fun vi wr => ∃ k : Nat, k ≤ l.length ∧ vi = .int .i64 (k : Nat) ∧ Hid ((∀ j, j < k → ¬ Mv.out s.disks.length (l.getD j 0)) ∧ Ext (w.alloc (.cells #[.slice DA s.disks.length cD, .slice KA s.racks.length cK, .slice HA s.houses.length cH, .int .i64 s.owners, .int .i64 s.d, .slice GA s.gs.length cG, .int .i64 s.gl, .int .i64 s.floor, .slice RA s.room.length cR, .slice FA s.src.length cF, .slice TA s.dst.length cT] 30)) wr)) (fun vi _ => l.length - (intOf vi).toNat)
  case atStart => exact ⟨0, Nat.zero_le _, rfl, Lib.hid ⟨fun j hj => absurd hj (Nat.not_lt_zero j), HX1.out⟩⟩
  case round =>
    obtain ⟨k, hk, rfl, HI⟩ := hrel
    have a0 := (HB.out.ext HI.out.2).b0
    by_cases hlt : k < l.length
    · obtain ⟨a1, u1, rfl, hc1, hu1⟩ := (Rs.ext RI.ext _ _ _ _ HI.out.2 HP.out).at hlt
      obtain ⟨rfl, hlo, hhi⟩ := hu1
      have g1 := getD_get (x := (0 : Int)) hlt
      obtain ⟨x, hx⟩ : ∃ x, l[k] = x := ⟨_, rfl⟩
      rw [hx] at hc1 g1 hlo hhi
      have HG := Lib.hid g1
      clear hx g1
      by_cases hx0 : x < 0
      · have HE := Lib.hid (show decide (Mv.layoutOk s l) = false from decide_eq_false fun e => by
          have h2 := e.2 (l.getD k 0) (by rw [getD_get hlt]; exact List.getElem_mem hlt)
          rw [HG.out] at h2
          exact h2 (Or.inl hx0))
        go_wp2_with fail
        go_quiet (fail)
        go_wp2_with fail
        go_ret
        exact ⟨ret_bool HE.out.symm, HX0.out.trans (HI.out.2.drewN nq)⟩
      · by_cases hx1 : (s.disks.length : Int) ≤ x
        · have HE := Lib.hid (show decide (Mv.layoutOk s l) = false from decide_eq_false fun e => by
            have h2 := e.2 (l.getD k 0) (by rw [getD_get hlt]; exact List.getElem_mem hlt)
            rw [HG.out] at h2
            exact h2 (Or.inr hx1))
          go_wp2_with fail
          go_quiet (fail)
          go_wp2_with fail
          go_ret
          exact ⟨ret_bool HE.out.symm, HX0.out.trans (HI.out.2.drewN nq)⟩
        · have HNO := Lib.hid (show ¬ Mv.out s.disks.length x from fun e => e.elim (fun e => hx0 e) (fun e => hx1 e))
          go_wp2_with fail
          go_quiet (fail)
          go_wp2_with fail
          go_roundw
          case rel =>
            refine ⟨k + 1, by omega, by go_num, Lib.hid ⟨fun j hj => ?_, HI.out.2.drewN nq⟩⟩
            by_cases hjk : j = k
            · rw [hjk, HG.out]; exact HNO.out
            · exact HI.out.1 j (by omega)
          case measure => simp [intOf]; omega
    · obtain rfl : k = l.length := by omega
      have HE := Lib.hid (show decide (Mv.layoutOk s l) = true from decide_eq_true ⟨by rw [HPN.out], fun x hx => by
        obtain ⟨j, hj, rfl⟩ := List.getElem_of_mem hx
        have := HI.out.1 j hj
        rwa [getD_get hj] at this⟩)
      go_wp2_with fail
      go_ret
      exact ⟨ret_bool HE.out.symm, HX0.out.trans HI.out.2⟩
end Go.Proofs.YtkbiffbmjgmcaaaDoor

/- THE WALK over Check of the specification of domains. -/
namespace Go.Proofs.YtkbiffbmjgmcaaaDoor
open Go.RowKit
theorem RK.at5 {w : World} {A : Option Addr} {n c : Nat} {l : List Int} (h : RK w (.slice A n c) l) {i : Nat} (hi : i < l.length) : ∃ ad b, A = some ad ∧ w.cell? (ad.add (i * 2)) = some (.int .i64 l[i]) ∧ w.cell? ⟨(ad.add (i * 2)).block, (ad.add (i * 2)).off + 1, none⟩ = some (.bool b) ∧ -9223372036854775808 ≤ l[i] ∧ l[i] ≤ 9223372036854775807 := by
  obtain ⟨A', c', e, hl, h⟩ := h
  injection e with e1 e2 e3
  subst e1
  obtain ⟨ad, b, h1, h2, h3, h4⟩ := h i l[i] (List.getElem?_eq_getElem hi)
  exact ⟨ad, b, h1, h2, h3, h4⟩
set_option maxHeartbeats 8000000 in
set_option maxRecDepth 100000 in
theorem kDomCheck_any (disks racks houses : List Int) (ow : Int) (D R H : Value) (w : World) (hD : Rs RI w D disks) (hR : RK w R racks) (hH : Rs RI w H houses) (how : -9223372036854775808 ≤ ow ∧ ow ≤ 9223372036854775807) :
    Calls Tryd.prog 32 #[.agg #[D, R, H, .int .i64 ow]] w fun e w' => e = .returned (.int .i64 (Mv.domErr disks racks houses ow)) ∧ Ext w w' := by
  obtain ⟨DA, cd, rfl, hl1⟩ := hD.form
  obtain ⟨RA, cr, rfl, hl2⟩ := hR.form
  obtain ⟨HA, ch, rfl, hl3⟩ := hH.form
  have hx0 := (Ext.refl w).alloc (.cells #[.slice DA disks.length cd, .slice RA racks.length cr, .slice HA houses.length ch, .int .i64 ow] 25)
  have HX0 := Lib.hid hx0
  have HD := Lib.hid (Rs.ext RI.ext _ _ _ _ hx0 hD)
  have HR := Lib.hid (RK.ext _ _ _ _ hx0 hR)
  have HH := Lib.hid (Rs.ext RI.ext _ _ _ _ hx0 hH)
  clear hx0 hD hR hH
  by_cases q0 : 64 < disks.length
  · have HE := Lib.hid (Mv.domErr_big (disks := disks) (racks := racks) (houses := houses) (owners := ow) (.inl q0))
    go_enter Tryd.func32, Tryd.ntmps32
    go_wp2_with fail
    go_ret
    exact ⟨by rw [HE.out]; rfl, HX0.out⟩
  by_cases q1 : 24 < racks.length
  · have HE := Lib.hid (Mv.domErr_big (disks := disks) (racks := racks) (houses := houses) (owners := ow) (.inr (.inl q1)))
    go_enter Tryd.func32, Tryd.ntmps32
    go_wp2_with fail
    go_ret
    exact ⟨by rw [HE.out]; rfl, HX0.out⟩
  by_cases q2 : 12 < houses.length
  · have HE := Lib.hid (Mv.domErr_big (disks := disks) (racks := racks) (houses := houses) (owners := ow) (.inr (.inr (.inl q2))))
    go_enter Tryd.func32, Tryd.ntmps32
    go_wp2_with fail
    go_ret
    exact ⟨by rw [HE.out]; rfl, HX0.out⟩
  by_cases q3 : ow < 0
  · have HE := Lib.hid (Mv.domErr_big (disks := disks) (racks := racks) (houses := houses) (owners := ow) (.inr (.inr (.inr (.inl q3)))))
    go_enter Tryd.func32, Tryd.ntmps32
    go_wp2_with fail
    go_ret
    exact ⟨by rw [HE.out]; rfl, HX0.out⟩
  by_cases q4 : 8 < ow
  · have HE := Lib.hid (Mv.domErr_big (disks := disks) (racks := racks) (houses := houses) (owners := ow) (.inr (.inr (.inr (.inr q4)))))
    go_enter Tryd.func32, Tryd.ntmps32
    go_wp2_with fail
    go_ret
    exact ⟨by rw [HE.out]; rfl, HX0.out⟩
  have hno : ¬ (64 < disks.length ∨ 24 < racks.length ∨ 12 < houses.length ∨ ow < 0 ∨ 8 < ow) := by omega
  have HNO := Lib.hid hno
  have c0 : (w.alloc (.cells #[.slice DA disks.length cd, .slice RA racks.length cr, .slice HA houses.length ch, .int .i64 ow] 25)).cell? ⟨w.heap.size, 0, none⟩ = some (.slice DA disks.length cd) := by go_simp
  have c1 : (w.alloc (.cells #[.slice DA disks.length cd, .slice RA racks.length cr, .slice HA houses.length ch, .int .i64 ow] 25)).cell? ⟨w.heap.size, 1, none⟩ = some (.slice RA racks.length cr) := by go_simp
  have c2 : (w.alloc (.cells #[.slice DA disks.length cd, .slice RA racks.length cr, .slice HA houses.length ch, .int .i64 ow] 25)).cell? ⟨w.heap.size, 2, none⟩ = some (.slice HA houses.length ch) := by go_simp
  have c3 : (w.alloc (.cells #[.slice DA disks.length cd, .slice RA racks.length cr, .slice HA houses.length ch, .int .i64 ow] 25)).cell? ⟨w.heap.size, 3, none⟩ = some (.int .i64 ow) := by go_simp
  have HC := Lib.hid (And.intro c0 (And.intro c1 (And.intro c2 c3)))
  clear hno c0 c1 c2 c3
  go_enter Tryd.func32, Tryd.ntmps32
  go_wp2_with fail
  go_loopw [3] (fun vi wr => ∃ k : Nat, k ≤ disks.length ∧ vi = .int .i64 (k : Nat) ∧ Hid ((∀ j, j < k → ¬ Mv.out racks.length (disks.getD j 0)) ∧ Ext (w.alloc (.cells #[.slice DA disks.length cd, .slice RA racks.length cr, .slice HA houses.length ch, .int .i64 ow] 25)) wr)) (fun vi _ => disks.length - (intOf vi).toNat)
  case atStart => exact ⟨0, Nat.zero_le _, rfl, Lib.hid ⟨fun j hj => absurd hj (Nat.not_lt_zero j), Ext.refl _⟩⟩
  case round =>
    obtain ⟨k1, hk1, rfl, HI1⟩ := hrel
    have b0 := HI1.out.2.cell HC.out.1
    have b1 := HI1.out.2.cell HC.out.2.1
    by_cases hlt : k1 < disks.length
    · obtain ⟨a1, u1, rfl, hc1, hu1⟩ := (Rs.ext RI.ext _ _ _ _ HI1.out.2 HD.out).at hlt; obtain ⟨rfl, hlo, hhi⟩ := hu1
      have g1 := getD_get (x := (0 : Int)) hlt
      obtain ⟨x, hx⟩ : ∃ x, disks[k1] = x := ⟨_, rfl⟩
      rw [hx] at hc1 g1 hlo hhi
      have HG := Lib.hid g1
      have HM := Lib.hid (show x ∈ disks by rw [← hx]; exact List.getElem_mem hlt)
      clear hx g1
      by_cases hx0 : x < 0
      · have HE := Lib.hid (Mv.domErr_out HNO.out (.inl ⟨x, HM.out, Or.inl hx0⟩))
        go_wp2_with fail
        go_quiet (fail)
        go_wp2_with fail
        go_ret
        exact ⟨by rw [HE.out]; rfl, HX0.out.trans (HI1.out.2.drewN nq)⟩
      · by_cases hx1 : (racks.length : Int) ≤ x
        · have HE := Lib.hid (Mv.domErr_out HNO.out (.inl ⟨x, HM.out, Or.inr hx1⟩))
          go_wp2_with fail
          go_quiet (fail)
          go_wp2_with fail
          go_ret
          exact ⟨by rw [HE.out]; rfl, HX0.out.trans (HI1.out.2.drewN nq)⟩
        · have HNX := Lib.hid (show ¬ Mv.out racks.length x from fun e => e.elim (fun e => hx0 e) (fun e => hx1 e))
          go_wp2_with fail
          go_quiet (fail)
          go_wp2_with fail
          go_roundw
          case rel =>
            refine ⟨k1 + 1, by omega, by go_num, Lib.hid ⟨fun j hj => ?_, HI1.out.2.drewN nq⟩⟩
            by_cases hjk : j = k1
            · rw [hjk, HG.out]; exact HNX.out
            · exact HI1.out.1 j (by omega)
          case measure => simp [intOf]; omega
    · obtain rfl : k1 = disks.length := by omega
      have HA1 := Lib.hid (show ¬ ∃ x ∈ disks, Mv.out racks.length x from fun ⟨x, hx, ho⟩ => by
        obtain ⟨j, hj, rfl⟩ := List.getElem_of_mem hx
        have := HI1.out.1 j hj
        rw [getD_get hj] at this
        exact this ho)
      go_wp2_with fail
      clear b0 b1
      go_loopw [4] (fun vi wr => ∃ k : Nat, k ≤ racks.length ∧ vi = .int .i64 (k : Nat) ∧ Hid ((∀ j, j < k → ¬ Mv.out houses.length (racks.getD j 0)) ∧ Ext (w.alloc (.cells #[.slice DA disks.length cd, .slice RA racks.length cr, .slice HA houses.length ch, .int .i64 ow] 25)) wr)) (fun vi _ => racks.length - (intOf vi).toNat)
      case atStart => exact ⟨0, Nat.zero_le _, rfl, Lib.hid ⟨fun j hj => absurd hj (Nat.not_lt_zero j), HI1.out.2⟩⟩
      case round =>
        obtain ⟨k2, hk2, rfl, HI2⟩ := hrel
        have b1 := HI2.out.2.cell HC.out.2.1
        have b2 := HI2.out.2.cell HC.out.2.2.1
        by_cases hlt : k2 < racks.length
        · obtain ⟨a1, bb, rfl, hc1, hc2, hlo, hhi⟩ := (RK.ext _ _ _ _ HI2.out.2 HR.out).at5 hlt
          have g1 := getD_get (x := (0 : Int)) hlt
          obtain ⟨x, hx⟩ : ∃ x, racks[k2] = x := ⟨_, rfl⟩
          rw [hx] at hc1 g1 hlo hhi
          have HG := Lib.hid g1
          have HM := Lib.hid (show x ∈ racks by rw [← hx]; exact List.getElem_mem hlt)
          clear hx g1
          by_cases hx0 : x < 0
          · have HE := Lib.hid (Mv.domErr_out HNO.out (.inr (.inr ⟨x, HM.out, Or.inl hx0⟩)))
            go_wp2_with fail
            go_quiet (fail)
            go_wp2_with fail
            go_ret
            exact ⟨by rw [HE.out]; rfl, HX0.out.trans (HI2.out.2.drewN nq)⟩
          · by_cases hx1 : (houses.length : Int) ≤ x
            · have HE := Lib.hid (Mv.domErr_out HNO.out (.inr (.inr ⟨x, HM.out, Or.inr hx1⟩)))
              go_wp2_with fail
              go_quiet (fail)
              go_wp2_with fail
              go_ret
              exact ⟨by rw [HE.out]; rfl, HX0.out.trans (HI2.out.2.drewN nq)⟩
            · have HNX := Lib.hid (show ¬ Mv.out houses.length x from fun e => e.elim (fun e => hx0 e) (fun e => hx1 e))
              go_wp2_with fail
              go_quiet (fail)
              go_wp2_with fail
              go_roundw
              case rel =>
                refine ⟨k2 + 1, by omega, by go_num, Lib.hid ⟨fun j hj => ?_, HI2.out.2.drewN nq⟩⟩
                by_cases hjk : j = k2
                · rw [hjk, HG.out]; exact HNX.out
                · exact HI2.out.1 j (by omega)
              case measure => simp [intOf]; omega
        · obtain rfl : k2 = racks.length := by omega
          have HA2 := Lib.hid (show ¬ ∃ x ∈ racks, Mv.out houses.length x from fun ⟨x, hx, ho⟩ => by
            obtain ⟨j, hj, rfl⟩ := List.getElem_of_mem hx
            have := HI2.out.1 j hj
            rw [getD_get hj] at this
            exact this ho)
          go_wp2_with fail
          clear b1 b2
          go_loopw [5] (fun vi wr => ∃ k : Nat, k ≤ houses.length ∧ vi = .int .i64 (k : Nat) ∧ Hid ((∀ j, j < k → ¬ Mv.out ow (houses.getD j 0)) ∧ Ext (w.alloc (.cells #[.slice DA disks.length cd, .slice RA racks.length cr, .slice HA houses.length ch, .int .i64 ow] 25)) wr)) (fun vi _ => houses.length - (intOf vi).toNat)
          case atStart => exact ⟨0, Nat.zero_le _, rfl, Lib.hid ⟨fun j hj => absurd hj (Nat.not_lt_zero j), HI2.out.2⟩⟩
          case round =>
            obtain ⟨k3, hk3, rfl, HI3⟩ := hrel
            have b2 := HI3.out.2.cell HC.out.2.2.1
            have b3 := HI3.out.2.cell HC.out.2.2.2
            by_cases hlt : k3 < houses.length
            · obtain ⟨a1, u1, rfl, hc1, hu1⟩ := (Rs.ext RI.ext _ _ _ _ HI3.out.2 HH.out).at hlt; obtain ⟨rfl, hlo, hhi⟩ := hu1
              have g1 := getD_get (x := (0 : Int)) hlt
              obtain ⟨x, hx⟩ : ∃ x, houses[k3] = x := ⟨_, rfl⟩
              rw [hx] at hc1 g1 hlo hhi
              have HG := Lib.hid g1
              have HM := Lib.hid (show x ∈ houses by rw [← hx]; exact List.getElem_mem hlt)
              clear hx g1
              by_cases hx0 : x < 0
              · have HE := Lib.hid (Mv.domErr_out HNO.out (.inr (.inl ⟨x, HM.out, Or.inl hx0⟩)))
                go_wp2_with fail
                go_quiet (fail)
                go_wp2_with fail
                go_ret
                exact ⟨by rw [HE.out]; rfl, HX0.out.trans (HI3.out.2.drewN nq)⟩
              · by_cases hx1 : (ow : Int) ≤ x
                · have HE := Lib.hid (Mv.domErr_out HNO.out (.inr (.inl ⟨x, HM.out, Or.inr hx1⟩)))
                  go_wp2_with fail
                  go_quiet (fail)
                  go_wp2_with fail
                  go_ret
                  exact ⟨by rw [HE.out]; rfl, HX0.out.trans (HI3.out.2.drewN nq)⟩
                · have HNX := Lib.hid (show ¬ Mv.out ow x from fun e => e.elim (fun e => hx0 e) (fun e => hx1 e))
                  go_wp2_with fail
                  go_quiet (fail)
                  go_wp2_with fail
                  go_roundw
                  case rel =>
                    refine ⟨k3 + 1, by omega, by go_num, Lib.hid ⟨fun j hj => ?_, HI3.out.2.drewN nq⟩⟩
                    by_cases hjk : j = k3
                    · rw [hjk, HG.out]; exact HNX.out
                    · exact HI3.out.1 j (by omega)
                  case measure => simp [intOf]; omega
            · obtain rfl : k3 = houses.length := by omega
              have HA3 := Lib.hid (show ¬ ∃ x ∈ houses, Mv.out ow x from fun ⟨x, hx, ho⟩ => by
                obtain ⟨j, hj, rfl⟩ := List.getElem_of_mem hx
                have := HI3.out.1 j hj
                rw [getD_get hj] at this
                exact this ho)
              go_wp2_with fail
              have HE := Lib.hid (Mv.domErr_ok HNO.out (fun e => by
                rcases e with e | e | e
                · exact HA1.out e
                · exact HA3.out e
                · exact HA2.out e))
              go_ret
              exact ⟨by rw [HE.out]; rfl, HX0.out.trans HI3.out.2⟩
end Go.Proofs.YtkbiffbmjgmcaaaDoor

/- THE WALK over Check of the specification of moves. -/
namespace Go.Proofs.YtkbiffbmjgmcaaaDoor
open Go.RowKit
set_option maxHeartbeats 8000000 in
set_option maxRecDepth 100000 in
theorem kCheck_any (s : Mv.Sh) (hgn : s.gs.length ≤ 1000000) (v : Value) (w : World) (hv : RSh w v s) :
    Calls Tryd.prog 11 #[v] w fun e w' => e = .returned (.int .i64 (Mv.check s)) ∧ Ext w w' := by
  obtain ⟨DA, KA, HA, GA, RA, FA, TA, cD, cK, cH, cG, cR, cF, cT, rfl, hS⟩ := hv.open
  have hx0 := (Ext.refl w).alloc (.cells #[.slice DA s.disks.length cD, .slice KA s.racks.length cK, .slice HA s.houses.length cH, .int .i64 s.owners, .int .i64 s.d, .slice GA s.gs.length cG, .int .i64 s.gl, .int .i64 s.floor, .slice RA s.room.length cR, .slice FA s.src.length cF, .slice TA s.dst.length cT] 30)
  have HX0 := Lib.hid hx0
  have HS := Lib.hid (hS.ext hx0)
  have hB := BoxAt.new w s DA KA HA GA RA FA TA cD cK cH cG cR cF cT
  have HB := Lib.hid hB
  have hfl := hS.floor
  have a4 := (hB).b4
  have a5 := (hB).b5
  have a6 := (hB).b6
  clear hv hS hx0 hB
  go_enter Tryd.func11, Tryd.ntmps11
  go_wp2_with fail
  clear a4 a5 a6
  refine (rCheck_any s.d s.gl s.gs _ _ HS.out.gs hgn).mono ?_
  rintro e w1 ⟨rfl, hx1⟩
  have HX1 := Lib.hid hx1
  clear hx1
  by_cases h1 : Cd.check s.d s.gs s.gl = 0
  case neg =>
    have HE := Lib.hid (Mv.check_code h1)
    go_wp2_with fail
    go_ret
    exact ⟨by rw [HE.out]; rfl, HX0.out.trans HX1.out⟩
  case pos =>
  have H1 := Lib.hid h1
  rw [h1]
  clear h1
  have a0 := (HB.out.ext HX1.out).b0
  have a1 := (HB.out.ext HX1.out).b1
  have a2 := (HB.out.ext HX1.out).b2
  have a3 := (HB.out.ext HX1.out).b3
  go_wp2_with fail
  clear a0 a1 a2 a3
  refine (kDomCheck_any s.disks s.racks s.houses s.owners _ _ _ w1 (HS.out.ext HX1.out).disks (HS.out.ext HX1.out).racks (HS.out.ext HX1.out).houses HS.out.owners).mono ?_
  rintro e w2 ⟨rfl, hx2⟩
  have HX2 := Lib.hid (HX1.out.trans hx2)
  clear hx2
  by_cases h2 : Mv.domErr s.disks s.racks s.houses s.owners = 0
  case neg =>
    have HE := Lib.hid (Mv.check_dom H1.out h2)
    go_wp2_with fail
    go_ret
    exact ⟨by rw [HE.out]; rfl, HX0.out.trans HX2.out⟩
  case pos =>
  have H2 := Lib.hid h2
  rw [h2]
  clear h2
  have a7 := (HB.out.ext HX2.out).b7
  by_cases h3 : s.floor < 1
  · have HE := Lib.hid (Mv.check_floor H1.out H2.out (.inl h3))
    go_wp2_with fail
    go_ret
    exact ⟨by rw [HE.out]; rfl, HX0.out.trans HX2.out⟩
  by_cases h4 : 4 < s.floor
  · have HE := Lib.hid (Mv.check_floor H1.out H2.out (.inr h4))
    go_wp2_with fail
    go_ret
    exact ⟨by rw [HE.out]; rfl, HX0.out.trans HX2.out⟩
  have H34 := Lib.hid (show ¬ (s.floor < 1 ∨ 4 < s.floor) from fun e => e.elim h3 h4)
  clear a7
  have a0 := (HB.out.ext HX2.out).b0
  have a1 := (HB.out.ext HX2.out).b1
  have a2 := (HB.out.ext HX2.out).b2
  have a3 := (HB.out.ext HX2.out).b3
  have a4 := (HB.out.ext HX2.out).b4
  have a5 := (HB.out.ext HX2.out).b5
  have a6 := (HB.out.ext HX2.out).b6
  have a7 := (HB.out.ext HX2.out).b7
  have a8 := (HB.out.ext HX2.out).b8
  have a9 := (HB.out.ext HX2.out).b9
  have a10 := (HB.out.ext HX2.out).b10
  go_wp2_with fail
  clear a0 a1 a2 a3 a4 a5 a6 a7 a8 a9 a10
  refine (kDisks_any s s.src hgn _ _ w2 (HS.out.ext HX2.out).sh (HS.out.ext HX2.out).src).mono ?_
  rintro e w3 ⟨rfl, hx3⟩
  have HX3 := Lib.hid (HX2.out.trans hx3)
  clear hx3
  have a0 := (HB.out.ext HX3.out).b0
  have a1 := (HB.out.ext HX3.out).b1
  have a2 := (HB.out.ext HX3.out).b2
  have a3 := (HB.out.ext HX3.out).b3
  have a4 := (HB.out.ext HX3.out).b4
  have a5 := (HB.out.ext HX3.out).b5
  have a6 := (HB.out.ext HX3.out).b6
  have a7 := (HB.out.ext HX3.out).b7
  have a8 := (HB.out.ext HX3.out).b8
  have a9 := (HB.out.ext HX3.out).b9
  have a10 := (HB.out.ext HX3.out).b10
  go_wp2_with fail
  clear a0 a1 a2 a3 a4 a5 a6 a7 a8 a9 a10
  refine (kDisks_any s s.dst hgn _ _ w3 (HS.out.ext HX3.out).sh (HS.out.ext HX3.out).dst).mono ?_
  rintro e w4 ⟨rfl, hx4⟩
  have HX4 := Lib.hid (HX3.out.trans hx4)
  clear hx4
  have a0 := (HB.out.ext HX4.out).b0
  have a8 := (HB.out.ext HX4.out).b8
  by_cases hr : s.room.length = s.disks.length
  case neg =>
    have HE := Lib.hid (Mv.check_room H1.out H2.out H34.out (.inl hr))
    have er : ((s.room.length : Int) != (s.disks.length : Int)) = true := by rw [bne_iff_ne]; omega
    clear hr
    go_wp2_with fail
    go_ret
    exact ⟨by rw [HE.out]; rfl, HX0.out.trans HX4.out⟩
  case pos =>
  have HR := Lib.hid hr
  have er : ((s.room.length : Int) != (s.disks.length : Int)) = false := by rw [hr]; simp
  clear hr
  by_cases hs : Mv.layoutOk s s.src
  case neg =>
    have HE := Lib.hid (Mv.check_room H1.out H2.out H34.out (.inr (.inr (.inl hs))))
    rw [decide_eq_false hs]
    clear hs
    go_wp2_with fail
    go_ret
    exact ⟨by rw [HE.out]; rfl, HX0.out.trans HX4.out⟩
  case pos =>
  rw [decide_eq_true hs]
  have HSR := Lib.hid hs
  clear hs
  by_cases hs : Mv.layoutOk s s.dst
  case neg =>
    have HE := Lib.hid (Mv.check_room H1.out H2.out H34.out (.inr (.inr (.inr hs))))
    rw [decide_eq_false hs]
    clear hs
    go_wp2_with fail
    go_ret
    exact ⟨by rw [HE.out]; rfl, HX0.out.trans HX4.out⟩
  case pos =>
  rw [decide_eq_true hs]
  have HDS := Lib.hid hs
  clear hs
  have hrl := HS.out.len.2.2.2.2.1
  go_wp2_with fail
  clear a0 a8 er
  go_loopw [6] (fun vi wr => ∃ k : Nat, k ≤ s.room.length ∧ vi = .int .i64 (k : Nat) ∧ Hid ((∀ j, j < k → ¬ (s.room.getD j 0 < 0 ∨ 24 < s.room.getD j 0)) ∧ Ext (w.alloc (.cells #[.slice DA s.disks.length cD, .slice KA s.racks.length cK, .slice HA s.houses.length cH, .int .i64 s.owners, .int .i64 s.d, .slice GA s.gs.length cG, .int .i64 s.gl, .int .i64 s.floor, .slice RA s.room.length cR, .slice FA s.src.length cF, .slice TA s.dst.length cT] 30)) wr)) (fun vi _ => s.room.length - (intOf vi).toNat)
  case atStart => exact ⟨0, Nat.zero_le _, rfl, Lib.hid ⟨fun j hj => absurd hj (Nat.not_lt_zero j), HX4.out⟩⟩
  case round =>
    obtain ⟨k, hk, rfl, HI⟩ := hrel
    have a8 := (HB.out.ext HI.out.2).b8
    by_cases hlt : k < s.room.length
    · obtain ⟨a1, u1, eR, hc1, hu1⟩ := (Rs.ext RI.ext _ _ _ _ HI.out.2 HS.out.room).at hlt
      obtain ⟨rfl, hlo, hhi⟩ := hu1
      subst eR
      have g1 := getD_get (x := (0 : Int)) hlt
      obtain ⟨x, hx⟩ : ∃ x, s.room[k] = x := ⟨_, rfl⟩
      rw [hx] at hc1 g1 hlo hhi
      have HG := Lib.hid g1
      have HM := Lib.hid (show x ∈ s.room by rw [← hx]; exact List.getElem_mem hlt)
      clear hx g1
      by_cases hx0 : x < 0
      · have HE := Lib.hid (Mv.check_room H1.out H2.out H34.out (.inr (.inl ⟨x, HM.out, .inl hx0⟩)))
        go_wp2_with fail
        go_ret
        exact ⟨by rw [HE.out]; rfl, HX0.out.trans (HI.out.2)⟩
      · by_cases hx1 : 24 < x
        · have HE := Lib.hid (Mv.check_room H1.out H2.out H34.out (.inr (.inl ⟨x, HM.out, .inr hx1⟩)))
          go_wp2_with fail
          go_ret
          exact ⟨by rw [HE.out]; rfl, HX0.out.trans (HI.out.2)⟩
        · have HNX := Lib.hid (show ¬ (x < 0 ∨ 24 < x) from fun e => e.elim hx0 hx1)
          go_wp2_with fail
          go_roundw
          case rel =>
            refine ⟨k + 1, by omega, by go_num, Lib.hid ⟨fun j hj => ?_, HI.out.2⟩⟩
            by_cases hjk : j = k
            · rw [hjk, HG.out]; exact HNX.out
            · exact HI.out.1 j (by omega)
          case measure => simp [intOf]; omega
    · obtain rfl : k = s.room.length := by omega
      have HOK := Lib.hid (show ¬ Mv.roomBad s from fun e => by
        rcases e with e | ⟨x, hx, ho⟩ | e | e
        · exact e HR.out
        · obtain ⟨j, hj, rfl⟩ := List.getElem_of_mem hx
          have := HI.out.1 j hj
          rw [getD_get hj] at this
          exact this ho
        · exact e HSR.out
        · exact e HDS.out)
      clear a8
      have a0 := (HB.out.ext HI.out.2).b0
      have a1 := (HB.out.ext HI.out.2).b1
      have a2 := (HB.out.ext HI.out.2).b2
      have a3 := (HB.out.ext HI.out.2).b3
      have a4 := (HB.out.ext HI.out.2).b4
      have a5 := (HB.out.ext HI.out.2).b5
      have a6 := (HB.out.ext HI.out.2).b6
      have a7 := (HB.out.ext HI.out.2).b7
      have a8 := (HB.out.ext HI.out.2).b8
      have a9 := (HB.out.ext HI.out.2).b9
      have a10 := (HB.out.ext HI.out.2).b10
      go_wp2_with fail
      clear a0 a1 a2 a3 a4 a5 a6 a7 a8 a9 a10
      have hll : s.dst.length = s.src.length := by
        have e1 := HSR.out.1
        have e2 := HDS.out.1
        omega
      refine (kMoved_any s hll _ wr (HS.out.ext HI.out.2).sh).mono ?_
      rintro e w5 ⟨rfl, hx5⟩
      have HX5 := Lib.hid (HI.out.2.trans hx5)
      have HCL := Lib.hid (Mv.check_last H1.out H2.out H34.out HOK.out)
      obtain ⟨m, hm⟩ : ∃ m, Mv.movedTo s.src s.dst s.src.length = m := ⟨_, rfl⟩
      have hml := Mv.movedTo_le s.src s.dst s.src.length
      have hsl := HS.out.len.2.2.2.2.2.1
      rw [hm] at HCL hml ⊢
      clear hx5 hm hll
      by_cases h8 : 8 < m
      · have HE := Lib.hid (HCL.out.trans (if_pos h8))
        go_wp2_with fail
        go_ret
        exact ⟨by rw [HE.out]; rfl, HX0.out.trans HX5.out⟩
      · have HE := Lib.hid (HCL.out.trans (if_neg h8))
        go_wp2_with fail
        go_ret
        exact ⟨by rw [HE.out]; rfl, HX0.out.trans HX5.out⟩
end Go.Proofs.YtkbiffbmjgmcaaaDoor

/- THE WALK over Few of the specification of moves. -/
namespace Mv
/-- Is a shift small enough? -/
def few (s : Sh) (R M : Nat) : Prop := Cd.few s.gs 20 = true ∧ s.src.length ≤ 24 ∧ s.dst.length = s.src.length ∧ s.room.length ≤ 70 ∧ s.disks.length ≤ 70 ∧ s.racks.length ≤ R ∧ s.houses.length ≤ 20 ∧ movedTo s.src s.dst s.src.length ≤ M
instance (s : Sh) (R M : Nat) : Decidable (few s R M) := by unfold few; infer_instance
end Mv
namespace Go.Proofs.YtkbiffbmjgmcaaaDoor
open Go.RowKit
set_option maxHeartbeats 8000000 in
set_option maxRecDepth 100000 in
theorem kFew_any (s : Mv.Sh) (R M : Nat) (v : Value) (w : World) (hv : RSh w v s) :
    Calls Tryd.prog 8 #[v, .int .i64 (R : Nat), .int .i64 (M : Nat)] w fun e w' => e = .returned (.bool (decide (Mv.few s R M))) ∧ Ext w w' := by
  obtain ⟨DA, KA, HA, GA, RA, FA, TA, cD, cK, cH, cG, cR, cF, cT, rfl, hS⟩ := hv.open
  have hx0 := (Ext.refl w).alloc (.cells #[.slice DA s.disks.length cD, .slice KA s.racks.length cK, .slice HA s.houses.length cH, .int .i64 s.owners, .int .i64 s.d, .slice GA s.gs.length cG, .int .i64 s.gl, .int .i64 s.floor, .slice RA s.room.length cR, .slice FA s.src.length cF, .slice TA s.dst.length cT] 30)
  have HX0 := Lib.hid hx0
  have HS := Lib.hid (hS.ext hx0)
  have hB := BoxAt.new w s DA KA HA GA RA FA TA cD cK cH cG cR cF cT
  have HB := Lib.hid hB
  have a4 := (hB).b4
  have a5 := (hB).b5
  have a6 := (hB).b6
  clear hv hS hx0 hB
  go_enter Tryd.func8, Tryd.ntmps8
  go_wp2_with fail
  clear a4 a5 a6
  refine (rFew_any s.d s.gl s.gs 20 _ _ HS.out.gs (by decide)).mono ?_
  rintro e w1 ⟨rfl, hx1⟩
  have HX1 := Lib.hid hx1
  clear hx1
  have a0 := (HB.out.ext HX1.out).b0
  have a1 := (HB.out.ext HX1.out).b1
  have a2 := (HB.out.ext HX1.out).b2
  have a3 := (HB.out.ext HX1.out).b3
  have a4 := (HB.out.ext HX1.out).b4
  have a5 := (HB.out.ext HX1.out).b5
  have a6 := (HB.out.ext HX1.out).b6
  have a7 := (HB.out.ext HX1.out).b7
  have a8 := (HB.out.ext HX1.out).b8
  have a9 := (HB.out.ext HX1.out).b9
  have a10 := (HB.out.ext HX1.out).b10
  cases hf : Cd.few s.gs 20 with
  | false =>
    have HE := Lib.hid (show decide (Mv.few s R M) = false from decide_eq_false fun e => by have h := e.1; rw [hf] at h; cases h)
    clear hf
    go_wp2_with fail
    go_ret
    exact ⟨ret_bool HE.out.symm, HX0.out.trans HX1.out⟩
  | true =>
  have HF := Lib.hid hf
  clear hf
  by_cases q0 : 24 < s.src.length
  · have HE := Lib.hid (show decide (Mv.few s R M) = false from decide_eq_false fun e => by unfold Mv.few at e; omega)
    go_wp2_with fail
    go_ret
    exact ⟨ret_bool HE.out.symm, HX0.out.trans HX1.out⟩
  by_cases q1 : s.dst.length ≠ s.src.length
  · have HE := Lib.hid (show decide (Mv.few s R M) = false from decide_eq_false fun e => by unfold Mv.few at e; omega)
    have er : ((s.dst.length : Int) != (s.src.length : Int)) = true := by rw [bne_iff_ne]; omega
    go_wp2_with fail
    go_ret
    exact ⟨ret_bool HE.out.symm, HX0.out.trans HX1.out⟩
  have HL := Lib.hid (Decidable.not_not.1 q1)
  have er : ((s.dst.length : Int) != (s.src.length : Int)) = false := by rw [HL.out]; simp
  clear q1
  by_cases q2 : 70 < s.room.length
  · have HE := Lib.hid (show decide (Mv.few s R M) = false from decide_eq_false fun e => by unfold Mv.few at e; omega)
    go_wp2_with fail
    go_ret
    exact ⟨ret_bool HE.out.symm, HX0.out.trans HX1.out⟩
  by_cases q3 : 70 < s.disks.length
  · have HE := Lib.hid (show decide (Mv.few s R M) = false from decide_eq_false fun e => by unfold Mv.few at e; omega)
    go_wp2_with fail
    go_ret
    exact ⟨ret_bool HE.out.symm, HX0.out.trans HX1.out⟩
  by_cases q4 : R < s.racks.length
  · have HE := Lib.hid (show decide (Mv.few s R M) = false from decide_eq_false fun e => by unfold Mv.few at e; omega)
    go_wp2_with fail
    go_ret
    exact ⟨ret_bool HE.out.symm, HX0.out.trans HX1.out⟩
  by_cases q5 : 20 < s.houses.length
  · have HE := Lib.hid (show decide (Mv.few s R M) = false from decide_eq_false fun e => by unfold Mv.few at e; omega)
    go_wp2_with fail
    go_ret
    exact ⟨ret_bool HE.out.symm, HX0.out.trans HX1.out⟩
  go_wp2_with fail
  clear a0 a1 a2 a3 a4 a5 a6 a7 a8 a9 a10
  refine (kMoved_any s HL.out _ w1 (HS.out.ext HX1.out).sh).mono ?_
  rintro e w2 ⟨rfl, hx2⟩
  have HX2 := Lib.hid (HX1.out.trans hx2)
  have hfw : decide (Mv.few s R M) = decide (Mv.movedTo s.src s.dst s.src.length ≤ M) := decide_eq_decide.2 ⟨fun e => e.2.2.2.2.2.2.2, fun e => ⟨HF.out, by omega, HL.out, by omega, by omega, by omega, by omega, e⟩⟩
  obtain ⟨m, hm⟩ : ∃ m, Mv.movedTo s.src s.dst s.src.length = m := ⟨_, rfl⟩
  rw [hm] at hfw ⊢
  have HFW := Lib.hid hfw
  clear hx2 hfw hm
  by_cases hmm : m ≤ M
  · have HE := Lib.hid (HFW.out.trans (decide_eq_true hmm))
    go_wp2_with fail
    go_ret
    exact ⟨ret_bool HE.out.symm, HX0.out.trans HX2.out⟩
  · have HE := Lib.hid (HFW.out.trans (decide_eq_false hmm))
    go_wp2_with fail
    go_ret
    exact ⟨ret_bool HE.out.symm, HX0.out.trans HX2.out⟩
end Go.Proofs.YtkbiffbmjgmcaaaDoor

/- THE DRAWN REGION of right of package moves, one theorem for each way. -/
namespace Go.Proofs.YtkbiffbmjgmcaaaDoor
open Go.RowKit
noncomputable def kt_neg_code : Code := ((Tryd.f36.body.bind (regionOf 6)).getD .skip)
def kt_neg_dsts : List (Option Nat) := [some 23, some 24, some 25, some 26, some 27, some 28, some 29, some 30, some 31, some 32, some 33, some 34, some 35, some 36, some 37, some 38, some 39, some 40, some 41, some 42, some 43, some 44, some 45, some 46, some 47, some 48, some 49, some 50, some 51, some 52, some 53, some 54]
theorem kt_neg_apart : apartD kt_neg_dsts = true := by decide +kernel
set_option maxRecDepth 1000000 in
set_option maxHeartbeats 16000000 in
theorem kt_neg (wr : World) (B k np cP : Nat) (pp : Addr) (p : Int) (HC : Hid (p < 0 ∧ True)) (hkp : k < np) (cp : wr.cell? (pp.add k) = some (.int .i64 p)) (c0 c3 c4 c6 c7 c8 c9 c10 c11 c12 c13 c14 c15 c16 c17 c18 c19 c20 c21 c22 c23 c24 c25 c26 c27 c28 c29 c30 c31 c32 c33 c34 c35 c36 c37 c38 c39 c40 c41 c42 c43 c44 c45 c46 c47 c48 c49 c50 c51 c52 c53 c54 : Value) (df : List Deferred) (K : Act → World → Prop)
    (hK : ∀  (u23 u24 u25 u26 u27 u28 u29 u30 u31 u32 u33 u34 u35 u36 u37 u38 u39 u40 u41 u42 u43 u44 u45 u46 u47 u48 u49 u50 u51 u52 u53 : Value) (wx : World), Ext wr wx → K ⟨#[c0, .slice (some pp) np cP, .pointer (some ⟨B, 0, none⟩), c3, c4, .int .i64 (k : Nat), c6, c7, c8, c9, c10, c11, c12, c13, c14, c15, c16, c17, c18, c19, c20, c21, c22, u23, u24, u25, u26, u27, u28, u29, u30, u31, u32, u33, u34, u35, u36, u37, u38, u39, u40, u41, u42, u43, u44, u45, u46, u47, u48, u49, u50, u51, u52, u53, .bool true], df⟩ wx) :
    Code.wp Tryd.prog kt_neg_code (AtEnd K) ⟨#[c0, .slice (some pp) np cP, .pointer (some ⟨B, 0, none⟩), c3, c4, .int .i64 (k : Nat), c6, c7, c8, c9, c10, c11, c12, c13, c14, c15, c16, c17, c18, c19, c20, c21, c22, c23, c24, c25, c26, c27, c28, c29, c30, c31, c32, c33, c34, c35, c36, c37, c38, c39, c40, c41, c42, c43, c44, c45, c46, c47, c48, c49, c50, c51, c52, c53, c54], df⟩ wr := by
  conv => arg 2; whnf
  refine region_inv (by kernel_rfl) [[], [], [0, 1], [2], [3], [4], [5], [5], [6, 7, 5], [8, 5], [9, 5], [5, 10], [11, 5], [12], [12], [13, 14, 12], [15, 12], [16, 12], [17, 12, 12], [18], [19, 18], [18], [20, 21, 18], [22, 18], [18], [24, 18], [18], [25, 26, 18], [27, 18], [23, 28, 18], [18, 29, 12], [12, 30]] (by kernel_rfl) [0, 1, 2, 3, 4, 5, 6, 7, 8, 9, 10, 11, 12, 13, 14, 15, 16, 17, 18, 19, 20, 21, 22, 23, 24, 25, 26, 27, 28, 29, 30, 31] (by decide +kernel) (by decide +kernel) (by decide +kernel) (fun L a wc => Inv kt_neg_dsts [.slice (some pp) np cP, .int .i64 (k : Nat), .pointer (some (pp.add k)), .int .i64 p, .bool true, .bool true, undef, undef, undef, undef, undef, .bool true, .bool true, undef, undef, undef, undef, undef, undef, undef, undef, undef, undef, undef, undef, undef, undef, undef, undef, undef, undef, .bool true] ⟨#[c0, .slice (some pp) np cP, .pointer (some ⟨B, 0, none⟩), c3, c4, .int .i64 (k : Nat), c6, c7, c8, c9, c10, c11, c12, c13, c14, c15, c16, c17, c18, c19, c20, c21, c22, c23, c24, c25, c26, c27, c28, c29, c30, c31, c32, c33, c34, c35, c36, c37, c38, c39, c40, c41, c42, c43, c44, c45, c46, c47, c48, c49, c50, c51, c52, c53, c54], df⟩ L a ∧ Hid (Ext wr wc)) ⟨Inv.start, Lib.hid ((Ext.refl wr).drew)⟩ ?_ ?_
  · refine ⟨?_, ?_, ?_, ?_, ?_, ?_, ?_, ?_, ?_, ?_, ?_, ?_, ?_, ?_, ?_, ?_, ?_, ?_, ?_, ?_, ?_, ?_, ?_, ?_, ?_, ?_, ?_, ?_, ?_, ?_, ?_, ?_, trivial⟩
    · -- 0 move
      rintro L a wc ⟨hv, HO⟩ hL hc hd
      exact wpOp_val rfl rfl (ex_move rfl ((hv.fixed 1 (by decide)).trans rfl)) ⟨hv.put kt_neg_apart 0 rfl (Nat.le_of_ble_eq_true rfl) (Nat.le_of_ble_eq_true rfl) rfl, HO⟩
    · -- 1 move
      rintro L a wc ⟨hv, HO⟩ hL hc hd
      exact wpOp_val rfl rfl (ex_move rfl ((hv.fixed 5 (by decide)).trans rfl)) ⟨hv.put kt_neg_apart 1 rfl (Nat.le_of_ble_eq_true rfl) (Nat.le_of_ble_eq_true rfl) rfl, HO⟩
    · -- 2 index
      rintro L a wc ⟨hv, HO⟩ hL hc hd
      have u1 : (0 : Int) ≤ (k : Int) := by omega
      have u2 : (k : Int) < (np : Int) := by omega
      exact wpOp_val rfl rfl (ex_index rfl (hv.get 0 rfl rfl (hd 0 (by decide))) (hv.get 1 rfl rfl (hd 1 (by decide))) (by go_simp)) ⟨hv.put kt_neg_apart 2 rfl (Nat.le_of_ble_eq_true rfl) (Nat.le_of_ble_eq_true rfl) rfl, HO⟩
    · -- 3 load
      rintro L a wc ⟨hv, HO⟩ hL hc hd
      have h1 : wc.cell? (pp.add k) = some (.int .i64 p) := HO.out.cell cp
      exact wpOp_val rfl rfl (ex_load rfl (hv.get 2 rfl rfl (hd 2 (by decide))) (by go_simp)) ⟨hv.put kt_neg_apart 3 rfl (Nat.le_of_ble_eq_true rfl) (Nat.le_of_ble_eq_true rfl) rfl, HO⟩
    · -- 4 bin
      rintro L a wc ⟨hv, HO⟩ hL hc hd
      have u := HC.out.1
      exact wpOp_val rfl rfl (ex_bin rfl (hv.get 3 rfl rfl (hd 3 (by decide))) rfl (by go_simp)) ⟨hv.put kt_neg_apart 4 rfl (Nat.le_of_ble_eq_true rfl) (Nat.le_of_ble_eq_true rfl) rfl, HO⟩
    · -- 5 move
      rintro L a wc ⟨hv, HO⟩ hL hc hd
      exact wpOp_val rfl rfl (ex_move rfl (hv.get 4 rfl rfl (hd 4 (by decide)))) ⟨hv.put kt_neg_apart 5 rfl (Nat.le_of_ble_eq_true rfl) (Nat.le_of_ble_eq_true rfl) rfl, HO⟩
    · -- 6 off
      rintro L a wc ⟨hv, HO⟩ hL hc hd
      exact wpOp_off rfl ((wanted_at rfl rfl (hv.get 5 rfl rfl (hd 5 (by decide)))).trans rfl) ⟨hv.put kt_neg_apart 6 rfl (Nat.le_of_ble_eq_true rfl) (Nat.le_of_ble_eq_true rfl) rfl, HO⟩
    · -- 7 off
      rintro L a wc ⟨hv, HO⟩ hL hc hd
      exact wpOp_off rfl ((wanted_at rfl rfl (hv.get 5 rfl rfl (hd 5 (by decide)))).trans rfl) ⟨hv.put kt_neg_apart 7 rfl (Nat.le_of_ble_eq_true rfl) (Nat.le_of_ble_eq_true rfl) rfl, HO⟩
    · -- 8 off
      rintro L a wc ⟨hv, HO⟩ hL hc hd
      exact wpOp_off rfl ((wanted_at rfl rfl (hv.get 5 rfl rfl (hd 5 (by decide)))).trans rfl) ⟨hv.put kt_neg_apart 8 rfl (Nat.le_of_ble_eq_true rfl) (Nat.le_of_ble_eq_true rfl) rfl, HO⟩
    · -- 9 off
      rintro L a wc ⟨hv, HO⟩ hL hc hd
      exact wpOp_off rfl ((wanted_at rfl rfl (hv.get 5 rfl rfl (hd 5 (by decide)))).trans rfl) ⟨hv.put kt_neg_apart 9 rfl (Nat.le_of_ble_eq_true rfl) (Nat.le_of_ble_eq_true rfl) rfl, HO⟩
    · -- 10 off
      rintro L a wc ⟨hv, HO⟩ hL hc hd
      exact wpOp_off rfl ((wanted_at rfl rfl (hv.get 5 rfl rfl (hd 5 (by decide)))).trans rfl) ⟨hv.put kt_neg_apart 10 rfl (Nat.le_of_ble_eq_true rfl) (Nat.le_of_ble_eq_true rfl) rfl, HO⟩
    · -- 11 pick
      rintro L a wc ⟨hv, HO⟩ hL hc hd
      exact wpOp_val rfl rfl (ex_pick rfl (hv.get 5 rfl rfl (hd 5 (by decide))) rfl) ⟨hv.put kt_neg_apart 11 rfl (Nat.le_of_ble_eq_true rfl) (Nat.le_of_ble_eq_true rfl) rfl, HO⟩
    · -- 12 move
      rintro L a wc ⟨hv, HO⟩ hL hc hd
      exact wpOp_val rfl rfl (ex_move rfl (hv.get 11 rfl rfl (hd 11 (by decide)))) ⟨hv.put kt_neg_apart 12 rfl (Nat.le_of_ble_eq_true rfl) (Nat.le_of_ble_eq_true rfl) rfl, HO⟩
    · -- 13 off
      rintro L a wc ⟨hv, HO⟩ hL hc hd
      exact wpOp_off rfl ((wanted_at rfl rfl (hv.get 12 rfl rfl (hd 12 (by decide)))).trans rfl) ⟨hv.put kt_neg_apart 13 rfl (Nat.le_of_ble_eq_true rfl) (Nat.le_of_ble_eq_true rfl) rfl, HO⟩
    · -- 14 off
      rintro L a wc ⟨hv, HO⟩ hL hc hd
      exact wpOp_off rfl ((wanted_at rfl rfl (hv.get 12 rfl rfl (hd 12 (by decide)))).trans rfl) ⟨hv.put kt_neg_apart 14 rfl (Nat.le_of_ble_eq_true rfl) (Nat.le_of_ble_eq_true rfl) rfl, HO⟩
    · -- 15 off
      rintro L a wc ⟨hv, HO⟩ hL hc hd
      exact wpOp_off rfl ((wanted_at rfl rfl (hv.get 12 rfl rfl (hd 12 (by decide)))).trans rfl) ⟨hv.put kt_neg_apart 15 rfl (Nat.le_of_ble_eq_true rfl) (Nat.le_of_ble_eq_true rfl) rfl, HO⟩
    · -- 16 off
      rintro L a wc ⟨hv, HO⟩ hL hc hd
      exact wpOp_off rfl ((wanted_at rfl rfl (hv.get 12 rfl rfl (hd 12 (by decide)))).trans rfl) ⟨hv.put kt_neg_apart 16 rfl (Nat.le_of_ble_eq_true rfl) (Nat.le_of_ble_eq_true rfl) rfl, HO⟩
    · -- 17 off
      rintro L a wc ⟨hv, HO⟩ hL hc hd
      exact wpOp_off rfl ((wanted_at rfl rfl (hv.get 12 rfl rfl (hd 12 (by decide)))).trans rfl) ⟨hv.put kt_neg_apart 17 rfl (Nat.le_of_ble_eq_true rfl) (Nat.le_of_ble_eq_true rfl) rfl, HO⟩
    · -- 18 off
      rintro L a wc ⟨hv, HO⟩ hL hc hd
      exact wpOp_off rfl ((wanted_at rfl rfl (hv.get 12 rfl rfl (hd 12 (by decide)))).trans rfl) ⟨hv.put kt_neg_apart 18 rfl (Nat.le_of_ble_eq_true rfl) (Nat.le_of_ble_eq_true rfl) rfl, HO⟩
    · -- 19 off
      rintro L a wc ⟨hv, HO⟩ hL hc hd
      exact wpOp_off rfl (wanted_undef rfl rfl (hv.get 18 rfl rfl (hd 18 (by decide)))) ⟨hv.put kt_neg_apart 19 rfl (Nat.le_of_ble_eq_true rfl) (Nat.le_of_ble_eq_true rfl) rfl, HO⟩
    · -- 20 off
      rintro L a wc ⟨hv, HO⟩ hL hc hd
      exact wpOp_off rfl (wanted_undef rfl rfl (hv.get 18 rfl rfl (hd 18 (by decide)))) ⟨hv.put kt_neg_apart 20 rfl (Nat.le_of_ble_eq_true rfl) (Nat.le_of_ble_eq_true rfl) rfl, HO⟩
    · -- 21 off
      rintro L a wc ⟨hv, HO⟩ hL hc hd
      exact wpOp_off rfl (wanted_undef rfl rfl (hv.get 18 rfl rfl (hd 18 (by decide)))) ⟨hv.put kt_neg_apart 21 rfl (Nat.le_of_ble_eq_true rfl) (Nat.le_of_ble_eq_true rfl) rfl, HO⟩
    · -- 22 off
      rintro L a wc ⟨hv, HO⟩ hL hc hd
      exact wpOp_off rfl (wanted_undef rfl rfl (hv.get 18 rfl rfl (hd 18 (by decide)))) ⟨hv.put kt_neg_apart 22 rfl (Nat.le_of_ble_eq_true rfl) (Nat.le_of_ble_eq_true rfl) rfl, HO⟩
    · -- 23 off
      rintro L a wc ⟨hv, HO⟩ hL hc hd
      exact wpOp_off rfl (wanted_undef rfl rfl (hv.get 18 rfl rfl (hd 18 (by decide)))) ⟨hv.put kt_neg_apart 23 rfl (Nat.le_of_ble_eq_true rfl) (Nat.le_of_ble_eq_true rfl) rfl, HO⟩
    · -- 24 off
      rintro L a wc ⟨hv, HO⟩ hL hc hd
      exact wpOp_off rfl (wanted_undef rfl rfl (hv.get 18 rfl rfl (hd 18 (by decide)))) ⟨hv.put kt_neg_apart 24 rfl (Nat.le_of_ble_eq_true rfl) (Nat.le_of_ble_eq_true rfl) rfl, HO⟩
    · -- 25 off
      rintro L a wc ⟨hv, HO⟩ hL hc hd
      exact wpOp_off rfl (wanted_undef rfl rfl (hv.get 18 rfl rfl (hd 18 (by decide)))) ⟨hv.put kt_neg_apart 25 rfl (Nat.le_of_ble_eq_true rfl) (Nat.le_of_ble_eq_true rfl) rfl, HO⟩
    · -- 26 off
      rintro L a wc ⟨hv, HO⟩ hL hc hd
      exact wpOp_off rfl (wanted_undef rfl rfl (hv.get 18 rfl rfl (hd 18 (by decide)))) ⟨hv.put kt_neg_apart 26 rfl (Nat.le_of_ble_eq_true rfl) (Nat.le_of_ble_eq_true rfl) rfl, HO⟩
    · -- 27 off
      rintro L a wc ⟨hv, HO⟩ hL hc hd
      exact wpOp_off rfl (wanted_undef rfl rfl (hv.get 18 rfl rfl (hd 18 (by decide)))) ⟨hv.put kt_neg_apart 27 rfl (Nat.le_of_ble_eq_true rfl) (Nat.le_of_ble_eq_true rfl) rfl, HO⟩
    · -- 28 off
      rintro L a wc ⟨hv, HO⟩ hL hc hd
      exact wpOp_off rfl (wanted_undef rfl rfl (hv.get 18 rfl rfl (hd 18 (by decide)))) ⟨hv.put kt_neg_apart 28 rfl (Nat.le_of_ble_eq_true rfl) (Nat.le_of_ble_eq_true rfl) rfl, HO⟩
    · -- 29 off
      rintro L a wc ⟨hv, HO⟩ hL hc hd
      exact wpOp_off rfl (wanted_undef rfl rfl (hv.get 18 rfl rfl (hd 18 (by decide)))) ⟨hv.put kt_neg_apart 29 rfl (Nat.le_of_ble_eq_true rfl) (Nat.le_of_ble_eq_true rfl) rfl, HO⟩
    · -- 30 off
      rintro L a wc ⟨hv, HO⟩ hL hc hd
      exact wpOp_off rfl ((wanted_at rfl rfl (hv.get 12 rfl rfl (hd 12 (by decide)))).trans rfl) ⟨hv.put kt_neg_apart 30 rfl (Nat.le_of_ble_eq_true rfl) (Nat.le_of_ble_eq_true rfl) rfl, HO⟩
    · -- 31 pick
      rintro L a wc ⟨hv, HO⟩ hL hc hd
      exact wpOp_val rfl rfl (ex_pick rfl (hv.get 12 rfl rfl (hd 12 (by decide))) rfl) ⟨hv.put kt_neg_apart 31 rfl (Nat.le_of_ble_eq_true rfl) (Nat.le_of_ble_eq_true rfl) rfl, HO⟩
  · rintro L a wc ⟨hv, HO⟩ hall
    show K a wc
    have ha := act_lit a
    rw [hv.size, hv.defers] at ha
    have hl : ∀ f : Nat → Value, ((List.range (⟨#[c0, .slice (some pp) np cP, .pointer (some ⟨B, 0, none⟩), c3, c4, .int .i64 (k : Nat), c6, c7, c8, c9, c10, c11, c12, c13, c14, c15, c16, c17, c18, c19, c20, c21, c22, c23, c24, c25, c26, c27, c28, c29, c30, c31, c32, c33, c34, c35, c36, c37, c38, c39, c40, c41, c42, c43, c44, c45, c46, c47, c48, c49, c50, c51, c52, c53, c54], df⟩ : Act).tmps.size).map f).toArray = #[f 0, f 1, f 2, f 3, f 4, f 5, f 6, f 7, f 8, f 9, f 10, f 11, f 12, f 13, f 14, f 15, f 16, f 17, f 18, f 19, f 20, f 21, f 22, f 23, f 24, f 25, f 26, f 27, f 28, f 29, f 30, f 31, f 32, f 33, f 34, f 35, f 36, f 37, f 38, f 39, f 40, f 41, f 42, f 43, f 44, f 45, f 46, f 47, f 48, f 49, f 50, f 51, f 52, f 53, f 54] := fun _ => rfl
    rw [hl] at ha
    simp only [hv.fixed 0 (by decide), hv.fixed 1 (by decide), hv.fixed 2 (by decide), hv.fixed 3 (by decide), hv.fixed 4 (by decide), hv.fixed 5 (by decide), hv.fixed 6 (by decide), hv.fixed 7 (by decide), hv.fixed 8 (by decide), hv.fixed 9 (by decide), hv.fixed 10 (by decide), hv.fixed 11 (by decide), hv.fixed 12 (by decide), hv.fixed 13 (by decide), hv.fixed 14 (by decide), hv.fixed 15 (by decide), hv.fixed 16 (by decide), hv.fixed 17 (by decide), hv.fixed 18 (by decide), hv.fixed 19 (by decide), hv.fixed 20 (by decide), hv.fixed 21 (by decide), hv.fixed 22 (by decide), hv.get 31 (d := 54) rfl rfl (hall 31 (by decide))] at ha
    rw [ha]
    exact hK _ _ _ _ _ _ _ _ _ _ _ _ _ _ _ _ _ _ _ _ _ _ _ _ _ _ _ _ _ _ _ wc HO.out
noncomputable def kt_big_code : Code := ((Tryd.f36.body.bind (regionOf 6)).getD .skip)
def kt_big_dsts : List (Option Nat) := [some 23, some 24, some 25, some 26, some 27, some 28, some 29, some 30, some 31, some 32, some 33, some 34, some 35, some 36, some 37, some 38, some 39, some 40, some 41, some 42, some 43, some 44, some 45, some 46, some 47, some 48, some 49, some 50, some 51, some 52, some 53, some 54]
theorem kt_big_apart : apartD kt_big_dsts = true := by decide +kernel
set_option maxRecDepth 1000000 in
set_option maxHeartbeats 16000000 in
theorem kt_big (wr : World) (B k np cP : Nat) (pp : Addr) (p : Int) (HC : Hid (¬ p < 0 ∧ 2 < p ∧ True)) (hkp : k < np) (cp : wr.cell? (pp.add k) = some (.int .i64 p)) (c0 c3 c4 c6 c7 c8 c9 c10 c11 c12 c13 c14 c15 c16 c17 c18 c19 c20 c21 c22 c23 c24 c25 c26 c27 c28 c29 c30 c31 c32 c33 c34 c35 c36 c37 c38 c39 c40 c41 c42 c43 c44 c45 c46 c47 c48 c49 c50 c51 c52 c53 c54 : Value) (df : List Deferred) (K : Act → World → Prop)
    (hK : ∀  (u23 u24 u25 u26 u27 u28 u29 u30 u31 u32 u33 u34 u35 u36 u37 u38 u39 u40 u41 u42 u43 u44 u45 u46 u47 u48 u49 u50 u51 u52 u53 : Value) (wx : World), Ext wr wx → K ⟨#[c0, .slice (some pp) np cP, .pointer (some ⟨B, 0, none⟩), c3, c4, .int .i64 (k : Nat), c6, c7, c8, c9, c10, c11, c12, c13, c14, c15, c16, c17, c18, c19, c20, c21, c22, u23, u24, u25, u26, u27, u28, u29, u30, u31, u32, u33, u34, u35, u36, u37, u38, u39, u40, u41, u42, u43, u44, u45, u46, u47, u48, u49, u50, u51, u52, u53, .bool true], df⟩ wx) :
    Code.wp Tryd.prog kt_big_code (AtEnd K) ⟨#[c0, .slice (some pp) np cP, .pointer (some ⟨B, 0, none⟩), c3, c4, .int .i64 (k : Nat), c6, c7, c8, c9, c10, c11, c12, c13, c14, c15, c16, c17, c18, c19, c20, c21, c22, c23, c24, c25, c26, c27, c28, c29, c30, c31, c32, c33, c34, c35, c36, c37, c38, c39, c40, c41, c42, c43, c44, c45, c46, c47, c48, c49, c50, c51, c52, c53, c54], df⟩ wr := by
  conv => arg 2; whnf
  refine region_inv (by kernel_rfl) [[], [], [0, 1], [2], [3], [4], [5], [5], [6, 7, 5], [8, 5], [9, 5], [5, 10], [11, 5], [12], [12], [13, 14, 12], [15, 12], [16, 12], [17, 12, 12], [18], [19, 18], [18], [20, 21, 18], [22, 18], [18], [24, 18], [18], [25, 26, 18], [27, 18], [23, 28, 18], [18, 29, 12], [12, 30]] (by kernel_rfl) [0, 1, 2, 3, 4, 5, 6, 7, 8, 9, 10, 11, 12, 13, 14, 15, 16, 17, 18, 19, 20, 21, 22, 23, 24, 25, 26, 27, 28, 29, 30, 31] (by decide +kernel) (by decide +kernel) (by decide +kernel) (fun L a wc => Inv kt_big_dsts [.slice (some pp) np cP, .int .i64 (k : Nat), .pointer (some (pp.add k)), .int .i64 p, .bool false, .bool false, .slice (some pp) np cP, .int .i64 (k : Nat), .pointer (some (pp.add k)), .int .i64 p, .bool true, .bool true, .bool true, undef, undef, undef, undef, undef, undef, undef, undef, undef, undef, undef, undef, undef, undef, undef, undef, undef, undef, .bool true] ⟨#[c0, .slice (some pp) np cP, .pointer (some ⟨B, 0, none⟩), c3, c4, .int .i64 (k : Nat), c6, c7, c8, c9, c10, c11, c12, c13, c14, c15, c16, c17, c18, c19, c20, c21, c22, c23, c24, c25, c26, c27, c28, c29, c30, c31, c32, c33, c34, c35, c36, c37, c38, c39, c40, c41, c42, c43, c44, c45, c46, c47, c48, c49, c50, c51, c52, c53, c54], df⟩ L a ∧ Hid (Ext wr wc)) ⟨Inv.start, Lib.hid ((Ext.refl wr).drew)⟩ ?_ ?_
  · refine ⟨?_, ?_, ?_, ?_, ?_, ?_, ?_, ?_, ?_, ?_, ?_, ?_, ?_, ?_, ?_, ?_, ?_, ?_, ?_, ?_, ?_, ?_, ?_, ?_, ?_, ?_, ?_, ?_, ?_, ?_, ?_, ?_, trivial⟩
    · -- 0 move
      rintro L a wc ⟨hv, HO⟩ hL hc hd
      exact wpOp_val rfl rfl (ex_move rfl ((hv.fixed 1 (by decide)).trans rfl)) ⟨hv.put kt_big_apart 0 rfl (Nat.le_of_ble_eq_true rfl) (Nat.le_of_ble_eq_true rfl) rfl, HO⟩
    · -- 1 move
      rintro L a wc ⟨hv, HO⟩ hL hc hd
      exact wpOp_val rfl rfl (ex_move rfl ((hv.fixed 5 (by decide)).trans rfl)) ⟨hv.put kt_big_apart 1 rfl (Nat.le_of_ble_eq_true rfl) (Nat.le_of_ble_eq_true rfl) rfl, HO⟩
    · -- 2 index
      rintro L a wc ⟨hv, HO⟩ hL hc hd
      have u1 : (0 : Int) ≤ (k : Int) := by omega
      have u2 : (k : Int) < (np : Int) := by omega
      exact wpOp_val rfl rfl (ex_index rfl (hv.get 0 rfl rfl (hd 0 (by decide))) (hv.get 1 rfl rfl (hd 1 (by decide))) (by go_simp)) ⟨hv.put kt_big_apart 2 rfl (Nat.le_of_ble_eq_true rfl) (Nat.le_of_ble_eq_true rfl) rfl, HO⟩
    · -- 3 load
      rintro L a wc ⟨hv, HO⟩ hL hc hd
      have h1 : wc.cell? (pp.add k) = some (.int .i64 p) := HO.out.cell cp
      exact wpOp_val rfl rfl (ex_load rfl (hv.get 2 rfl rfl (hd 2 (by decide))) (by go_simp)) ⟨hv.put kt_big_apart 3 rfl (Nat.le_of_ble_eq_true rfl) (Nat.le_of_ble_eq_true rfl) rfl, HO⟩
    · -- 4 bin
      rintro L a wc ⟨hv, HO⟩ hL hc hd
      have u := HC.out.1
      exact wpOp_val rfl rfl (ex_bin rfl (hv.get 3 rfl rfl (hd 3 (by decide))) rfl (by go_simp)) ⟨hv.put kt_big_apart 4 rfl (Nat.le_of_ble_eq_true rfl) (Nat.le_of_ble_eq_true rfl) rfl, HO⟩
    · -- 5 move
      rintro L a wc ⟨hv, HO⟩ hL hc hd
      exact wpOp_val rfl rfl (ex_move rfl (hv.get 4 rfl rfl (hd 4 (by decide)))) ⟨hv.put kt_big_apart 5 rfl (Nat.le_of_ble_eq_true rfl) (Nat.le_of_ble_eq_true rfl) rfl, HO⟩
    · -- 6 move
      rintro L a wc ⟨hv, HO⟩ hL hc hd
      exact wpOp_val rfl ((wanted_at rfl rfl (hv.get 5 rfl rfl (hd 5 (by decide)))).trans rfl) (ex_move rfl ((hv.fixed 1 (by decide)).trans rfl)) ⟨hv.put kt_big_apart 6 rfl (Nat.le_of_ble_eq_true rfl) (Nat.le_of_ble_eq_true rfl) rfl, HO⟩
    · -- 7 move
      rintro L a wc ⟨hv, HO⟩ hL hc hd
      exact wpOp_val rfl ((wanted_at rfl rfl (hv.get 5 rfl rfl (hd 5 (by decide)))).trans rfl) (ex_move rfl ((hv.fixed 5 (by decide)).trans rfl)) ⟨hv.put kt_big_apart 7 rfl (Nat.le_of_ble_eq_true rfl) (Nat.le_of_ble_eq_true rfl) rfl, HO⟩
    · -- 8 index
      rintro L a wc ⟨hv, HO⟩ hL hc hd
      have u1 : (0 : Int) ≤ (k : Int) := by omega
      have u2 : (k : Int) < (np : Int) := by omega
      exact wpOp_val rfl ((wanted_at rfl rfl (hv.get 5 rfl rfl (hd 5 (by decide)))).trans rfl) (ex_index rfl (hv.get 6 rfl rfl (hd 6 (by decide))) (hv.get 7 rfl rfl (hd 7 (by decide))) (by go_simp)) ⟨hv.put kt_big_apart 8 rfl (Nat.le_of_ble_eq_true rfl) (Nat.le_of_ble_eq_true rfl) rfl, HO⟩
    · -- 9 load
      rintro L a wc ⟨hv, HO⟩ hL hc hd
      have h1 : wc.cell? (pp.add k) = some (.int .i64 p) := HO.out.cell cp
      exact wpOp_val rfl ((wanted_at rfl rfl (hv.get 5 rfl rfl (hd 5 (by decide)))).trans rfl) (ex_load rfl (hv.get 8 rfl rfl (hd 8 (by decide))) (by go_simp)) ⟨hv.put kt_big_apart 9 rfl (Nat.le_of_ble_eq_true rfl) (Nat.le_of_ble_eq_true rfl) rfl, HO⟩
    · -- 10 bin
      rintro L a wc ⟨hv, HO⟩ hL hc hd
      have u := HC.out.2.1
      exact wpOp_val rfl ((wanted_at rfl rfl (hv.get 5 rfl rfl (hd 5 (by decide)))).trans rfl) (ex_bin rfl (hv.get 9 rfl rfl (hd 9 (by decide))) rfl (by go_simp)) ⟨hv.put kt_big_apart 10 rfl (Nat.le_of_ble_eq_true rfl) (Nat.le_of_ble_eq_true rfl) rfl, HO⟩
    · -- 11 pick
      rintro L a wc ⟨hv, HO⟩ hL hc hd
      exact wpOp_val rfl rfl (ex_pick rfl (hv.get 5 rfl rfl (hd 5 (by decide))) ((if_neg (by simp)).trans (hv.get 10 rfl rfl (hd 10 (by decide))))) ⟨hv.put kt_big_apart 11 rfl (Nat.le_of_ble_eq_true rfl) (Nat.le_of_ble_eq_true rfl) rfl, HO⟩
    · -- 12 move
      rintro L a wc ⟨hv, HO⟩ hL hc hd
      exact wpOp_val rfl rfl (ex_move rfl (hv.get 11 rfl rfl (hd 11 (by decide)))) ⟨hv.put kt_big_apart 12 rfl (Nat.le_of_ble_eq_true rfl) (Nat.le_of_ble_eq_true rfl) rfl, HO⟩
    · -- 13 off
      rintro L a wc ⟨hv, HO⟩ hL hc hd
      exact wpOp_off rfl ((wanted_at rfl rfl (hv.get 12 rfl rfl (hd 12 (by decide)))).trans rfl) ⟨hv.put kt_big_apart 13 rfl (Nat.le_of_ble_eq_true rfl) (Nat.le_of_ble_eq_true rfl) rfl, HO⟩
    · -- 14 off
      rintro L a wc ⟨hv, HO⟩ hL hc hd
      exact wpOp_off rfl ((wanted_at rfl rfl (hv.get 12 rfl rfl (hd 12 (by decide)))).trans rfl) ⟨hv.put kt_big_apart 14 rfl (Nat.le_of_ble_eq_true rfl) (Nat.le_of_ble_eq_true rfl) rfl, HO⟩
    · -- 15 off
      rintro L a wc ⟨hv, HO⟩ hL hc hd
      exact wpOp_off rfl ((wanted_at rfl rfl (hv.get 12 rfl rfl (hd 12 (by decide)))).trans rfl) ⟨hv.put kt_big_apart 15 rfl (Nat.le_of_ble_eq_true rfl) (Nat.le_of_ble_eq_true rfl) rfl, HO⟩
    · -- 16 off
      rintro L a wc ⟨hv, HO⟩ hL hc hd
      exact wpOp_off rfl ((wanted_at rfl rfl (hv.get 12 rfl rfl (hd 12 (by decide)))).trans rfl) ⟨hv.put kt_big_apart 16 rfl (Nat.le_of_ble_eq_true rfl) (Nat.le_of_ble_eq_true rfl) rfl, HO⟩
    · -- 17 off
      rintro L a wc ⟨hv, HO⟩ hL hc hd
      exact wpOp_off rfl ((wanted_at rfl rfl (hv.get 12 rfl rfl (hd 12 (by decide)))).trans rfl) ⟨hv.put kt_big_apart 17 rfl (Nat.le_of_ble_eq_true rfl) (Nat.le_of_ble_eq_true rfl) rfl, HO⟩
    · -- 18 off
      rintro L a wc ⟨hv, HO⟩ hL hc hd
      exact wpOp_off rfl ((wanted_at rfl rfl (hv.get 12 rfl rfl (hd 12 (by decide)))).trans rfl) ⟨hv.put kt_big_apart 18 rfl (Nat.le_of_ble_eq_true rfl) (Nat.le_of_ble_eq_true rfl) rfl, HO⟩
    · -- 19 off
      rintro L a wc ⟨hv, HO⟩ hL hc hd
      exact wpOp_off rfl (wanted_undef rfl rfl (hv.get 18 rfl rfl (hd 18 (by decide)))) ⟨hv.put kt_big_apart 19 rfl (Nat.le_of_ble_eq_true rfl) (Nat.le_of_ble_eq_true rfl) rfl, HO⟩
    · -- 20 off
      rintro L a wc ⟨hv, HO⟩ hL hc hd
      exact wpOp_off rfl (wanted_undef rfl rfl (hv.get 18 rfl rfl (hd 18 (by decide)))) ⟨hv.put kt_big_apart 20 rfl (Nat.le_of_ble_eq_true rfl) (Nat.le_of_ble_eq_true rfl) rfl, HO⟩
    · -- 21 off
      rintro L a wc ⟨hv, HO⟩ hL hc hd
      exact wpOp_off rfl (wanted_undef rfl rfl (hv.get 18 rfl rfl (hd 18 (by decide)))) ⟨hv.put kt_big_apart 21 rfl (Nat.le_of_ble_eq_true rfl) (Nat.le_of_ble_eq_true rfl) rfl, HO⟩
    · -- 22 off
      rintro L a wc ⟨hv, HO⟩ hL hc hd
      exact wpOp_off rfl (wanted_undef rfl rfl (hv.get 18 rfl rfl (hd 18 (by decide)))) ⟨hv.put kt_big_apart 22 rfl (Nat.le_of_ble_eq_true rfl) (Nat.le_of_ble_eq_true rfl) rfl, HO⟩
    · -- 23 off
      rintro L a wc ⟨hv, HO⟩ hL hc hd
      exact wpOp_off rfl (wanted_undef rfl rfl (hv.get 18 rfl rfl (hd 18 (by decide)))) ⟨hv.put kt_big_apart 23 rfl (Nat.le_of_ble_eq_true rfl) (Nat.le_of_ble_eq_true rfl) rfl, HO⟩
    · -- 24 off
      rintro L a wc ⟨hv, HO⟩ hL hc hd
      exact wpOp_off rfl (wanted_undef rfl rfl (hv.get 18 rfl rfl (hd 18 (by decide)))) ⟨hv.put kt_big_apart 24 rfl (Nat.le_of_ble_eq_true rfl) (Nat.le_of_ble_eq_true rfl) rfl, HO⟩
    · -- 25 off
      rintro L a wc ⟨hv, HO⟩ hL hc hd
      exact wpOp_off rfl (wanted_undef rfl rfl (hv.get 18 rfl rfl (hd 18 (by decide)))) ⟨hv.put kt_big_apart 25 rfl (Nat.le_of_ble_eq_true rfl) (Nat.le_of_ble_eq_true rfl) rfl, HO⟩
    · -- 26 off
      rintro L a wc ⟨hv, HO⟩ hL hc hd
      exact wpOp_off rfl (wanted_undef rfl rfl (hv.get 18 rfl rfl (hd 18 (by decide)))) ⟨hv.put kt_big_apart 26 rfl (Nat.le_of_ble_eq_true rfl) (Nat.le_of_ble_eq_true rfl) rfl, HO⟩
    · -- 27 off
      rintro L a wc ⟨hv, HO⟩ hL hc hd
      exact wpOp_off rfl (wanted_undef rfl rfl (hv.get 18 rfl rfl (hd 18 (by decide)))) ⟨hv.put kt_big_apart 27 rfl (Nat.le_of_ble_eq_true rfl) (Nat.le_of_ble_eq_true rfl) rfl, HO⟩
    · -- 28 off
      rintro L a wc ⟨hv, HO⟩ hL hc hd
      exact wpOp_off rfl (wanted_undef rfl rfl (hv.get 18 rfl rfl (hd 18 (by decide)))) ⟨hv.put kt_big_apart 28 rfl (Nat.le_of_ble_eq_true rfl) (Nat.le_of_ble_eq_true rfl) rfl, HO⟩
    · -- 29 off
      rintro L a wc ⟨hv, HO⟩ hL hc hd
      exact wpOp_off rfl (wanted_undef rfl rfl (hv.get 18 rfl rfl (hd 18 (by decide)))) ⟨hv.put kt_big_apart 29 rfl (Nat.le_of_ble_eq_true rfl) (Nat.le_of_ble_eq_true rfl) rfl, HO⟩
    · -- 30 off
      rintro L a wc ⟨hv, HO⟩ hL hc hd
      exact wpOp_off rfl ((wanted_at rfl rfl (hv.get 12 rfl rfl (hd 12 (by decide)))).trans rfl) ⟨hv.put kt_big_apart 30 rfl (Nat.le_of_ble_eq_true rfl) (Nat.le_of_ble_eq_true rfl) rfl, HO⟩
    · -- 31 pick
      rintro L a wc ⟨hv, HO⟩ hL hc hd
      exact wpOp_val rfl rfl (ex_pick rfl (hv.get 12 rfl rfl (hd 12 (by decide))) rfl) ⟨hv.put kt_big_apart 31 rfl (Nat.le_of_ble_eq_true rfl) (Nat.le_of_ble_eq_true rfl) rfl, HO⟩
  · rintro L a wc ⟨hv, HO⟩ hall
    show K a wc
    have ha := act_lit a
    rw [hv.size, hv.defers] at ha
    have hl : ∀ f : Nat → Value, ((List.range (⟨#[c0, .slice (some pp) np cP, .pointer (some ⟨B, 0, none⟩), c3, c4, .int .i64 (k : Nat), c6, c7, c8, c9, c10, c11, c12, c13, c14, c15, c16, c17, c18, c19, c20, c21, c22, c23, c24, c25, c26, c27, c28, c29, c30, c31, c32, c33, c34, c35, c36, c37, c38, c39, c40, c41, c42, c43, c44, c45, c46, c47, c48, c49, c50, c51, c52, c53, c54], df⟩ : Act).tmps.size).map f).toArray = #[f 0, f 1, f 2, f 3, f 4, f 5, f 6, f 7, f 8, f 9, f 10, f 11, f 12, f 13, f 14, f 15, f 16, f 17, f 18, f 19, f 20, f 21, f 22, f 23, f 24, f 25, f 26, f 27, f 28, f 29, f 30, f 31, f 32, f 33, f 34, f 35, f 36, f 37, f 38, f 39, f 40, f 41, f 42, f 43, f 44, f 45, f 46, f 47, f 48, f 49, f 50, f 51, f 52, f 53, f 54] := fun _ => rfl
    rw [hl] at ha
    simp only [hv.fixed 0 (by decide), hv.fixed 1 (by decide), hv.fixed 2 (by decide), hv.fixed 3 (by decide), hv.fixed 4 (by decide), hv.fixed 5 (by decide), hv.fixed 6 (by decide), hv.fixed 7 (by decide), hv.fixed 8 (by decide), hv.fixed 9 (by decide), hv.fixed 10 (by decide), hv.fixed 11 (by decide), hv.fixed 12 (by decide), hv.fixed 13 (by decide), hv.fixed 14 (by decide), hv.fixed 15 (by decide), hv.fixed 16 (by decide), hv.fixed 17 (by decide), hv.fixed 18 (by decide), hv.fixed 19 (by decide), hv.fixed 20 (by decide), hv.fixed 21 (by decide), hv.fixed 22 (by decide), hv.get 31 (d := 54) rfl rfl (hall 31 (by decide))] at ha
    rw [ha]
    exact hK _ _ _ _ _ _ _ _ _ _ _ _ _ _ _ _ _ _ _ _ _ _ _ _ _ _ _ _ _ _ _ wc HO.out
noncomputable def kt_zero_code : Code := ((Tryd.f36.body.bind (regionOf 6)).getD .skip)
def kt_zero_dsts : List (Option Nat) := [some 23, some 24, some 25, some 26, some 27, some 28, some 29, some 30, some 31, some 32, some 33, some 34, some 35, some 36, some 37, some 38, some 39, some 40, some 41, some 42, some 43, some 44, some 45, some 46, some 47, some 48, some 49, some 50, some 51, some 52, some 53, some 54]
theorem kt_zero_apart : apartD kt_zero_dsts = true := by decide +kernel
set_option maxRecDepth 1000000 in
set_option maxHeartbeats 16000000 in
theorem kt_zero (wr : World) (B k np cP : Nat) (pp : Addr) (p : Int) (HC : Hid (¬ p < 0 ∧ ¬ 2 < p ∧ ¬ 0 < p)) (hkp : k < np) (cp : wr.cell? (pp.add k) = some (.int .i64 p)) (c0 c3 c4 c6 c7 c8 c9 c10 c11 c12 c13 c14 c15 c16 c17 c18 c19 c20 c21 c22 c23 c24 c25 c26 c27 c28 c29 c30 c31 c32 c33 c34 c35 c36 c37 c38 c39 c40 c41 c42 c43 c44 c45 c46 c47 c48 c49 c50 c51 c52 c53 c54 : Value) (df : List Deferred) (K : Act → World → Prop)
    (hK : ∀  (u23 u24 u25 u26 u27 u28 u29 u30 u31 u32 u33 u34 u35 u36 u37 u38 u39 u40 u41 u42 u43 u44 u45 u46 u47 u48 u49 u50 u51 u52 u53 : Value) (wx : World), Ext wr wx → K ⟨#[c0, .slice (some pp) np cP, .pointer (some ⟨B, 0, none⟩), c3, c4, .int .i64 (k : Nat), c6, c7, c8, c9, c10, c11, c12, c13, c14, c15, c16, c17, c18, c19, c20, c21, c22, u23, u24, u25, u26, u27, u28, u29, u30, u31, u32, u33, u34, u35, u36, u37, u38, u39, u40, u41, u42, u43, u44, u45, u46, u47, u48, u49, u50, u51, u52, u53, .bool false], df⟩ wx) :
    Code.wp Tryd.prog kt_zero_code (AtEnd K) ⟨#[c0, .slice (some pp) np cP, .pointer (some ⟨B, 0, none⟩), c3, c4, .int .i64 (k : Nat), c6, c7, c8, c9, c10, c11, c12, c13, c14, c15, c16, c17, c18, c19, c20, c21, c22, c23, c24, c25, c26, c27, c28, c29, c30, c31, c32, c33, c34, c35, c36, c37, c38, c39, c40, c41, c42, c43, c44, c45, c46, c47, c48, c49, c50, c51, c52, c53, c54], df⟩ wr := by
  conv => arg 2; whnf
  refine region_inv (by kernel_rfl) [[], [], [0, 1], [2], [3], [4], [5], [5], [6, 7, 5], [8, 5], [9, 5], [5, 10], [11, 5], [12], [12], [13, 14, 12], [15, 12], [16, 12], [17, 12, 12], [18], [19, 18], [18], [20, 21, 18], [22, 18], [18], [24, 18], [18], [25, 26, 18], [27, 18], [23, 28, 18], [18, 29, 12], [12, 30]] (by kernel_rfl) [0, 1, 2, 3, 4, 5, 6, 7, 8, 9, 10, 11, 12, 13, 14, 15, 16, 17, 18, 19, 20, 21, 22, 23, 24, 25, 26, 27, 28, 29, 30, 31] (by decide +kernel) (by decide +kernel) (by decide +kernel) (fun L a wc => Inv kt_zero_dsts [.slice (some pp) np cP, .int .i64 (k : Nat), .pointer (some (pp.add k)), .int .i64 p, .bool false, .bool false, .slice (some pp) np cP, .int .i64 (k : Nat), .pointer (some (pp.add k)), .int .i64 p, .bool false, .bool false, .bool false, .slice (some pp) np cP, .int .i64 (k : Nat), .pointer (some (pp.add k)), .int .i64 p, .bool false, .bool false, undef, undef, undef, undef, undef, undef, undef, undef, undef, undef, undef, .bool false, .bool false] ⟨#[c0, .slice (some pp) np cP, .pointer (some ⟨B, 0, none⟩), c3, c4, .int .i64 (k : Nat), c6, c7, c8, c9, c10, c11, c12, c13, c14, c15, c16, c17, c18, c19, c20, c21, c22, c23, c24, c25, c26, c27, c28, c29, c30, c31, c32, c33, c34, c35, c36, c37, c38, c39, c40, c41, c42, c43, c44, c45, c46, c47, c48, c49, c50, c51, c52, c53, c54], df⟩ L a ∧ Hid (Ext wr wc)) ⟨Inv.start, Lib.hid ((Ext.refl wr).drew)⟩ ?_ ?_
  · refine ⟨?_, ?_, ?_, ?_, ?_, ?_, ?_, ?_, ?_, ?_, ?_, ?_, ?_, ?_, ?_, ?_, ?_, ?_, ?_, ?_, ?_, ?_, ?_, ?_, ?_, ?_, ?_, ?_, ?_, ?_, ?_, ?_, trivial⟩
    · -- 0 move
      rintro L a wc ⟨hv, HO⟩ hL hc hd
      exact wpOp_val rfl rfl (ex_move rfl ((hv.fixed 1 (by decide)).trans rfl)) ⟨hv.put kt_zero_apart 0 rfl (Nat.le_of_ble_eq_true rfl) (Nat.le_of_ble_eq_true rfl) rfl, HO⟩
    · -- 1 move
      rintro L a wc ⟨hv, HO⟩ hL hc hd
      exact wpOp_val rfl rfl (ex_move rfl ((hv.fixed 5 (by decide)).trans rfl)) ⟨hv.put kt_zero_apart 1 rfl (Nat.le_of_ble_eq_true rfl) (Nat.le_of_ble_eq_true rfl) rfl, HO⟩
    · -- 2 index
      rintro L a wc ⟨hv, HO⟩ hL hc hd
      have u1 : (0 : Int) ≤ (k : Int) := by omega
      have u2 : (k : Int) < (np : Int) := by omega
      exact wpOp_val rfl rfl (ex_index rfl (hv.get 0 rfl rfl (hd 0 (by decide))) (hv.get 1 rfl rfl (hd 1 (by decide))) (by go_simp)) ⟨hv.put kt_zero_apart 2 rfl (Nat.le_of_ble_eq_true rfl) (Nat.le_of_ble_eq_true rfl) rfl, HO⟩
    · -- 3 load
      rintro L a wc ⟨hv, HO⟩ hL hc hd
      have h1 : wc.cell? (pp.add k) = some (.int .i64 p) := HO.out.cell cp
      exact wpOp_val rfl rfl (ex_load rfl (hv.get 2 rfl rfl (hd 2 (by decide))) (by go_simp)) ⟨hv.put kt_zero_apart 3 rfl (Nat.le_of_ble_eq_true rfl) (Nat.le_of_ble_eq_true rfl) rfl, HO⟩
    · -- 4 bin
      rintro L a wc ⟨hv, HO⟩ hL hc hd
      have u := HC.out.1
      exact wpOp_val rfl rfl (ex_bin rfl (hv.get 3 rfl rfl (hd 3 (by decide))) rfl (by go_simp)) ⟨hv.put kt_zero_apart 4 rfl (Nat.le_of_ble_eq_true rfl) (Nat.le_of_ble_eq_true rfl) rfl, HO⟩
    · -- 5 move
      rintro L a wc ⟨hv, HO⟩ hL hc hd
      exact wpOp_val rfl rfl (ex_move rfl (hv.get 4 rfl rfl (hd 4 (by decide)))) ⟨hv.put kt_zero_apart 5 rfl (Nat.le_of_ble_eq_true rfl) (Nat.le_of_ble_eq_true rfl) rfl, HO⟩
    · -- 6 move
      rintro L a wc ⟨hv, HO⟩ hL hc hd
      exact wpOp_val rfl ((wanted_at rfl rfl (hv.get 5 rfl rfl (hd 5 (by decide)))).trans rfl) (ex_move rfl ((hv.fixed 1 (by decide)).trans rfl)) ⟨hv.put kt_zero_apart 6 rfl (Nat.le_of_ble_eq_true rfl) (Nat.le_of_ble_eq_true rfl) rfl, HO⟩
    · -- 7 move
      rintro L a wc ⟨hv, HO⟩ hL hc hd
      exact wpOp_val rfl ((wanted_at rfl rfl (hv.get 5 rfl rfl (hd 5 (by decide)))).trans rfl) (ex_move rfl ((hv.fixed 5 (by decide)).trans rfl)) ⟨hv.put kt_zero_apart 7 rfl (Nat.le_of_ble_eq_true rfl) (Nat.le_of_ble_eq_true rfl) rfl, HO⟩
    · -- 8 index
      rintro L a wc ⟨hv, HO⟩ hL hc hd
      have u1 : (0 : Int) ≤ (k : Int) := by omega
      have u2 : (k : Int) < (np : Int) := by omega
      exact wpOp_val rfl ((wanted_at rfl rfl (hv.get 5 rfl rfl (hd 5 (by decide)))).trans rfl) (ex_index rfl (hv.get 6 rfl rfl (hd 6 (by decide))) (hv.get 7 rfl rfl (hd 7 (by decide))) (by go_simp)) ⟨hv.put kt_zero_apart 8 rfl (Nat.le_of_ble_eq_true rfl) (Nat.le_of_ble_eq_true rfl) rfl, HO⟩
    · -- 9 load
      rintro L a wc ⟨hv, HO⟩ hL hc hd
      have h1 : wc.cell? (pp.add k) = some (.int .i64 p) := HO.out.cell cp
      exact wpOp_val rfl ((wanted_at rfl rfl (hv.get 5 rfl rfl (hd 5 (by decide)))).trans rfl) (ex_load rfl (hv.get 8 rfl rfl (hd 8 (by decide))) (by go_simp)) ⟨hv.put kt_zero_apart 9 rfl (Nat.le_of_ble_eq_true rfl) (Nat.le_of_ble_eq_true rfl) rfl, HO⟩
    · -- 10 bin
      rintro L a wc ⟨hv, HO⟩ hL hc hd
      have u := HC.out.2.1
      exact wpOp_val rfl ((wanted_at rfl rfl (hv.get 5 rfl rfl (hd 5 (by decide)))).trans rfl) (ex_bin rfl (hv.get 9 rfl rfl (hd 9 (by decide))) rfl (by go_simp)) ⟨hv.put kt_zero_apart 10 rfl (Nat.le_of_ble_eq_true rfl) (Nat.le_of_ble_eq_true rfl) rfl, HO⟩
    · -- 11 pick
      rintro L a wc ⟨hv, HO⟩ hL hc hd
      exact wpOp_val rfl rfl (ex_pick rfl (hv.get 5 rfl rfl (hd 5 (by decide))) ((if_neg (by simp)).trans (hv.get 10 rfl rfl (hd 10 (by decide))))) ⟨hv.put kt_zero_apart 11 rfl (Nat.le_of_ble_eq_true rfl) (Nat.le_of_ble_eq_true rfl) rfl, HO⟩
    · -- 12 move
      rintro L a wc ⟨hv, HO⟩ hL hc hd
      exact wpOp_val rfl rfl (ex_move rfl (hv.get 11 rfl rfl (hd 11 (by decide)))) ⟨hv.put kt_zero_apart 12 rfl (Nat.le_of_ble_eq_true rfl) (Nat.le_of_ble_eq_true rfl) rfl, HO⟩
    · -- 13 move
      rintro L a wc ⟨hv, HO⟩ hL hc hd
      exact wpOp_val rfl ((wanted_at rfl rfl (hv.get 12 rfl rfl (hd 12 (by decide)))).trans rfl) (ex_move rfl ((hv.fixed 1 (by decide)).trans rfl)) ⟨hv.put kt_zero_apart 13 rfl (Nat.le_of_ble_eq_true rfl) (Nat.le_of_ble_eq_true rfl) rfl, HO⟩
    · -- 14 move
      rintro L a wc ⟨hv, HO⟩ hL hc hd
      exact wpOp_val rfl ((wanted_at rfl rfl (hv.get 12 rfl rfl (hd 12 (by decide)))).trans rfl) (ex_move rfl ((hv.fixed 5 (by decide)).trans rfl)) ⟨hv.put kt_zero_apart 14 rfl (Nat.le_of_ble_eq_true rfl) (Nat.le_of_ble_eq_true rfl) rfl, HO⟩
    · -- 15 index
      rintro L a wc ⟨hv, HO⟩ hL hc hd
      have u1 : (0 : Int) ≤ (k : Int) := by omega
      have u2 : (k : Int) < (np : Int) := by omega
      exact wpOp_val rfl ((wanted_at rfl rfl (hv.get 12 rfl rfl (hd 12 (by decide)))).trans rfl) (ex_index rfl (hv.get 13 rfl rfl (hd 13 (by decide))) (hv.get 14 rfl rfl (hd 14 (by decide))) (by go_simp)) ⟨hv.put kt_zero_apart 15 rfl (Nat.le_of_ble_eq_true rfl) (Nat.le_of_ble_eq_true rfl) rfl, HO⟩
    · -- 16 load
      rintro L a wc ⟨hv, HO⟩ hL hc hd
      have h1 : wc.cell? (pp.add k) = some (.int .i64 p) := HO.out.cell cp
      exact wpOp_val rfl ((wanted_at rfl rfl (hv.get 12 rfl rfl (hd 12 (by decide)))).trans rfl) (ex_load rfl (hv.get 15 rfl rfl (hd 15 (by decide))) (by go_simp)) ⟨hv.put kt_zero_apart 16 rfl (Nat.le_of_ble_eq_true rfl) (Nat.le_of_ble_eq_true rfl) rfl, HO⟩
    · -- 17 bin
      rintro L a wc ⟨hv, HO⟩ hL hc hd
      have u := HC.out.2.2
      exact wpOp_val rfl ((wanted_at rfl rfl (hv.get 12 rfl rfl (hd 12 (by decide)))).trans rfl) (ex_bin rfl (hv.get 16 rfl rfl (hd 16 (by decide))) rfl (by go_simp)) ⟨hv.put kt_zero_apart 17 rfl (Nat.le_of_ble_eq_true rfl) (Nat.le_of_ble_eq_true rfl) rfl, HO⟩
    · -- 18 move
      rintro L a wc ⟨hv, HO⟩ hL hc hd
      exact wpOp_val rfl ((wanted_at rfl rfl (hv.get 12 rfl rfl (hd 12 (by decide)))).trans rfl) (ex_move rfl (hv.get 17 rfl rfl (hd 17 (by decide)))) ⟨hv.put kt_zero_apart 18 rfl (Nat.le_of_ble_eq_true rfl) (Nat.le_of_ble_eq_true rfl) rfl, HO⟩
    · -- 19 off
      rintro L a wc ⟨hv, HO⟩ hL hc hd
      exact wpOp_off rfl ((wanted_at rfl rfl (hv.get 18 rfl rfl (hd 18 (by decide)))).trans rfl) ⟨hv.put kt_zero_apart 19 rfl (Nat.le_of_ble_eq_true rfl) (Nat.le_of_ble_eq_true rfl) rfl, HO⟩
    · -- 20 off
      rintro L a wc ⟨hv, HO⟩ hL hc hd
      exact wpOp_off rfl ((wanted_at rfl rfl (hv.get 18 rfl rfl (hd 18 (by decide)))).trans rfl) ⟨hv.put kt_zero_apart 20 rfl (Nat.le_of_ble_eq_true rfl) (Nat.le_of_ble_eq_true rfl) rfl, HO⟩
    · -- 21 off
      rintro L a wc ⟨hv, HO⟩ hL hc hd
      exact wpOp_off rfl ((wanted_at rfl rfl (hv.get 18 rfl rfl (hd 18 (by decide)))).trans rfl) ⟨hv.put kt_zero_apart 21 rfl (Nat.le_of_ble_eq_true rfl) (Nat.le_of_ble_eq_true rfl) rfl, HO⟩
    · -- 22 off
      rintro L a wc ⟨hv, HO⟩ hL hc hd
      exact wpOp_off rfl ((wanted_at rfl rfl (hv.get 18 rfl rfl (hd 18 (by decide)))).trans rfl) ⟨hv.put kt_zero_apart 22 rfl (Nat.le_of_ble_eq_true rfl) (Nat.le_of_ble_eq_true rfl) rfl, HO⟩
    · -- 23 off
      rintro L a wc ⟨hv, HO⟩ hL hc hd
      exact wpOp_off rfl ((wanted_at rfl rfl (hv.get 18 rfl rfl (hd 18 (by decide)))).trans rfl) ⟨hv.put kt_zero_apart 23 rfl (Nat.le_of_ble_eq_true rfl) (Nat.le_of_ble_eq_true rfl) rfl, HO⟩
    · -- 24 off
      rintro L a wc ⟨hv, HO⟩ hL hc hd
      exact wpOp_off rfl ((wanted_at rfl rfl (hv.get 18 rfl rfl (hd 18 (by decide)))).trans rfl) ⟨hv.put kt_zero_apart 24 rfl (Nat.le_of_ble_eq_true rfl) (Nat.le_of_ble_eq_true rfl) rfl, HO⟩
    · -- 25 off
      rintro L a wc ⟨hv, HO⟩ hL hc hd
      exact wpOp_off rfl ((wanted_at rfl rfl (hv.get 18 rfl rfl (hd 18 (by decide)))).trans rfl) ⟨hv.put kt_zero_apart 25 rfl (Nat.le_of_ble_eq_true rfl) (Nat.le_of_ble_eq_true rfl) rfl, HO⟩
    · -- 26 off
      rintro L a wc ⟨hv, HO⟩ hL hc hd
      exact wpOp_off rfl ((wanted_at rfl rfl (hv.get 18 rfl rfl (hd 18 (by decide)))).trans rfl) ⟨hv.put kt_zero_apart 26 rfl (Nat.le_of_ble_eq_true rfl) (Nat.le_of_ble_eq_true rfl) rfl, HO⟩
    · -- 27 off
      rintro L a wc ⟨hv, HO⟩ hL hc hd
      exact wpOp_off rfl ((wanted_at rfl rfl (hv.get 18 rfl rfl (hd 18 (by decide)))).trans rfl) ⟨hv.put kt_zero_apart 27 rfl (Nat.le_of_ble_eq_true rfl) (Nat.le_of_ble_eq_true rfl) rfl, HO⟩
    · -- 28 off
      rintro L a wc ⟨hv, HO⟩ hL hc hd
      exact wpOp_off rfl ((wanted_at rfl rfl (hv.get 18 rfl rfl (hd 18 (by decide)))).trans rfl) ⟨hv.put kt_zero_apart 28 rfl (Nat.le_of_ble_eq_true rfl) (Nat.le_of_ble_eq_true rfl) rfl, HO⟩
    · -- 29 off
      rintro L a wc ⟨hv, HO⟩ hL hc hd
      exact wpOp_off rfl ((wanted_at rfl rfl (hv.get 18 rfl rfl (hd 18 (by decide)))).trans rfl) ⟨hv.put kt_zero_apart 29 rfl (Nat.le_of_ble_eq_true rfl) (Nat.le_of_ble_eq_true rfl) rfl, HO⟩
    · -- 30 pick
      rintro L a wc ⟨hv, HO⟩ hL hc hd
      exact wpOp_val rfl ((wanted_at rfl rfl (hv.get 12 rfl rfl (hd 12 (by decide)))).trans rfl) (ex_pick rfl (hv.get 18 rfl rfl (hd 18 (by decide))) ((if_neg (by simp)).trans rfl)) ⟨hv.put kt_zero_apart 30 rfl (Nat.le_of_ble_eq_true rfl) (Nat.le_of_ble_eq_true rfl) rfl, HO⟩
    · -- 31 pick
      rintro L a wc ⟨hv, HO⟩ hL hc hd
      exact wpOp_val rfl rfl (ex_pick rfl (hv.get 12 rfl rfl (hd 12 (by decide))) ((if_neg (by simp)).trans (hv.get 30 rfl rfl (hd 30 (by decide))))) ⟨hv.put kt_zero_apart 31 rfl (Nat.le_of_ble_eq_true rfl) (Nat.le_of_ble_eq_true rfl) rfl, HO⟩
  · rintro L a wc ⟨hv, HO⟩ hall
    show K a wc
    have ha := act_lit a
    rw [hv.size, hv.defers] at ha
    have hl : ∀ f : Nat → Value, ((List.range (⟨#[c0, .slice (some pp) np cP, .pointer (some ⟨B, 0, none⟩), c3, c4, .int .i64 (k : Nat), c6, c7, c8, c9, c10, c11, c12, c13, c14, c15, c16, c17, c18, c19, c20, c21, c22, c23, c24, c25, c26, c27, c28, c29, c30, c31, c32, c33, c34, c35, c36, c37, c38, c39, c40, c41, c42, c43, c44, c45, c46, c47, c48, c49, c50, c51, c52, c53, c54], df⟩ : Act).tmps.size).map f).toArray = #[f 0, f 1, f 2, f 3, f 4, f 5, f 6, f 7, f 8, f 9, f 10, f 11, f 12, f 13, f 14, f 15, f 16, f 17, f 18, f 19, f 20, f 21, f 22, f 23, f 24, f 25, f 26, f 27, f 28, f 29, f 30, f 31, f 32, f 33, f 34, f 35, f 36, f 37, f 38, f 39, f 40, f 41, f 42, f 43, f 44, f 45, f 46, f 47, f 48, f 49, f 50, f 51, f 52, f 53, f 54] := fun _ => rfl
    rw [hl] at ha
    simp only [hv.fixed 0 (by decide), hv.fixed 1 (by decide), hv.fixed 2 (by decide), hv.fixed 3 (by decide), hv.fixed 4 (by decide), hv.fixed 5 (by decide), hv.fixed 6 (by decide), hv.fixed 7 (by decide), hv.fixed 8 (by decide), hv.fixed 9 (by decide), hv.fixed 10 (by decide), hv.fixed 11 (by decide), hv.fixed 12 (by decide), hv.fixed 13 (by decide), hv.fixed 14 (by decide), hv.fixed 15 (by decide), hv.fixed 16 (by decide), hv.fixed 17 (by decide), hv.fixed 18 (by decide), hv.fixed 19 (by decide), hv.fixed 20 (by decide), hv.fixed 21 (by decide), hv.fixed 22 (by decide), hv.get 31 (d := 54) rfl rfl (hall 31 (by decide))] at ha
    rw [ha]
    exact hK _ _ _ _ _ _ _ _ _ _ _ _ _ _ _ _ _ _ _ _ _ _ _ _ _ _ _ _ _ _ _ wc HO.out
noncomputable def kt_eq_code : Code := ((Tryd.f36.body.bind (regionOf 6)).getD .skip)
def kt_eq_dsts : List (Option Nat) := [some 23, some 24, some 25, some 26, some 27, some 28, some 29, some 30, some 31, some 32, some 33, some 34, some 35, some 36, some 37, some 38, some 39, some 40, some 41, some 42, some 43, some 44, some 45, some 46, some 47, some 48, some 49, some 50, some 51, some 52, some 53, some 54]
theorem kt_eq_apart : apartD kt_eq_dsts = true := by decide +kernel
set_option maxRecDepth 1000000 in
set_option maxHeartbeats 16000000 in
theorem kt_eq (wr : World) (B k np cP nf nt cF cT : Nat) (pp pf pt : Addr) (p y z : Int) (HC : Hid (¬ p < 0 ∧ ¬ 2 < p ∧ 0 < p)) (hkp : k < np) (cp : wr.cell? (pp.add k) = some (.int .i64 p)) (hkf : k < nf) (hkt : k < nt) (b8 : wr.cell? ⟨B, 9, none⟩ = some (.slice (some pf) nf cF)) (b9 : wr.cell? ⟨B, 10, none⟩ = some (.slice (some pt) nt cT)) (cf : wr.cell? (pf.add k) = some (.int .i64 y)) (ct : wr.cell? (pt.add k) = some (.int .i64 z)) (HYZ : Hid ((y == z) = true)) (c0 c3 c4 c6 c7 c8 c9 c10 c11 c12 c13 c14 c15 c16 c17 c18 c19 c20 c21 c22 c23 c24 c25 c26 c27 c28 c29 c30 c31 c32 c33 c34 c35 c36 c37 c38 c39 c40 c41 c42 c43 c44 c45 c46 c47 c48 c49 c50 c51 c52 c53 c54 : Value) (df : List Deferred) (K : Act → World → Prop)
    (hK : ∀  (u23 u24 u25 u26 u27 u28 u29 u30 u31 u32 u33 u34 u35 u36 u37 u38 u39 u40 u41 u42 u43 u44 u45 u46 u47 u48 u49 u50 u51 u52 u53 : Value) (wx : World), Ext wr wx → K ⟨#[c0, .slice (some pp) np cP, .pointer (some ⟨B, 0, none⟩), c3, c4, .int .i64 (k : Nat), c6, c7, c8, c9, c10, c11, c12, c13, c14, c15, c16, c17, c18, c19, c20, c21, c22, u23, u24, u25, u26, u27, u28, u29, u30, u31, u32, u33, u34, u35, u36, u37, u38, u39, u40, u41, u42, u43, u44, u45, u46, u47, u48, u49, u50, u51, u52, u53, .bool true], df⟩ wx) :
    Code.wp Tryd.prog kt_eq_code (AtEnd K) ⟨#[c0, .slice (some pp) np cP, .pointer (some ⟨B, 0, none⟩), c3, c4, .int .i64 (k : Nat), c6, c7, c8, c9, c10, c11, c12, c13, c14, c15, c16, c17, c18, c19, c20, c21, c22, c23, c24, c25, c26, c27, c28, c29, c30, c31, c32, c33, c34, c35, c36, c37, c38, c39, c40, c41, c42, c43, c44, c45, c46, c47, c48, c49, c50, c51, c52, c53, c54], df⟩ wr := by
  conv => arg 2; whnf
  refine region_inv (by kernel_rfl) [[], [], [0, 1], [2], [3], [4], [5], [5], [6, 7, 5], [8, 5], [9, 5], [5, 10], [11, 5], [12], [12], [13, 14, 12], [15, 12], [16, 12], [17, 12, 12], [18], [19, 18], [18], [20, 21, 18], [22, 18], [18], [24, 18], [18], [25, 26, 18], [27, 18], [23, 28, 18], [18, 29, 12], [12, 30]] (by kernel_rfl) [0, 1, 2, 3, 4, 5, 6, 7, 8, 9, 10, 11, 12, 13, 14, 15, 16, 17, 18, 19, 20, 21, 22, 23, 24, 25, 26, 27, 28, 29, 30, 31] (by decide +kernel) (by decide +kernel) (by decide +kernel) (fun L a wc => Inv kt_eq_dsts [.slice (some pp) np cP, .int .i64 (k : Nat), .pointer (some (pp.add k)), .int .i64 p, .bool false, .bool false, .slice (some pp) np cP, .int .i64 (k : Nat), .pointer (some (pp.add k)), .int .i64 p, .bool false, .bool false, .bool false, .slice (some pp) np cP, .int .i64 (k : Nat), .pointer (some (pp.add k)), .int .i64 p, .bool true, .bool true, .pointer (some ⟨B, 9, none⟩), .slice (some pf) nf cF, .int .i64 (k : Nat), .pointer (some (pf.add k)), .int .i64 y, .pointer (some ⟨B, 10, none⟩), .slice (some pt) nt cT, .int .i64 (k : Nat), .pointer (some (pt.add k)), .int .i64 z, .bool true, .bool true, .bool true] ⟨#[c0, .slice (some pp) np cP, .pointer (some ⟨B, 0, none⟩), c3, c4, .int .i64 (k : Nat), c6, c7, c8, c9, c10, c11, c12, c13, c14, c15, c16, c17, c18, c19, c20, c21, c22, c23, c24, c25, c26, c27, c28, c29, c30, c31, c32, c33, c34, c35, c36, c37, c38, c39, c40, c41, c42, c43, c44, c45, c46, c47, c48, c49, c50, c51, c52, c53, c54], df⟩ L a ∧ Hid (Ext wr wc)) ⟨Inv.start, Lib.hid ((Ext.refl wr).drew)⟩ ?_ ?_
  · refine ⟨?_, ?_, ?_, ?_, ?_, ?_, ?_, ?_, ?_, ?_, ?_, ?_, ?_, ?_, ?_, ?_, ?_, ?_, ?_, ?_, ?_, ?_, ?_, ?_, ?_, ?_, ?_, ?_, ?_, ?_, ?_, ?_, trivial⟩
    · -- 0 move
      rintro L a wc ⟨hv, HO⟩ hL hc hd
      exact wpOp_val rfl rfl (ex_move rfl ((hv.fixed 1 (by decide)).trans rfl)) ⟨hv.put kt_eq_apart 0 rfl (Nat.le_of_ble_eq_true rfl) (Nat.le_of_ble_eq_true rfl) rfl, HO⟩
    · -- 1 move
      rintro L a wc ⟨hv, HO⟩ hL hc hd
      exact wpOp_val rfl rfl (ex_move rfl ((hv.fixed 5 (by decide)).trans rfl)) ⟨hv.put kt_eq_apart 1 rfl (Nat.le_of_ble_eq_true rfl) (Nat.le_of_ble_eq_true rfl) rfl, HO⟩
    · -- 2 index
      rintro L a wc ⟨hv, HO⟩ hL hc hd
      have u1 : (0 : Int) ≤ (k : Int) := by omega
      have u2 : (k : Int) < (np : Int) := by omega
      exact wpOp_val rfl rfl (ex_index rfl (hv.get 0 rfl rfl (hd 0 (by decide))) (hv.get 1 rfl rfl (hd 1 (by decide))) (by go_simp)) ⟨hv.put kt_eq_apart 2 rfl (Nat.le_of_ble_eq_true rfl) (Nat.le_of_ble_eq_true rfl) rfl, HO⟩
    · -- 3 load
      rintro L a wc ⟨hv, HO⟩ hL hc hd
      have h1 : wc.cell? (pp.add k) = some (.int .i64 p) := HO.out.cell cp
      exact wpOp_val rfl rfl (ex_load rfl (hv.get 2 rfl rfl (hd 2 (by decide))) (by go_simp)) ⟨hv.put kt_eq_apart 3 rfl (Nat.le_of_ble_eq_true rfl) (Nat.le_of_ble_eq_true rfl) rfl, HO⟩
    · -- 4 bin
      rintro L a wc ⟨hv, HO⟩ hL hc hd
      have u := HC.out.1
      exact wpOp_val rfl rfl (ex_bin rfl (hv.get 3 rfl rfl (hd 3 (by decide))) rfl (by go_simp)) ⟨hv.put kt_eq_apart 4 rfl (Nat.le_of_ble_eq_true rfl) (Nat.le_of_ble_eq_true rfl) rfl, HO⟩
    · -- 5 move
      rintro L a wc ⟨hv, HO⟩ hL hc hd
      exact wpOp_val rfl rfl (ex_move rfl (hv.get 4 rfl rfl (hd 4 (by decide)))) ⟨hv.put kt_eq_apart 5 rfl (Nat.le_of_ble_eq_true rfl) (Nat.le_of_ble_eq_true rfl) rfl, HO⟩
    · -- 6 move
      rintro L a wc ⟨hv, HO⟩ hL hc hd
      exact wpOp_val rfl ((wanted_at rfl rfl (hv.get 5 rfl rfl (hd 5 (by decide)))).trans rfl) (ex_move rfl ((hv.fixed 1 (by decide)).trans rfl)) ⟨hv.put kt_eq_apart 6 rfl (Nat.le_of_ble_eq_true rfl) (Nat.le_of_ble_eq_true rfl) rfl, HO⟩
    · -- 7 move
      rintro L a wc ⟨hv, HO⟩ hL hc hd
      exact wpOp_val rfl ((wanted_at rfl rfl (hv.get 5 rfl rfl (hd 5 (by decide)))).trans rfl) (ex_move rfl ((hv.fixed 5 (by decide)).trans rfl)) ⟨hv.put kt_eq_apart 7 rfl (Nat.le_of_ble_eq_true rfl) (Nat.le_of_ble_eq_true rfl) rfl, HO⟩
    · -- 8 index
      rintro L a wc ⟨hv, HO⟩ hL hc hd
      have u1 : (0 : Int) ≤ (k : Int) := by omega
      have u2 : (k : Int) < (np : Int) := by omega
      exact wpOp_val rfl ((wanted_at rfl rfl (hv.get 5 rfl rfl (hd 5 (by decide)))).trans rfl) (ex_index rfl (hv.get 6 rfl rfl (hd 6 (by decide))) (hv.get 7 rfl rfl (hd 7 (by decide))) (by go_simp)) ⟨hv.put kt_eq_apart 8 rfl (Nat.le_of_ble_eq_true rfl) (Nat.le_of_ble_eq_true rfl) rfl, HO⟩
    · -- 9 load
      rintro L a wc ⟨hv, HO⟩ hL hc hd
      have h1 : wc.cell? (pp.add k) = some (.int .i64 p) := HO.out.cell cp
      exact wpOp_val rfl ((wanted_at rfl rfl (hv.get 5 rfl rfl (hd 5 (by decide)))).trans rfl) (ex_load rfl (hv.get 8 rfl rfl (hd 8 (by decide))) (by go_simp)) ⟨hv.put kt_eq_apart 9 rfl (Nat.le_of_ble_eq_true rfl) (Nat.le_of_ble_eq_true rfl) rfl, HO⟩
    · -- 10 bin
      rintro L a wc ⟨hv, HO⟩ hL hc hd
      have u := HC.out.2.1
      exact wpOp_val rfl ((wanted_at rfl rfl (hv.get 5 rfl rfl (hd 5 (by decide)))).trans rfl) (ex_bin rfl (hv.get 9 rfl rfl (hd 9 (by decide))) rfl (by go_simp)) ⟨hv.put kt_eq_apart 10 rfl (Nat.le_of_ble_eq_true rfl) (Nat.le_of_ble_eq_true rfl) rfl, HO⟩
    · -- 11 pick
      rintro L a wc ⟨hv, HO⟩ hL hc hd
      exact wpOp_val rfl rfl (ex_pick rfl (hv.get 5 rfl rfl (hd 5 (by decide))) ((if_neg (by simp)).trans (hv.get 10 rfl rfl (hd 10 (by decide))))) ⟨hv.put kt_eq_apart 11 rfl (Nat.le_of_ble_eq_true rfl) (Nat.le_of_ble_eq_true rfl) rfl, HO⟩
    · -- 12 move
      rintro L a wc ⟨hv, HO⟩ hL hc hd
      exact wpOp_val rfl rfl (ex_move rfl (hv.get 11 rfl rfl (hd 11 (by decide)))) ⟨hv.put kt_eq_apart 12 rfl (Nat.le_of_ble_eq_true rfl) (Nat.le_of_ble_eq_true rfl) rfl, HO⟩
    · -- 13 move
      rintro L a wc ⟨hv, HO⟩ hL hc hd
      exact wpOp_val rfl ((wanted_at rfl rfl (hv.get 12 rfl rfl (hd 12 (by decide)))).trans rfl) (ex_move rfl ((hv.fixed 1 (by decide)).trans rfl)) ⟨hv.put kt_eq_apart 13 rfl (Nat.le_of_ble_eq_true rfl) (Nat.le_of_ble_eq_true rfl) rfl, HO⟩
    · -- 14 move
      rintro L a wc ⟨hv, HO⟩ hL hc hd
      exact wpOp_val rfl ((wanted_at rfl rfl (hv.get 12 rfl rfl (hd 12 (by decide)))).trans rfl) (ex_move rfl ((hv.fixed 5 (by decide)).trans rfl)) ⟨hv.put kt_eq_apart 14 rfl (Nat.le_of_ble_eq_true rfl) (Nat.le_of_ble_eq_true rfl) rfl, HO⟩
    · -- 15 index
      rintro L a wc ⟨hv, HO⟩ hL hc hd
      have u1 : (0 : Int) ≤ (k : Int) := by omega
      have u2 : (k : Int) < (np : Int) := by omega
      exact wpOp_val rfl ((wanted_at rfl rfl (hv.get 12 rfl rfl (hd 12 (by decide)))).trans rfl) (ex_index rfl (hv.get 13 rfl rfl (hd 13 (by decide))) (hv.get 14 rfl rfl (hd 14 (by decide))) (by go_simp)) ⟨hv.put kt_eq_apart 15 rfl (Nat.le_of_ble_eq_true rfl) (Nat.le_of_ble_eq_true rfl) rfl, HO⟩
    · -- 16 load
      rintro L a wc ⟨hv, HO⟩ hL hc hd
      have h1 : wc.cell? (pp.add k) = some (.int .i64 p) := HO.out.cell cp
      exact wpOp_val rfl ((wanted_at rfl rfl (hv.get 12 rfl rfl (hd 12 (by decide)))).trans rfl) (ex_load rfl (hv.get 15 rfl rfl (hd 15 (by decide))) (by go_simp)) ⟨hv.put kt_eq_apart 16 rfl (Nat.le_of_ble_eq_true rfl) (Nat.le_of_ble_eq_true rfl) rfl, HO⟩
    · -- 17 bin
      rintro L a wc ⟨hv, HO⟩ hL hc hd
      have u := HC.out.2.2
      exact wpOp_val rfl ((wanted_at rfl rfl (hv.get 12 rfl rfl (hd 12 (by decide)))).trans rfl) (ex_bin rfl (hv.get 16 rfl rfl (hd 16 (by decide))) rfl (by go_simp)) ⟨hv.put kt_eq_apart 17 rfl (Nat.le_of_ble_eq_true rfl) (Nat.le_of_ble_eq_true rfl) rfl, HO⟩
    · -- 18 move
      rintro L a wc ⟨hv, HO⟩ hL hc hd
      exact wpOp_val rfl ((wanted_at rfl rfl (hv.get 12 rfl rfl (hd 12 (by decide)))).trans rfl) (ex_move rfl (hv.get 17 rfl rfl (hd 17 (by decide)))) ⟨hv.put kt_eq_apart 18 rfl (Nat.le_of_ble_eq_true rfl) (Nat.le_of_ble_eq_true rfl) rfl, HO⟩
    · -- 19 field
      rintro L a wc ⟨hv, HO⟩ hL hc hd
      exact wpOp_val rfl ((wanted_at rfl rfl (hv.get 18 rfl rfl (hd 18 (by decide)))).trans rfl) (ex_field rfl ((hv.fixed 2 (by decide)).trans rfl) (by go_simp)) ⟨hv.put kt_eq_apart 19 rfl (Nat.le_of_ble_eq_true rfl) (Nat.le_of_ble_eq_true rfl) rfl, HO⟩
    · -- 20 load
      rintro L a wc ⟨hv, HO⟩ hL hc hd
      have h8 : wc.cell? ⟨B, 9, none⟩ = some (.slice (some pf) nf cF) := HO.out.cell b8
      exact wpOp_val rfl ((wanted_at rfl rfl (hv.get 18 rfl rfl (hd 18 (by decide)))).trans rfl) (ex_load rfl (hv.get 19 rfl rfl (hd 19 (by decide))) (by go_simp)) ⟨hv.put kt_eq_apart 20 rfl (Nat.le_of_ble_eq_true rfl) (Nat.le_of_ble_eq_true rfl) rfl, HO⟩
    · -- 21 move
      rintro L a wc ⟨hv, HO⟩ hL hc hd
      exact wpOp_val rfl ((wanted_at rfl rfl (hv.get 18 rfl rfl (hd 18 (by decide)))).trans rfl) (ex_move rfl ((hv.fixed 5 (by decide)).trans rfl)) ⟨hv.put kt_eq_apart 21 rfl (Nat.le_of_ble_eq_true rfl) (Nat.le_of_ble_eq_true rfl) rfl, HO⟩
    · -- 22 index
      rintro L a wc ⟨hv, HO⟩ hL hc hd
      have u1 : (0 : Int) ≤ (k : Int) := by omega
      have u2 : (k : Int) < (nf : Int) := by omega
      exact wpOp_val rfl ((wanted_at rfl rfl (hv.get 18 rfl rfl (hd 18 (by decide)))).trans rfl) (ex_index rfl (hv.get 20 rfl rfl (hd 20 (by decide))) (hv.get 21 rfl rfl (hd 21 (by decide))) (by go_simp)) ⟨hv.put kt_eq_apart 22 rfl (Nat.le_of_ble_eq_true rfl) (Nat.le_of_ble_eq_true rfl) rfl, HO⟩
    · -- 23 load
      rintro L a wc ⟨hv, HO⟩ hL hc hd
      have h1 : wc.cell? (pf.add k) = some (.int .i64 y) := HO.out.cell cf
      exact wpOp_val rfl ((wanted_at rfl rfl (hv.get 18 rfl rfl (hd 18 (by decide)))).trans rfl) (ex_load rfl (hv.get 22 rfl rfl (hd 22 (by decide))) (by go_simp)) ⟨hv.put kt_eq_apart 23 rfl (Nat.le_of_ble_eq_true rfl) (Nat.le_of_ble_eq_true rfl) rfl, HO⟩
    · -- 24 field
      rintro L a wc ⟨hv, HO⟩ hL hc hd
      exact wpOp_val rfl ((wanted_at rfl rfl (hv.get 18 rfl rfl (hd 18 (by decide)))).trans rfl) (ex_field rfl ((hv.fixed 2 (by decide)).trans rfl) (by go_simp)) ⟨hv.put kt_eq_apart 24 rfl (Nat.le_of_ble_eq_true rfl) (Nat.le_of_ble_eq_true rfl) rfl, HO⟩
    · -- 25 load
      rintro L a wc ⟨hv, HO⟩ hL hc hd
      have h9 : wc.cell? ⟨B, 10, none⟩ = some (.slice (some pt) nt cT) := HO.out.cell b9
      exact wpOp_val rfl ((wanted_at rfl rfl (hv.get 18 rfl rfl (hd 18 (by decide)))).trans rfl) (ex_load rfl (hv.get 24 rfl rfl (hd 24 (by decide))) (by go_simp)) ⟨hv.put kt_eq_apart 25 rfl (Nat.le_of_ble_eq_true rfl) (Nat.le_of_ble_eq_true rfl) rfl, HO⟩
    · -- 26 move
      rintro L a wc ⟨hv, HO⟩ hL hc hd
      exact wpOp_val rfl ((wanted_at rfl rfl (hv.get 18 rfl rfl (hd 18 (by decide)))).trans rfl) (ex_move rfl ((hv.fixed 5 (by decide)).trans rfl)) ⟨hv.put kt_eq_apart 26 rfl (Nat.le_of_ble_eq_true rfl) (Nat.le_of_ble_eq_true rfl) rfl, HO⟩
    · -- 27 index
      rintro L a wc ⟨hv, HO⟩ hL hc hd
      have u1 : (0 : Int) ≤ (k : Int) := by omega
      have u2 : (k : Int) < (nt : Int) := by omega
      exact wpOp_val rfl ((wanted_at rfl rfl (hv.get 18 rfl rfl (hd 18 (by decide)))).trans rfl) (ex_index rfl (hv.get 25 rfl rfl (hd 25 (by decide))) (hv.get 26 rfl rfl (hd 26 (by decide))) (by go_simp)) ⟨hv.put kt_eq_apart 27 rfl (Nat.le_of_ble_eq_true rfl) (Nat.le_of_ble_eq_true rfl) rfl, HO⟩
    · -- 28 load
      rintro L a wc ⟨hv, HO⟩ hL hc hd
      have h1 : wc.cell? (pt.add k) = some (.int .i64 z) := HO.out.cell ct
      exact wpOp_val rfl ((wanted_at rfl rfl (hv.get 18 rfl rfl (hd 18 (by decide)))).trans rfl) (ex_load rfl (hv.get 27 rfl rfl (hd 27 (by decide))) (by go_simp)) ⟨hv.put kt_eq_apart 28 rfl (Nat.le_of_ble_eq_true rfl) (Nat.le_of_ble_eq_true rfl) rfl, HO⟩
    · -- 29 bin
      rintro L a wc ⟨hv, HO⟩ hL hc hd
      have u := HYZ.out
      exact wpOp_val rfl ((wanted_at rfl rfl (hv.get 18 rfl rfl (hd 18 (by decide)))).trans rfl) (ex_bin rfl (hv.get 23 rfl rfl (hd 23 (by decide))) (hv.get 28 rfl rfl (hd 28 (by decide))) (by go_simp)) ⟨hv.put kt_eq_apart 29 rfl (Nat.le_of_ble_eq_true rfl) (Nat.le_of_ble_eq_true rfl) rfl, HO⟩
    · -- 30 pick
      rintro L a wc ⟨hv, HO⟩ hL hc hd
      exact wpOp_val rfl ((wanted_at rfl rfl (hv.get 12 rfl rfl (hd 12 (by decide)))).trans rfl) (ex_pick rfl (hv.get 18 rfl rfl (hd 18 (by decide))) ((if_pos rfl).trans (hv.get 29 rfl rfl (hd 29 (by decide))))) ⟨hv.put kt_eq_apart 30 rfl (Nat.le_of_ble_eq_true rfl) (Nat.le_of_ble_eq_true rfl) rfl, HO⟩
    · -- 31 pick
      rintro L a wc ⟨hv, HO⟩ hL hc hd
      exact wpOp_val rfl rfl (ex_pick rfl (hv.get 12 rfl rfl (hd 12 (by decide))) ((if_neg (by simp)).trans (hv.get 30 rfl rfl (hd 30 (by decide))))) ⟨hv.put kt_eq_apart 31 rfl (Nat.le_of_ble_eq_true rfl) (Nat.le_of_ble_eq_true rfl) rfl, HO⟩
  · rintro L a wc ⟨hv, HO⟩ hall
    show K a wc
    have ha := act_lit a
    rw [hv.size, hv.defers] at ha
    have hl : ∀ f : Nat → Value, ((List.range (⟨#[c0, .slice (some pp) np cP, .pointer (some ⟨B, 0, none⟩), c3, c4, .int .i64 (k : Nat), c6, c7, c8, c9, c10, c11, c12, c13, c14, c15, c16, c17, c18, c19, c20, c21, c22, c23, c24, c25, c26, c27, c28, c29, c30, c31, c32, c33, c34, c35, c36, c37, c38, c39, c40, c41, c42, c43, c44, c45, c46, c47, c48, c49, c50, c51, c52, c53, c54], df⟩ : Act).tmps.size).map f).toArray = #[f 0, f 1, f 2, f 3, f 4, f 5, f 6, f 7, f 8, f 9, f 10, f 11, f 12, f 13, f 14, f 15, f 16, f 17, f 18, f 19, f 20, f 21, f 22, f 23, f 24, f 25, f 26, f 27, f 28, f 29, f 30, f 31, f 32, f 33, f 34, f 35, f 36, f 37, f 38, f 39, f 40, f 41, f 42, f 43, f 44, f 45, f 46, f 47, f 48, f 49, f 50, f 51, f 52, f 53, f 54] := fun _ => rfl
    rw [hl] at ha
    simp only [hv.fixed 0 (by decide), hv.fixed 1 (by decide), hv.fixed 2 (by decide), hv.fixed 3 (by decide), hv.fixed 4 (by decide), hv.fixed 5 (by decide), hv.fixed 6 (by decide), hv.fixed 7 (by decide), hv.fixed 8 (by decide), hv.fixed 9 (by decide), hv.fixed 10 (by decide), hv.fixed 11 (by decide), hv.fixed 12 (by decide), hv.fixed 13 (by decide), hv.fixed 14 (by decide), hv.fixed 15 (by decide), hv.fixed 16 (by decide), hv.fixed 17 (by decide), hv.fixed 18 (by decide), hv.fixed 19 (by decide), hv.fixed 20 (by decide), hv.fixed 21 (by decide), hv.fixed 22 (by decide), hv.get 31 (d := 54) rfl rfl (hall 31 (by decide))] at ha
    rw [ha]
    exact hK _ _ _ _ _ _ _ _ _ _ _ _ _ _ _ _ _ _ _ _ _ _ _ _ _ _ _ _ _ _ _ wc HO.out
noncomputable def kt_ne_code : Code := ((Tryd.f36.body.bind (regionOf 6)).getD .skip)
def kt_ne_dsts : List (Option Nat) := [some 23, some 24, some 25, some 26, some 27, some 28, some 29, some 30, some 31, some 32, some 33, some 34, some 35, some 36, some 37, some 38, some 39, some 40, some 41, some 42, some 43, some 44, some 45, some 46, some 47, some 48, some 49, some 50, some 51, some 52, some 53, some 54]
theorem kt_ne_apart : apartD kt_ne_dsts = true := by decide +kernel
set_option maxRecDepth 1000000 in
set_option maxHeartbeats 16000000 in
theorem kt_ne (wr : World) (B k np cP nf nt cF cT : Nat) (pp pf pt : Addr) (p y z : Int) (HC : Hid (¬ p < 0 ∧ ¬ 2 < p ∧ 0 < p)) (hkp : k < np) (cp : wr.cell? (pp.add k) = some (.int .i64 p)) (hkf : k < nf) (hkt : k < nt) (b8 : wr.cell? ⟨B, 9, none⟩ = some (.slice (some pf) nf cF)) (b9 : wr.cell? ⟨B, 10, none⟩ = some (.slice (some pt) nt cT)) (cf : wr.cell? (pf.add k) = some (.int .i64 y)) (ct : wr.cell? (pt.add k) = some (.int .i64 z)) (HYZ : Hid ((y == z) = false)) (c0 c3 c4 c6 c7 c8 c9 c10 c11 c12 c13 c14 c15 c16 c17 c18 c19 c20 c21 c22 c23 c24 c25 c26 c27 c28 c29 c30 c31 c32 c33 c34 c35 c36 c37 c38 c39 c40 c41 c42 c43 c44 c45 c46 c47 c48 c49 c50 c51 c52 c53 c54 : Value) (df : List Deferred) (K : Act → World → Prop)
    (hK : ∀  (u23 u24 u25 u26 u27 u28 u29 u30 u31 u32 u33 u34 u35 u36 u37 u38 u39 u40 u41 u42 u43 u44 u45 u46 u47 u48 u49 u50 u51 u52 u53 : Value) (wx : World), Ext wr wx → K ⟨#[c0, .slice (some pp) np cP, .pointer (some ⟨B, 0, none⟩), c3, c4, .int .i64 (k : Nat), c6, c7, c8, c9, c10, c11, c12, c13, c14, c15, c16, c17, c18, c19, c20, c21, c22, u23, u24, u25, u26, u27, u28, u29, u30, u31, u32, u33, u34, u35, u36, u37, u38, u39, u40, u41, u42, u43, u44, u45, u46, u47, u48, u49, u50, u51, u52, u53, .bool false], df⟩ wx) :
    Code.wp Tryd.prog kt_ne_code (AtEnd K) ⟨#[c0, .slice (some pp) np cP, .pointer (some ⟨B, 0, none⟩), c3, c4, .int .i64 (k : Nat), c6, c7, c8, c9, c10, c11, c12, c13, c14, c15, c16, c17, c18, c19, c20, c21, c22, c23, c24, c25, c26, c27, c28, c29, c30, c31, c32, c33, c34, c35, c36, c37, c38, c39, c40, c41, c42, c43, c44, c45, c46, c47, c48, c49, c50, c51, c52, c53, c54], df⟩ wr := by
  conv => arg 2; whnf
  refine region_inv (by kernel_rfl) [[], [], [0, 1], [2], [3], [4], [5], [5], [6, 7, 5], [8, 5], [9, 5], [5, 10], [11, 5], [12], [12], [13, 14, 12], [15, 12], [16, 12], [17, 12, 12], [18], [19, 18], [18], [20, 21, 18], [22, 18], [18], [24, 18], [18], [25, 26, 18], [27, 18], [23, 28, 18], [18, 29, 12], [12, 30]] (by kernel_rfl) [0, 1, 2, 3, 4, 5, 6, 7, 8, 9, 10, 11, 12, 13, 14, 15, 16, 17, 18, 19, 20, 21, 22, 23, 24, 25, 26, 27, 28, 29, 30, 31] (by decide +kernel) (by decide +kernel) (by decide +kernel) (fun L a wc => Inv kt_ne_dsts [.slice (some pp) np cP, .int .i64 (k : Nat), .pointer (some (pp.add k)), .int .i64 p, .bool false, .bool false, .slice (some pp) np cP, .int .i64 (k : Nat), .pointer (some (pp.add k)), .int .i64 p, .bool false, .bool false, .bool false, .slice (some pp) np cP, .int .i64 (k : Nat), .pointer (some (pp.add k)), .int .i64 p, .bool true, .bool true, .pointer (some ⟨B, 9, none⟩), .slice (some pf) nf cF, .int .i64 (k : Nat), .pointer (some (pf.add k)), .int .i64 y, .pointer (some ⟨B, 10, none⟩), .slice (some pt) nt cT, .int .i64 (k : Nat), .pointer (some (pt.add k)), .int .i64 z, .bool false, .bool false, .bool false] ⟨#[c0, .slice (some pp) np cP, .pointer (some ⟨B, 0, none⟩), c3, c4, .int .i64 (k : Nat), c6, c7, c8, c9, c10, c11, c12, c13, c14, c15, c16, c17, c18, c19, c20, c21, c22, c23, c24, c25, c26, c27, c28, c29, c30, c31, c32, c33, c34, c35, c36, c37, c38, c39, c40, c41, c42, c43, c44, c45, c46, c47, c48, c49, c50, c51, c52, c53, c54], df⟩ L a ∧ Hid (Ext wr wc)) ⟨Inv.start, Lib.hid ((Ext.refl wr).drew)⟩ ?_ ?_
  · refine ⟨?_, ?_, ?_, ?_, ?_, ?_, ?_, ?_, ?_, ?_, ?_, ?_, ?_, ?_, ?_, ?_, ?_, ?_, ?_, ?_, ?_, ?_, ?_, ?_, ?_, ?_, ?_, ?_, ?_, ?_, ?_, ?_, trivial⟩
    · -- 0 move
      rintro L a wc ⟨hv, HO⟩ hL hc hd
      exact wpOp_val rfl rfl (ex_move rfl ((hv.fixed 1 (by decide)).trans rfl)) ⟨hv.put kt_ne_apart 0 rfl (Nat.le_of_ble_eq_true rfl) (Nat.le_of_ble_eq_true rfl) rfl, HO⟩
    · -- 1 move
      rintro L a wc ⟨hv, HO⟩ hL hc hd
      exact wpOp_val rfl rfl (ex_move rfl ((hv.fixed 5 (by decide)).trans rfl)) ⟨hv.put kt_ne_apart 1 rfl (Nat.le_of_ble_eq_true rfl) (Nat.le_of_ble_eq_true rfl) rfl, HO⟩
    · -- 2 index
      rintro L a wc ⟨hv, HO⟩ hL hc hd
      have u1 : (0 : Int) ≤ (k : Int) := by omega
      have u2 : (k : Int) < (np : Int) := by omega
      exact wpOp_val rfl rfl (ex_index rfl (hv.get 0 rfl rfl (hd 0 (by decide))) (hv.get 1 rfl rfl (hd 1 (by decide))) (by go_simp)) ⟨hv.put kt_ne_apart 2 rfl (Nat.le_of_ble_eq_true rfl) (Nat.le_of_ble_eq_true rfl) rfl, HO⟩
    · -- 3 load
      rintro L a wc ⟨hv, HO⟩ hL hc hd
      have h1 : wc.cell? (pp.add k) = some (.int .i64 p) := HO.out.cell cp
      exact wpOp_val rfl rfl (ex_load rfl (hv.get 2 rfl rfl (hd 2 (by decide))) (by go_simp)) ⟨hv.put kt_ne_apart 3 rfl (Nat.le_of_ble_eq_true rfl) (Nat.le_of_ble_eq_true rfl) rfl, HO⟩
    · -- 4 bin
      rintro L a wc ⟨hv, HO⟩ hL hc hd
      have u := HC.out.1
      exact wpOp_val rfl rfl (ex_bin rfl (hv.get 3 rfl rfl (hd 3 (by decide))) rfl (by go_simp)) ⟨hv.put kt_ne_apart 4 rfl (Nat.le_of_ble_eq_true rfl) (Nat.le_of_ble_eq_true rfl) rfl, HO⟩
    · -- 5 move
      rintro L a wc ⟨hv, HO⟩ hL hc hd
      exact wpOp_val rfl rfl (ex_move rfl (hv.get 4 rfl rfl (hd 4 (by decide)))) ⟨hv.put kt_ne_apart 5 rfl (Nat.le_of_ble_eq_true rfl) (Nat.le_of_ble_eq_true rfl) rfl, HO⟩
    · -- 6 move
      rintro L a wc ⟨hv, HO⟩ hL hc hd
      exact wpOp_val rfl ((wanted_at rfl rfl (hv.get 5 rfl rfl (hd 5 (by decide)))).trans rfl) (ex_move rfl ((hv.fixed 1 (by decide)).trans rfl)) ⟨hv.put kt_ne_apart 6 rfl (Nat.le_of_ble_eq_true rfl) (Nat.le_of_ble_eq_true rfl) rfl, HO⟩
    · -- 7 move
      rintro L a wc ⟨hv, HO⟩ hL hc hd
      exact wpOp_val rfl ((wanted_at rfl rfl (hv.get 5 rfl rfl (hd 5 (by decide)))).trans rfl) (ex_move rfl ((hv.fixed 5 (by decide)).trans rfl)) ⟨hv.put kt_ne_apart 7 rfl (Nat.le_of_ble_eq_true rfl) (Nat.le_of_ble_eq_true rfl) rfl, HO⟩
    · -- 8 index
      rintro L a wc ⟨hv, HO⟩ hL hc hd
      have u1 : (0 : Int) ≤ (k : Int) := by omega
      have u2 : (k : Int) < (np : Int) := by omega
      exact wpOp_val rfl ((wanted_at rfl rfl (hv.get 5 rfl rfl (hd 5 (by decide)))).trans rfl) (ex_index rfl (hv.get 6 rfl rfl (hd 6 (by decide))) (hv.get 7 rfl rfl (hd 7 (by decide))) (by go_simp)) ⟨hv.put kt_ne_apart 8 rfl (Nat.le_of_ble_eq_true rfl) (Nat.le_of_ble_eq_true rfl) rfl, HO⟩
    · -- 9 load
      rintro L a wc ⟨hv, HO⟩ hL hc hd
      have h1 : wc.cell? (pp.add k) = some (.int .i64 p) := HO.out.cell cp
      exact wpOp_val rfl ((wanted_at rfl rfl (hv.get 5 rfl rfl (hd 5 (by decide)))).trans rfl) (ex_load rfl (hv.get 8 rfl rfl (hd 8 (by decide))) (by go_simp)) ⟨hv.put kt_ne_apart 9 rfl (Nat.le_of_ble_eq_true rfl) (Nat.le_of_ble_eq_true rfl) rfl, HO⟩
    · -- 10 bin
      rintro L a wc ⟨hv, HO⟩ hL hc hd
      have u := HC.out.2.1
      exact wpOp_val rfl ((wanted_at rfl rfl (hv.get 5 rfl rfl (hd 5 (by decide)))).trans rfl) (ex_bin rfl (hv.get 9 rfl rfl (hd 9 (by decide))) rfl (by go_simp)) ⟨hv.put kt_ne_apart 10 rfl (Nat.le_of_ble_eq_true rfl) (Nat.le_of_ble_eq_true rfl) rfl, HO⟩
    · -- 11 pick
      rintro L a wc ⟨hv, HO⟩ hL hc hd
      exact wpOp_val rfl rfl (ex_pick rfl (hv.get 5 rfl rfl (hd 5 (by decide))) ((if_neg (by simp)).trans (hv.get 10 rfl rfl (hd 10 (by decide))))) ⟨hv.put kt_ne_apart 11 rfl (Nat.le_of_ble_eq_true rfl) (Nat.le_of_ble_eq_true rfl) rfl, HO⟩
    · -- 12 move
      rintro L a wc ⟨hv, HO⟩ hL hc hd
      exact wpOp_val rfl rfl (ex_move rfl (hv.get 11 rfl rfl (hd 11 (by decide)))) ⟨hv.put kt_ne_apart 12 rfl (Nat.le_of_ble_eq_true rfl) (Nat.le_of_ble_eq_true rfl) rfl, HO⟩
    · -- 13 move
      rintro L a wc ⟨hv, HO⟩ hL hc hd
      exact wpOp_val rfl ((wanted_at rfl rfl (hv.get 12 rfl rfl (hd 12 (by decide)))).trans rfl) (ex_move rfl ((hv.fixed 1 (by decide)).trans rfl)) ⟨hv.put kt_ne_apart 13 rfl (Nat.le_of_ble_eq_true rfl) (Nat.le_of_ble_eq_true rfl) rfl, HO⟩
    · -- 14 move
      rintro L a wc ⟨hv, HO⟩ hL hc hd
      exact wpOp_val rfl ((wanted_at rfl rfl (hv.get 12 rfl rfl (hd 12 (by decide)))).trans rfl) (ex_move rfl ((hv.fixed 5 (by decide)).trans rfl)) ⟨hv.put kt_ne_apart 14 rfl (Nat.le_of_ble_eq_true rfl) (Nat.le_of_ble_eq_true rfl) rfl, HO⟩
    · -- 15 index
      rintro L a wc ⟨hv, HO⟩ hL hc hd
      have u1 : (0 : Int) ≤ (k : Int) := by omega
      have u2 : (k : Int) < (np : Int) := by omega
      exact wpOp_val rfl ((wanted_at rfl rfl (hv.get 12 rfl rfl (hd 12 (by decide)))).trans rfl) (ex_index rfl (hv.get 13 rfl rfl (hd 13 (by decide))) (hv.get 14 rfl rfl (hd 14 (by decide))) (by go_simp)) ⟨hv.put kt_ne_apart 15 rfl (Nat.le_of_ble_eq_true rfl) (Nat.le_of_ble_eq_true rfl) rfl, HO⟩
    · -- 16 load
      rintro L a wc ⟨hv, HO⟩ hL hc hd
      have h1 : wc.cell? (pp.add k) = some (.int .i64 p) := HO.out.cell cp
      exact wpOp_val rfl ((wanted_at rfl rfl (hv.get 12 rfl rfl (hd 12 (by decide)))).trans rfl) (ex_load rfl (hv.get 15 rfl rfl (hd 15 (by decide))) (by go_simp)) ⟨hv.put kt_ne_apart 16 rfl (Nat.le_of_ble_eq_true rfl) (Nat.le_of_ble_eq_true rfl) rfl, HO⟩
    · -- 17 bin
      rintro L a wc ⟨hv, HO⟩ hL hc hd
      have u := HC.out.2.2
      exact wpOp_val rfl ((wanted_at rfl rfl (hv.get 12 rfl rfl (hd 12 (by decide)))).trans rfl) (ex_bin rfl (hv.get 16 rfl rfl (hd 16 (by decide))) rfl (by go_simp)) ⟨hv.put kt_ne_apart 17 rfl (Nat.le_of_ble_eq_true rfl) (Nat.le_of_ble_eq_true rfl) rfl, HO⟩
    · -- 18 move
      rintro L a wc ⟨hv, HO⟩ hL hc hd
      exact wpOp_val rfl ((wanted_at rfl rfl (hv.get 12 rfl rfl (hd 12 (by decide)))).trans rfl) (ex_move rfl (hv.get 17 rfl rfl (hd 17 (by decide)))) ⟨hv.put kt_ne_apart 18 rfl (Nat.le_of_ble_eq_true rfl) (Nat.le_of_ble_eq_true rfl) rfl, HO⟩
    · -- 19 field
      rintro L a wc ⟨hv, HO⟩ hL hc hd
      exact wpOp_val rfl ((wanted_at rfl rfl (hv.get 18 rfl rfl (hd 18 (by decide)))).trans rfl) (ex_field rfl ((hv.fixed 2 (by decide)).trans rfl) (by go_simp)) ⟨hv.put kt_ne_apart 19 rfl (Nat.le_of_ble_eq_true rfl) (Nat.le_of_ble_eq_true rfl) rfl, HO⟩
    · -- 20 load
      rintro L a wc ⟨hv, HO⟩ hL hc hd
      have h8 : wc.cell? ⟨B, 9, none⟩ = some (.slice (some pf) nf cF) := HO.out.cell b8
      exact wpOp_val rfl ((wanted_at rfl rfl (hv.get 18 rfl rfl (hd 18 (by decide)))).trans rfl) (ex_load rfl (hv.get 19 rfl rfl (hd 19 (by decide))) (by go_simp)) ⟨hv.put kt_ne_apart 20 rfl (Nat.le_of_ble_eq_true rfl) (Nat.le_of_ble_eq_true rfl) rfl, HO⟩
    · -- 21 move
      rintro L a wc ⟨hv, HO⟩ hL hc hd
      exact wpOp_val rfl ((wanted_at rfl rfl (hv.get 18 rfl rfl (hd 18 (by decide)))).trans rfl) (ex_move rfl ((hv.fixed 5 (by decide)).trans rfl)) ⟨hv.put kt_ne_apart 21 rfl (Nat.le_of_ble_eq_true rfl) (Nat.le_of_ble_eq_true rfl) rfl, HO⟩
    · -- 22 index
      rintro L a wc ⟨hv, HO⟩ hL hc hd
      have u1 : (0 : Int) ≤ (k : Int) := by omega
      have u2 : (k : Int) < (nf : Int) := by omega
      exact wpOp_val rfl ((wanted_at rfl rfl (hv.get 18 rfl rfl (hd 18 (by decide)))).trans rfl) (ex_index rfl (hv.get 20 rfl rfl (hd 20 (by decide))) (hv.get 21 rfl rfl (hd 21 (by decide))) (by go_simp)) ⟨hv.put kt_ne_apart 22 rfl (Nat.le_of_ble_eq_true rfl) (Nat.le_of_ble_eq_true rfl) rfl, HO⟩
    · -- 23 load
      rintro L a wc ⟨hv, HO⟩ hL hc hd
      have h1 : wc.cell? (pf.add k) = some (.int .i64 y) := HO.out.cell cf
      exact wpOp_val rfl ((wanted_at rfl rfl (hv.get 18 rfl rfl (hd 18 (by decide)))).trans rfl) (ex_load rfl (hv.get 22 rfl rfl (hd 22 (by decide))) (by go_simp)) ⟨hv.put kt_ne_apart 23 rfl (Nat.le_of_ble_eq_true rfl) (Nat.le_of_ble_eq_true rfl) rfl, HO⟩
    · -- 24 field
      rintro L a wc ⟨hv, HO⟩ hL hc hd
      exact wpOp_val rfl ((wanted_at rfl rfl (hv.get 18 rfl rfl (hd 18 (by decide)))).trans rfl) (ex_field rfl ((hv.fixed 2 (by decide)).trans rfl) (by go_simp)) ⟨hv.put kt_ne_apart 24 rfl (Nat.le_of_ble_eq_true rfl) (Nat.le_of_ble_eq_true rfl) rfl, HO⟩
    · -- 25 load
      rintro L a wc ⟨hv, HO⟩ hL hc hd
      have h9 : wc.cell? ⟨B, 10, none⟩ = some (.slice (some pt) nt cT) := HO.out.cell b9
      exact wpOp_val rfl ((wanted_at rfl rfl (hv.get 18 rfl rfl (hd 18 (by decide)))).trans rfl) (ex_load rfl (hv.get 24 rfl rfl (hd 24 (by decide))) (by go_simp)) ⟨hv.put kt_ne_apart 25 rfl (Nat.le_of_ble_eq_true rfl) (Nat.le_of_ble_eq_true rfl) rfl, HO⟩
    · -- 26 move
      rintro L a wc ⟨hv, HO⟩ hL hc hd
      exact wpOp_val rfl ((wanted_at rfl rfl (hv.get 18 rfl rfl (hd 18 (by decide)))).trans rfl) (ex_move rfl ((hv.fixed 5 (by decide)).trans rfl)) ⟨hv.put kt_ne_apart 26 rfl (Nat.le_of_ble_eq_true rfl) (Nat.le_of_ble_eq_true rfl) rfl, HO⟩
    · -- 27 index
      rintro L a wc ⟨hv, HO⟩ hL hc hd
      have u1 : (0 : Int) ≤ (k : Int) := by omega
      have u2 : (k : Int) < (nt : Int) := by omega
      exact wpOp_val rfl ((wanted_at rfl rfl (hv.get 18 rfl rfl (hd 18 (by decide)))).trans rfl) (ex_index rfl (hv.get 25 rfl rfl (hd 25 (by decide))) (hv.get 26 rfl rfl (hd 26 (by decide))) (by go_simp)) ⟨hv.put kt_ne_apart 27 rfl (Nat.le_of_ble_eq_true rfl) (Nat.le_of_ble_eq_true rfl) rfl, HO⟩
    · -- 28 load
      rintro L a wc ⟨hv, HO⟩ hL hc hd
      have h1 : wc.cell? (pt.add k) = some (.int .i64 z) := HO.out.cell ct
      exact wpOp_val rfl ((wanted_at rfl rfl (hv.get 18 rfl rfl (hd 18 (by decide)))).trans rfl) (ex_load rfl (hv.get 27 rfl rfl (hd 27 (by decide))) (by go_simp)) ⟨hv.put kt_ne_apart 28 rfl (Nat.le_of_ble_eq_true rfl) (Nat.le_of_ble_eq_true rfl) rfl, HO⟩
    · -- 29 bin
      rintro L a wc ⟨hv, HO⟩ hL hc hd
      have u := HYZ.out
      exact wpOp_val rfl ((wanted_at rfl rfl (hv.get 18 rfl rfl (hd 18 (by decide)))).trans rfl) (ex_bin rfl (hv.get 23 rfl rfl (hd 23 (by decide))) (hv.get 28 rfl rfl (hd 28 (by decide))) (by go_simp)) ⟨hv.put kt_ne_apart 29 rfl (Nat.le_of_ble_eq_true rfl) (Nat.le_of_ble_eq_true rfl) rfl, HO⟩
    · -- 30 pick
      rintro L a wc ⟨hv, HO⟩ hL hc hd
      exact wpOp_val rfl ((wanted_at rfl rfl (hv.get 12 rfl rfl (hd 12 (by decide)))).trans rfl) (ex_pick rfl (hv.get 18 rfl rfl (hd 18 (by decide))) ((if_pos rfl).trans (hv.get 29 rfl rfl (hd 29 (by decide))))) ⟨hv.put kt_ne_apart 30 rfl (Nat.le_of_ble_eq_true rfl) (Nat.le_of_ble_eq_true rfl) rfl, HO⟩
    · -- 31 pick
      rintro L a wc ⟨hv, HO⟩ hL hc hd
      exact wpOp_val rfl rfl (ex_pick rfl (hv.get 12 rfl rfl (hd 12 (by decide))) ((if_neg (by simp)).trans (hv.get 30 rfl rfl (hd 30 (by decide))))) ⟨hv.put kt_ne_apart 31 rfl (Nat.le_of_ble_eq_true rfl) (Nat.le_of_ble_eq_true rfl) rfl, HO⟩
  · rintro L a wc ⟨hv, HO⟩ hall
    show K a wc
    have ha := act_lit a
    rw [hv.size, hv.defers] at ha
    have hl : ∀ f : Nat → Value, ((List.range (⟨#[c0, .slice (some pp) np cP, .pointer (some ⟨B, 0, none⟩), c3, c4, .int .i64 (k : Nat), c6, c7, c8, c9, c10, c11, c12, c13, c14, c15, c16, c17, c18, c19, c20, c21, c22, c23, c24, c25, c26, c27, c28, c29, c30, c31, c32, c33, c34, c35, c36, c37, c38, c39, c40, c41, c42, c43, c44, c45, c46, c47, c48, c49, c50, c51, c52, c53, c54], df⟩ : Act).tmps.size).map f).toArray = #[f 0, f 1, f 2, f 3, f 4, f 5, f 6, f 7, f 8, f 9, f 10, f 11, f 12, f 13, f 14, f 15, f 16, f 17, f 18, f 19, f 20, f 21, f 22, f 23, f 24, f 25, f 26, f 27, f 28, f 29, f 30, f 31, f 32, f 33, f 34, f 35, f 36, f 37, f 38, f 39, f 40, f 41, f 42, f 43, f 44, f 45, f 46, f 47, f 48, f 49, f 50, f 51, f 52, f 53, f 54] := fun _ => rfl
    rw [hl] at ha
    simp only [hv.fixed 0 (by decide), hv.fixed 1 (by decide), hv.fixed 2 (by decide), hv.fixed 3 (by decide), hv.fixed 4 (by decide), hv.fixed 5 (by decide), hv.fixed 6 (by decide), hv.fixed 7 (by decide), hv.fixed 8 (by decide), hv.fixed 9 (by decide), hv.fixed 10 (by decide), hv.fixed 11 (by decide), hv.fixed 12 (by decide), hv.fixed 13 (by decide), hv.fixed 14 (by decide), hv.fixed 15 (by decide), hv.fixed 16 (by decide), hv.fixed 17 (by decide), hv.fixed 18 (by decide), hv.fixed 19 (by decide), hv.fixed 20 (by decide), hv.fixed 21 (by decide), hv.fixed 22 (by decide), hv.get 31 (d := 54) rfl rfl (hall 31 (by decide))] at ha
    rw [ha]
    exact hK _ _ _ _ _ _ _ _ _ _ _ _ _ _ _ _ _ _ _ _ _ _ _ _ _ _ _ _ _ _ _ wc HO.out
end Go.Proofs.YtkbiffbmjgmcaaaDoor
