/- THE WALKS over the specification of codes, as far as perils reach it. -/
import Derived.Test.YtdbolgollpnfdaaDoorCode
import Derived.Test.YtdbolgollpnfdaaDoorCodeP
import Derived.Test.YtdbolgollpnfdaaDoorDec
import Derived.Test.YtdbolgollpnfdaaDoorFieldR
import Derived.Test.YtdbolgollpnfdaaDoorOwn
import Derived.Test.YtdbolgollpnfdaaDoorInv
import Derived.Deep.CutRange
/- BITS of sets, in plain terms. -/
namespace Cd
open Gf
theorem bit_test (s i : Nat) : bitAt s i = 1 ↔ s.testBit i = true := by
  unfold bitAt
  rw [Nat.testBit_eq_decide_div_mod_eq, decide_eq_true_eq]
theorem bit_01 (s i : Nat) : bitAt s i = 0 ∨ bitAt s i = 1 := by unfold bitAt; omega
theorem bit_or (s i j : Nat) : bitAt (s ||| 2 ^ i) j = 1 ↔ bitAt s j = 1 ∨ j = i := by
  rw [bit_test, bit_test, Nat.testBit_or, Nat.testBit_two_pow, Bool.or_eq_true, decide_eq_true_eq]
  exact or_congr Iff.rfl eq_comm
theorem bit_set : ∀ (g : List Int) (s j : Nat), (∀ i ∈ g, 0 ≤ i) → (bitAt (setOf s g) j = 1 ↔ bitAt s j = 1 ∨ (j : Int) ∈ g)
  | [], s, j, _ => by rw [setOf_nil]; simp
  | i :: g, s, j, h => by
    have e : setOf s (i :: g) = setOf (s ||| 2 ^ i.toNat) g := by unfold setOf; rfl
    rw [e, bit_set g _ j fun x hx => h x (by simp [hx]), bit_or, List.mem_cons, or_assoc]
    have h0 := h i (by simp)
    have : j = i.toNat ↔ (j : Int) = i := by omega
    rw [this]
end Cd

/- THE SPECIFICATION'S CHECK of codes, in plain terms: it is the program's. -/
namespace Cd
/-- Is a number in one of the first g groups? -/
def prevHas (gs : List (List Int)) (g : Nat) (x : Int) : Bool := (List.range g).any fun h => decide (x ∈ gs.getD h [])
def refBad (d : Int) (gs : List (List Int)) (g k : Nat) : Bool :=
  decide ((gs.getD g []).getD k 0 < 0) || decide (d ≤ (gs.getD g []).getD k 0) || (decide (0 < k) && decide ((gs.getD g []).getD k 0 ≤ (gs.getD g []).getD (k - 1) 0)) || prevHas gs g ((gs.getD g []).getD k 0)
/-- The error of one group. -/
def refGroup (d : Int) (gs : List (List Int)) (g : Nat) : Int :=
  if gs.getD g [] = [] then 8 else if (List.range (gs.getD g []).length).any (refBad d gs g) then 1 else 0
theorem prevHas_true {gs : List (List Int)} {g h : Nat} {x : Int} (hh : h < g) (hx : x ∈ gs.getD h []) : prevHas gs g x = true := by
  unfold prevHas
  rw [List.any_eq_true]
  exact ⟨h, List.mem_range.2 hh, by simpa using hx⟩
theorem prevHas_false {gs : List (List Int)} {g : Nat} {x : Int} (h : ∀ j, j < g → x ∉ gs.getD j []) : prevHas gs g x = false := by
  unfold prevHas
  rw [List.any_eq_false]
  intro j hj
  simpa using h j (List.mem_range.1 hj)
theorem prevHas_succ (gs : List (List Int)) (g : Nat) (x : Int) : prevHas gs (g + 1) x = true ↔ prevHas gs g x = true ∨ x ∈ gs.getD g [] := by
  unfold prevHas
  rw [List.range_succ, List.any_append, Bool.or_eq_true]
  simp
theorem refGroup_none {d : Int} {gs : List (List Int)} {g : Nat} (h : gs.getD g [] = []) : refGroup d gs g = 8 := if_pos h
theorem refGroup_bad {d : Int} {gs : List (List Int)} {g k : Nat} (h : gs.getD g [] ≠ []) (hk : k < (gs.getD g []).length) (hb : refBad d gs g k = true) : refGroup d gs g = 1 := by
  unfold refGroup
  rw [if_neg h, if_pos]
  rw [List.any_eq_true]
  exact ⟨k, List.mem_range.2 hk, hb⟩
theorem refGroup_ok {d : Int} {gs : List (List Int)} {g : Nat} (h : gs.getD g [] ≠ []) (hb : ∀ k, k < (gs.getD g []).length → refBad d gs g k = false) : refGroup d gs g = 0 := by
  unfold refGroup
  rw [if_neg h, if_neg]
  rw [Bool.not_eq_true, List.any_eq_false]
  intro k hk
  rw [hb k (List.mem_range.1 hk)]
  simp
theorem refBad_def (d : Int) (gs : List (List Int)) (g k : Nat) : refBad d gs g k = (decide ((gs.getD g []).getD k 0 < 0) || decide (d ≤ (gs.getD g []).getD k 0) || (decide (0 < k) && decide ((gs.getD g []).getD k 0 ≤ (gs.getD g []).getD (k - 1) 0)) || prevHas gs g ((gs.getD g []).getD k 0)) := rfl
/-- A group is bad for the program exactly if it is for the specification. -/
theorem bad_ref {d : Int} {gs : List (List Int)} {g s : Nat} (hs : ∀ x : Nat, bitAt s x = 1 ↔ prevHas gs g x = true) : bad d s (gs.getD g []) = (List.range (gs.getD g []).length).any (refBad d gs g) := by
  have each : ∀ k, badAt d s (gs.getD g []) k = refBad d gs g k := fun k => by
    rw [badAt_def, refBad_def]
    obtain ⟨x, hx⟩ : ∃ x, (gs.getD g []).getD k 0 = x := ⟨_, rfl⟩
    rw [hx]
    by_cases h0 : x < 0
    · simp [h0]
    · have h1 := hs x.toNat
      rw [show ((x.toNat : Nat) : Int) = x from by omega] at h1
      cases hp : prevHas gs g x with
      | true => rw [h1.2 hp]; simp
      | false =>
        have : bitAt s x.toNat ≠ 1 := fun h => by rw [h1.1 h] at hp; cases hp
        rw [show (bitAt s x.toNat == 1) = false from by simpa using this]
  unfold bad
  congr 1
  funext k
  exact each k
theorem checkG_ref {d : Int} {gs : List (List Int)} : ∀ i, i ≤ gs.length → (∀ h, h < i → refGroup d gs h = 0) →
    ∃ s, checkG d 0 gs = checkG d s (gs.drop i) ∧ ∀ x : Nat, bitAt s x = 1 ↔ prevHas gs i x = true
  | 0, _, _ => ⟨0, rfl, fun x => by simp [bitAt, prevHas]⟩
  | i + 1, hi, h => by
    obtain ⟨s, h1, h2⟩ := checkG_ref i (by omega) (fun j hj => h j (by omega))
    have hl : i < gs.length := by omega
    have hg : gs.getD i [] = gs[i] := by rw [List.getD_eq_getElem?_getD, List.getElem?_eq_getElem hl]; rfl
    have hr := h i (by omega)
    have hne : gs.getD i [] ≠ [] := fun he => by rw [refGroup_none he] at hr; cases hr
    have hb := bad_ref (d := d) h2
    have hbf : bad d s (gs.getD i []) = false := by
      rw [hb]
      cases ha : (List.range (gs.getD i []).length).any (refBad d gs i) with
      | false => rfl
      | true =>
        unfold refGroup at hr
        rw [if_neg hne, if_pos ha] at hr
        cases hr
    refine ⟨setOf s gs[i], ?_, fun x => ?_⟩
    · rw [h1, drop_cons hl, checkG_next (by rw [← hg]; exact hne) (by rw [← hg]; exact hbf)]
    · rw [bit_set gs[i] s x (fun j hj => by rw [← hg] at hj; exact (bad_bounds hbf hj).1), h2 x, prevHas_succ, hg]
theorem checkG_err {d : Int} {gs : List (List Int)} {i : Nat} (hi : i < gs.length) (h : ∀ j, j < i → refGroup d gs j = 0) (he : refGroup d gs i ≠ 0) : checkG d 0 gs = refGroup d gs i := by
  obtain ⟨s, h1, h2⟩ := checkG_ref i (by omega) h
  have hg : gs.getD i [] = gs[i] := by rw [List.getD_eq_getElem?_getD, List.getElem?_eq_getElem hi]; rfl
  rw [h1, drop_cons hi, ← hg]
  by_cases hne : gs.getD i [] = []
  · rw [refGroup_none hne, hne, checkG_nil]
  · have hb := bad_ref (d := d) h2
    unfold refGroup at he ⊢
    rw [if_neg hne] at he ⊢
    cases ha : (List.range (gs.getD i []).length).any (refBad d gs i) with
    | false => rw [ha] at he; simp at he
    | true => rw [ha] at hb; rw [checkG_bad hne hb]; rfl
theorem checkR_err {d gl : Int} {gs : List (List Int)} (h1 : ¬ (d < 1 ∨ 16 < d ∨ gl < 0 ∨ 4 < gl)) (h2 : ¬ 24 < d + gs.length + gl) {i : Nat} (hi : i < gs.length) (h : ∀ j, j < i → refGroup d gs j = 0) (he : refGroup d gs i ≠ 0) : check d gs gl = refGroup d gs i := by
  rw [check_groups h1 (by omega), checkG_err hi h he]
theorem checkR_ok {d gl : Int} {gs : List (List Int)} (h1 : ¬ (d < 1 ∨ 16 < d ∨ gl < 0 ∨ 4 < gl)) (h2 : ¬ 24 < d + gs.length + gl) (h : ∀ j, j < gs.length → refGroup d gs j = 0) : check d gs gl = 0 := by
  obtain ⟨s, e, _⟩ := checkG_ref gs.length (Nat.le_refl _) h
  rw [check_groups h1 (by omega), e, List.drop_length, checkG_end]
attribute [irreducible] refGroup refBad prevHas
end Cd

/- THE WALK over sorted. -/
namespace Go.Proofs.YtdbolgollpnfdaaDoor
open Go.RowKit
theorem wp_atEnd' {P : Program} {c : Code} {Q : Exit → Act → World → Prop} {a : Act} {w : World} (h : Code.wp P c (AtEnd fun a w => Q .normal a w) a w) : Code.wp P c Q a w :=
  Code.wp_mono (fun e a w hr => by
    cases e with
    | normal => exact hr
    | _ => exact (hr : False).elim) h
end Go.Proofs.YtdbolgollpnfdaaDoor

/- THE WALKS over Size and Encode. -/
namespace Go.Proofs.YtdbolgollpnfdaaDoor
open Go.RowKit
theorem Owns.older {w w2 wr : World} {L : List LRow} (h : Owns w2 wr L) (hx : Ext w w2) : Owns w wr L where
  ext := hx.trans h.ext
  ok i r hr := by
    have h1 := h.ok i r hr
    refine ⟨h1.1, ?_⟩
    rcases h1.2 with h2 | ⟨g, cap, cur, hv, hB, rest⟩
    · exact .inl h2
    · exact .inr ⟨g, cap, cur, hv, Nat.le_trans hx.size hB, rest⟩
  far := h.far
end Go.Proofs.YtdbolgollpnfdaaDoor

/- THE WALKS over the strings of the field's specification. -/
namespace Go.Proofs.YtdbolgollpnfdaaDoor
open Go.RowKit

theorem rmul_u8 (a b : UInt8) (w : World) : Calls Tryd.prog 55 #[bv a, bv b] w fun e w' => e = .returned (bv (Gf.mul a b)) ∧ w = w' := by
  refine (rmul_any _ _ w (by omega) (by have := Gf.lt8 a; omega) (by omega) (by have := Gf.lt8 b; omega)).mono ?_
  rintro e w' ⟨rfl, rfl⟩
  exact ⟨by rw [Gf.mulI_toNat], rfl⟩

theorem map_range_succ (g : Nat → UInt8) (k : Nat) : ((List.range k).map g).map bv ++ [bv (g k)] = ((List.range (k + 1)).map g).map bv := by
  rw [List.range_succ]; simp

end Go.Proofs.YtdbolgollpnfdaaDoor

/- THE WALKS over the specification of codes: Has, group, Check, Pieces, Size, Bit, In, IsSet. -/
namespace Go.Proofs.YtdbolgollpnfdaaDoor
open Go.RowKit
theorem getD_get {α : Type} {l : List α} {x : α} {i : Nat} (h : i < l.length) : l.getD i x = l[i] := by rw [List.getD_eq_getElem?_getD, List.getElem?_eq_getElem h]; rfl
theorem rHas_any (l : List Int) (x : Int) (B : Option Addr) (n c : Nat) (w : World) (hB : Rs RI w (.slice B n c) l) :
    Calls Tryd.prog 42 #[.slice B n c, .int .i64 x] w fun e w' => e = .returned (.bool (decide (x ∈ l))) ∧ w = w' := by
  have hn := hB.len
  obtain ⟨_, _, e0, hl⟩ := hB.form
  have HB := Lib.hid hB
  have HN := Lib.hid hn
  have hl2 : n ≤ 9223372036854775807 := by omega
  clear hB hn e0 hl
  go_enter Tryd.func42, Tryd.ntmps42
  go_wp2_with fail
  go_loop [5] (fun vi => ∃ i : Nat, i ≤ n ∧ vi = .int .i64 i ∧ Hid (∀ j, j < i → l.getD j 0 ≠ x)) (fun vi => n - (intOf vi).toNat)
  case atStart => exact ⟨0, Nat.zero_le _, rfl, Lib.hid fun j hj => absurd hj (Nat.not_lt_zero j)⟩
  case round =>
    obtain ⟨i, hi, rfl, HJ⟩ := hrel
    by_cases hlt : i < n
    · have hll : i < l.length := by rw [← HN.out]; exact hlt
      obtain ⟨ad, u, rfl, hc, hu⟩ := HB.out.at hll
      obtain ⟨rfl, _, _⟩ := hu
      have hgd := getD_get (x := (0 : Int)) hll
      obtain ⟨y, hy⟩ : ∃ y, l[i] = y := ⟨_, rfl⟩
      rw [hy] at hc hgd
      have hm : y ∈ l := by rw [← hy]; exact List.getElem_mem hll
      have HM := Lib.hid (And.intro hgd hm)
      clear hgd hm hy
      by_cases h1 : y = x
      · have e1 : (y == x) = true := by rw [h1]; simp
        have hd : decide (x ∈ l) = true := by rw [decide_eq_true_eq, ← h1]; exact HM.out.2
        have HD := Lib.hid hd
        clear h1 hd
        go_wp2_with fail
        go_ret
        exact ⟨ret_bool HD.out.symm, rfl⟩
      · have e1 : (y == x) = false := by rw [beq_eq_false_iff_ne]; exact h1
        have H1 := Lib.hid h1
        clear h1
        go_wp2_with fail
        go_round
        case rel => exact ⟨i + 1, by omega, by go_num, Lib.hid fun j hj => by
          by_cases hji : j = i
          · rw [hji, HM.out.1]; exact H1.out
          · exact HJ.out j (by omega)⟩
        case measure => simp [intOf]; omega
    · obtain rfl : i = n := by omega
      have hd : decide (x ∈ l) = false := by
        rw [decide_eq_false_iff_not]
        intro hm
        obtain ⟨j, hj, he⟩ := List.getElem_of_mem hm
        have := HJ.out j (by rw [HN.out]; exact hj)
        rw [getD_get hj] at this
        exact this he
      have HD := Lib.hid hd
      clear hd
      go_wp2_with fail
      go_ret
      exact ⟨ret_bool HD.out.symm, rfl⟩

set_option maxHeartbeats 1000000 in
theorem rGroup_any (d gl : Int) (gs : List (List Int)) (g : Nat) (G : Value) (w : World) (hG : Rs (Rs RI) w G gs) (hg : g < gs.length) :
    Calls Tryd.prog 32 #[.agg #[.int .i64 d, G, .int .i64 gl], .int .i64 g] w fun e w' => e = .returned (.int .i64 (Cd.refGroup d gs g)) ∧ Ext w w' := by
  have hx0 := (Ext.refl w).alloc (.cells #[.int .i64 d, G, .int .i64 gl] 24)
  have hG1 := Rs.ext (Rs.ext RI.ext) _ _ _ _ hx0 hG
  obtain ⟨A, c, rfl, hl⟩ := hG.form
  obtain ⟨ad, u, rfl, hcell, hu⟩ := hG1.at hg
  obtain ⟨B, cB, rfl, hlB⟩ := hu.form
  have hgd := getD_get (x := ([] : List Int)) hg
  obtain ⟨p, hp⟩ : ∃ p, gs[g] = p := ⟨_, rfl⟩
  rw [hp] at hu hlB hgd hcell
  have HX := Lib.hid hx0
  have HG := Lib.hid hG1
  have HU := Lib.hid hu
  have HD := Lib.hid hgd
  clear hG hx0 hG1 hu hgd hp
  by_cases h0 : p = []
  · have h8 : Cd.refGroup d gs g = 8 := Cd.refGroup_none (by rw [HD.out]; exact h0)
    have H8 := Lib.hid h8
    have hl0 : p.length = 0 := by rw [h0]; rfl
    clear h8 h0
    go_enter Tryd.func32, Tryd.ntmps32
    go_wp2_with fail
    go_ret
    exact ⟨ret_int H8.out.symm, HX.out⟩
  · have hgl : p.length ≠ 0 := fun h => h0 (List.length_eq_zero_iff.1 h)
    have e0 : ((p.length : Int) == 0) = false := by rw [beq_eq_false_iff_ne]; omega
    have H0 := Lib.hid (show gs.getD g [] ≠ [] by rw [HD.out]; exact h0)
    clear h0 hgl
    go_enter Tryd.func32, Tryd.ntmps32
    go_wp2_with fail
    go_loop [5] (fun vk => ∃ k : Nat, k ≤ p.length ∧ vk = .int .i64 k ∧ Hid (∀ j, j < k → Cd.refBad d gs g j = false)) (fun vk => p.length - (intOf vk).toNat)
    case atStart => exact ⟨0, Nat.zero_le _, rfl, Lib.hid fun j hj => absurd hj (Nat.not_lt_zero j)⟩
    case round =>
      obtain ⟨k, hk, rfl, HB⟩ := hrel
      by_cases hkl : k < p.length
      · obtain ⟨bd, u, rfl, hbc, hu⟩ := HU.out.at hkl
        obtain ⟨rfl, hlo, hhi⟩ := hu
        have hgk := getD_get (x := (0 : Int)) hkl
        have hbd := Cd.refBad_def d gs g k
        rw [HD.out, hgk] at hbd
        obtain ⟨y, hy⟩ : ∃ y, p[k] = y := ⟨_, rfl⟩
        rw [hy] at hbd hbc hlo hhi
        have bad1 : Cd.refBad d gs g k = true → Cd.refGroup d gs g = 1 := fun h => Cd.refGroup_bad H0.out (by rw [HD.out]; exact hkl) h
        have BD := Lib.hid hbd
        have B1 := Lib.hid bad1
        clear hgk hbd bad1 hy
        by_cases c1 : y < 0
        · have H1 := Lib.hid (B1.out (by rw [BD.out]; simp [c1]))
          go_wp2_with fail
          go_ret
          exact ⟨ret_int H1.out.symm, HX.out⟩
        · by_cases c2 : d ≤ y
          · have H1 := Lib.hid (B1.out (by rw [BD.out]; simp [c2]))
            go_wp2_with fail
            go_ret
            exact ⟨ret_int H1.out.symm, HX.out⟩
          · by_cases ck : 0 < k
            · obtain ⟨bd2, u2, e2, hbc2, hu2⟩ := HU.out.at (i := k - 1) (by omega)
              injection e2 with e2
              subst e2
              obtain ⟨rfl, hlo2, hhi2⟩ := hu2
              have hgk2 := getD_get (x := (0 : Int)) (show k - 1 < p.length by omega)
              obtain ⟨z, hz⟩ : ∃ z, p[k - 1] = z := ⟨_, rfl⟩
              rw [hz] at hgk2 hbc2 hlo2 hhi2
              have HK2 := Lib.hid hgk2
              clear hgk2 hz
              by_cases c3 : y ≤ z
              · have H1 := Lib.hid (B1.out (by rw [BD.out, HK2.out]; simp [c3, ck]))
                go_wp2_with fail
                go_ret
                exact ⟨ret_int H1.out.symm, HX.out⟩
              · have hno : Cd.prevHas gs g y = false → Cd.refBad d gs g k = false := fun h => by rw [BD.out, HK2.out, h]; simp [c1, c2, c3]
                have hyes : Cd.prevHas gs g y = true → Cd.refGroup d gs g = 1 := fun h => B1.out (by rw [BD.out, h]; simp)
                have HNO := Lib.hid (And.intro hno hyes)
                clear hno hyes
                go_wp2_with fail
                go_loop [7] (fun vh => ∃ h : Nat, h ≤ g ∧ vh = .int .i64 h ∧ Hid (∀ j, j < h → y ∉ gs.getD j [])) (fun vh => g - (intOf vh).toNat)
                case atStart => exact ⟨0, Nat.zero_le _, rfl, Lib.hid fun j hj => absurd hj (Nat.not_lt_zero j)⟩
                case round =>
                  obtain ⟨h, hh, rfl, HH⟩ := hrel
                  by_cases hhl : h < g
                  · obtain ⟨ad2, v, e3, hvc, hv⟩ := HG.out.at (i := h) (by omega)
                    injection e3 with e3
                    subst e3
                    obtain ⟨B2, c2', rfl, hl2⟩ := hv.form
                    have hgh := getD_get (x := ([] : List Int)) (show h < gs.length by omega)
                    obtain ⟨q, hq⟩ : ∃ q, gs[h] = q := ⟨_, rfl⟩
                    rw [hq] at hv hl2 hgh hvc
                    have HV := Lib.hid hv
                    have HGH := Lib.hid hgh
                    clear hv hgh hq
                    by_cases hin : y ∈ q
                    · have e4 : decide (y ∈ q) = true := by simpa using hin
                      have H1 := Lib.hid (HNO.out.2 (Cd.prevHas_true hhl (by rw [HGH.out]; exact hin)))
                      clear hin
                      go_wp2_with fail
                      refine (rHas_any q y _ _ _ _ HV.out).mono ?_
                      rintro e w1 ⟨rfl, rfl⟩
                      rw [e4]
                      go_wp2_with fail
                      go_ret
                      exact ⟨ret_int H1.out.symm, HX.out⟩
                    · have e4 : decide (y ∈ q) = false := by simpa using hin
                      have HIN := Lib.hid hin
                      clear hin
                      go_wp2_with fail
                      refine (rHas_any q y _ _ _ _ HV.out).mono ?_
                      rintro e w1 ⟨rfl, rfl⟩
                      rw [e4]
                      go_wp2_with fail
                      go_round
                      case rel => exact ⟨h + 1, by omega, by go_num, Lib.hid fun j hj => by
                        by_cases hjh : j = h
                        · rw [hjh, HGH.out]; exact HIN.out
                        · exact HH.out j (by omega)⟩
                      case measure => simp [intOf]; omega
                  · obtain rfl : h = g := by omega
                    have H1 := Lib.hid (HNO.out.1 (Cd.prevHas_false HH.out))
                    go_wp2_with fail
                    go_round
                    case rel => exact ⟨k + 1, by omega, by go_num, Lib.hid fun j hj => by
                      by_cases hjk : j = k
                      · rw [hjk]; exact H1.out
                      · exact HB.out j (by omega)⟩
                    case measure => simp [intOf]; omega
            · have hno : Cd.prevHas gs g y = false → Cd.refBad d gs g k = false := fun h => by rw [BD.out, h]; simp [c1, c2, ck]
              have hyes : Cd.prevHas gs g y = true → Cd.refGroup d gs g = 1 := fun h => B1.out (by rw [BD.out, h]; simp)
              have HNO := Lib.hid (And.intro hno hyes)
              clear hno hyes
              go_wp2_with fail
              go_loop [7] (fun vh => ∃ h : Nat, h ≤ g ∧ vh = .int .i64 h ∧ Hid (∀ j, j < h → y ∉ gs.getD j [])) (fun vh => g - (intOf vh).toNat)
              case atStart => exact ⟨0, Nat.zero_le _, rfl, Lib.hid fun j hj => absurd hj (Nat.not_lt_zero j)⟩
              case round =>
                obtain ⟨h, hh, rfl, HH⟩ := hrel
                by_cases hhl : h < g
                · obtain ⟨ad2, v, e3, hvc, hv⟩ := HG.out.at (i := h) (by omega)
                  injection e3 with e3
                  subst e3
                  obtain ⟨B2, c2', rfl, hl2⟩ := hv.form
                  have hgh := getD_get (x := ([] : List Int)) (show h < gs.length by omega)
                  obtain ⟨q, hq⟩ : ∃ q, gs[h] = q := ⟨_, rfl⟩
                  rw [hq] at hv hl2 hgh hvc
                  have HV := Lib.hid hv
                  have HGH := Lib.hid hgh
                  clear hv hgh hq
                  by_cases hin : y ∈ q
                  · have e4 : decide (y ∈ q) = true := by simpa using hin
                    have H1 := Lib.hid (HNO.out.2 (Cd.prevHas_true hhl (by rw [HGH.out]; exact hin)))
                    clear hin
                    go_wp2_with fail
                    refine (rHas_any q y _ _ _ _ HV.out).mono ?_
                    rintro e w1 ⟨rfl, rfl⟩
                    rw [e4]
                    go_wp2_with fail
                    go_ret
                    exact ⟨ret_int H1.out.symm, HX.out⟩
                  · have e4 : decide (y ∈ q) = false := by simpa using hin
                    have HIN := Lib.hid hin
                    clear hin
                    go_wp2_with fail
                    refine (rHas_any q y _ _ _ _ HV.out).mono ?_
                    rintro e w1 ⟨rfl, rfl⟩
                    rw [e4]
                    go_wp2_with fail
                    go_round
                    case rel => exact ⟨h + 1, by omega, by go_num, Lib.hid fun j hj => by
                      by_cases hjh : j = h
                      · rw [hjh, HGH.out]; exact HIN.out
                      · exact HH.out j (by omega)⟩
                    case measure => simp [intOf]; omega
                · obtain rfl : h = g := by omega
                  have H1 := Lib.hid (HNO.out.1 (Cd.prevHas_false HH.out))
                  go_wp2_with fail
                  go_round
                  case rel => exact ⟨k + 1, by omega, by go_num, Lib.hid fun j hj => by
                    by_cases hjk : j = k
                    · rw [hjk]; exact H1.out
                    · exact HB.out j (by omega)⟩
                  case measure => simp [intOf]; omega
      · obtain rfl : k = p.length := by omega
        have hz : Cd.refGroup d gs g = 0 := Cd.refGroup_ok H0.out (by rw [HD.out]; exact HB.out)
        have HZ := Lib.hid hz
        clear hz
        go_wp2_with fail
        go_ret
        exact ⟨ret_int HZ.out.symm, HX.out⟩
end Go.Proofs.YtdbolgollpnfdaaDoor

/- THE WALKS over the specification of codes: Check, Pieces, Size, Bit, In, IsSet. -/
namespace Cd
/-- Is a number in a set of small numbers? -/
def inS (m k : Nat) : Bool := decide (bitAt m k = 1)
theorem inS_def (m k : Nat) : inS m k = decide (m / 2 ^ k % 2 = 1) := rfl
/-- Is a number a set of pieces of a code? -/
def isSet (d : Int) (gs : List (List Int)) (gl : Int) (m : Int) : Bool := decide (0 ≤ m ∧ m < ((2 ^ (pieces d gs gl).toNat : Nat) : Int))
theorem pieces_lt (d gl : Int) (gs : List (List Int)) : 0 ≤ pieces d gs gl ∧ pieces d gs gl ≤ 24 := by
  by_cases h : check d gs gl = 0
  · rw [pieces_ok h]; have := check_ok h; omega
  · rw [pieces_no h]; omega
end Cd
namespace Go.Proofs.YtdbolgollpnfdaaDoor
open Go.RowKit
set_option maxHeartbeats 4000000 in
theorem rCheck_any (d gl : Int) (gs : List (List Int)) (G : Value) (w : World) (hG : Rs (Rs RI) w G gs) (hn : gs.length ≤ 1000000) :
    Calls Tryd.prog 22 #[.agg #[.int .i64 d, G, .int .i64 gl]] w fun e w' => e = .returned (.int .i64 (Cd.check d gs gl)) ∧ Ext w w' := by
  have hx0 := (Ext.refl w).alloc (.cells #[.int .i64 d, G, .int .i64 gl] 24)
  have HX := Lib.hid (And.intro hx0 (Rs.ext (Rs.ext RI.ext) _ _ _ _ hx0 hG))
  by_cases h : d < 1 ∨ 16 < d ∨ gl < 0 ∨ 4 < gl
  · rw [Cd.check_range h]
    have four : d < 1 ∨ (¬ d < 1 ∧ 16 < d) ∨ (¬ d < 1 ∧ ¬ 16 < d ∧ gl < 0) ∨ (¬ d < 1 ∧ ¬ 16 < d ∧ ¬ gl < 0 ∧ 4 < gl) := by omega
    clear h hG hx0
    rcases four with g | ⟨g1, g⟩ | ⟨g1, g2, g⟩ | ⟨g1, g2, g3, g⟩
    all_goals
      go_enter Tryd.func22, Tryd.ntmps22
      go_wp2_with fail
      go_ret
      exact ⟨rfl, HX.out.1⟩
  · have h1 : 1 ≤ d := by omega
    have h2 : d ≤ 16 := by omega
    have h3 : 0 ≤ gl := by omega
    have h4 : gl ≤ 4 := by omega
    obtain ⟨A, c, rfl, hl⟩ := hG.form
    have H := Lib.hid h
    clear hG hx0 h
    by_cases hb : 24 < d + gs.length + gl
    · have hc := Cd.check_limit H.out (.inr hb)
      have HC := Lib.hid hc
      clear hc
      go_enter Tryd.func22, Tryd.ntmps22
      go_wp2_with fail
      go_ret
      exact ⟨ret_int HC.out.symm, HX.out.1⟩
    · have hb2 : d + gs.length + gl ≤ 24 := by omega
      clear hb
      go_enter Tryd.func22, Tryd.ntmps22
      go_wp2_with fail
      go_loopw [3] (fun vi wr => ∃ i : Nat, i ≤ gs.length ∧ vi = .int .i64 i ∧ Hid (Ext (w.alloc (.cells #[.int .i64 d, .slice A gs.length c, .int .i64 gl] 24)) wr ∧ ∀ j, j < i → Cd.refGroup d gs j = 0)) (fun vi _ => gs.length - (intOf vi).toNat)
      case atStart => exact ⟨0, Nat.zero_le _, rfl, Lib.hid (And.intro (Ext.refl _) fun j hj => absurd hj (Nat.not_lt_zero j))⟩
      case round =>
        obtain ⟨i, hi, rfl, HR⟩ := hrel
        have hc0 : wr.cell? ⟨w.heap.size, 0, none⟩ = some (.int .i64 d) := HR.out.1.cell (by go_simp)
        have hc1 : wr.cell? ⟨w.heap.size, 1, none⟩ = some (.slice A gs.length c) := HR.out.1.cell (by go_simp)
        have hc2 : wr.cell? ⟨w.heap.size, 2, none⟩ = some (.int .i64 gl) := HR.out.1.cell (by go_simp)
        by_cases hlt : i < gs.length
        · have hgr := Rs.ext (Rs.ext RI.ext) _ _ _ _ HR.out.1 HX.out.2
          have HG := Lib.hid hgr
          clear hgr
          by_cases he : Cd.refGroup d gs i = 0
          · have e1 : (Cd.refGroup d gs i != 0) = false := by rw [he]; rfl
            have HE := Lib.hid he
            clear he
            go_wp2_with fail
            refine (rGroup_any d gl gs i _ _ HG.out hlt).mono ?_
            rintro e w1 ⟨rfl, hx1⟩
            have HX1 := Lib.hid (HR.out.1.trans hx1)
            clear hx1 hc0 hc1 hc2
            go_wp2_with fail
            go_roundw
            case rel => exact ⟨i + 1, by omega, by go_num, Lib.hid (And.intro HX1.out fun j hj => by
              by_cases hji : j = i
              · rw [hji]; exact HE.out
              · exact HR.out.2 j (by omega))⟩
            case measure => simp [intOf]; omega
          · have e1 : (Cd.refGroup d gs i != 0) = true := by rw [bne_iff_ne]; exact he
            have hc := Cd.checkR_err H.out (by omega) hlt HR.out.2 he
            have HC := Lib.hid hc
            clear he hc
            go_wp2_with fail
            refine (rGroup_any d gl gs i _ _ HG.out hlt).mono ?_
            rintro e w1 ⟨rfl, hx1⟩
            have HX1 := Lib.hid (HR.out.1.trans hx1)
            clear hx1 hc0 hc1 hc2
            go_wp2_with fail
            go_ret
            exact ⟨ret_int HC.out.symm, HX.out.1.trans HX1.out⟩
        · obtain rfl : i = gs.length := by omega
          have hc := Cd.checkR_ok H.out (by omega) HR.out.2
          have HC := Lib.hid hc
          clear hc
          go_wp2_with fail
          go_ret
          exact ⟨ret_int HC.out.symm, HX.out.1.trans HR.out.1⟩
theorem rPieces_any (d gl : Int) (gs : List (List Int)) (G : Value) (w : World) (hG : Rs (Rs RI) w G gs) (hn : gs.length ≤ 1000000) :
    Calls Tryd.prog 38 #[.agg #[.int .i64 d, G, .int .i64 gl]] w fun e w' => e = .returned (.int .i64 (Cd.pieces d gs gl)) ∧ Ext w w' := by
  have hx0 := (Ext.refl w).alloc (.cells #[.int .i64 d, G, .int .i64 gl] 24)
  have HX := Lib.hid (And.intro hx0 (Rs.ext (Rs.ext RI.ext) _ _ _ _ hx0 hG))
  obtain ⟨A, c, rfl, hl⟩ := hG.form
  clear hG hx0
  by_cases h0 : Cd.check d gs gl = 0
  · have hp := Cd.pieces_ok h0
    have hk := Cd.check_ok h0
    have e1 : (Cd.check d gs gl != 0) = false := by rw [h0]; rfl
    have HP := Lib.hid hp
    clear h0 hp
    go_enter Tryd.func38, Tryd.ntmps38
    go_wp2_with fail
    refine (rCheck_any d gl gs _ _ HX.out.2 hn).mono ?_
    rintro e w1 ⟨rfl, hx1⟩
    have hc0 : w1.cell? ⟨w.heap.size, 0, none⟩ = some (.int .i64 d) := hx1.cell (by go_simp)
    have hc1 : w1.cell? ⟨w.heap.size, 1, none⟩ = some (.slice A gs.length c) := hx1.cell (by go_simp)
    have hc2 : w1.cell? ⟨w.heap.size, 2, none⟩ = some (.int .i64 gl) := hx1.cell (by go_simp)
    have HX1 := Lib.hid (HX.out.1.trans hx1)
    clear hx1
    go_wp2_with fail
    go_ret
    exact ⟨ret_int HP.out.symm, HX1.out⟩
  · have hp := Cd.pieces_no h0
    have e1 : (Cd.check d gs gl != 0) = true := by rw [bne_iff_ne]; exact h0
    have HP := Lib.hid hp
    clear h0 hp
    go_enter Tryd.func38, Tryd.ntmps38
    go_wp2_with fail
    refine (rCheck_any d gl gs _ _ HX.out.2 hn).mono ?_
    rintro e w1 ⟨rfl, hx1⟩
    have HX1 := Lib.hid (HX.out.1.trans hx1)
    clear hx1
    go_wp2_with fail
    go_ret
    exact ⟨ret_int HP.out.symm, HX1.out⟩
theorem rBit_any (k : Nat) (w : World) (hk : k ≤ 24) :
    Calls Tryd.prog 45 #[.int .i64 k] w fun e w' => e = .returned (.int .i64 ((2 ^ k : Nat) : Int)) ∧ w = w' := by
  go_enter Tryd.func45, Tryd.ntmps45
  go_wp2_with fail
  go_loop [3, 4] (fun vn vi => ∃ i n : Nat, i ≤ k ∧ vi = .int .i64 i ∧ vn = .int .i64 n ∧ n ≤ 16777216 ∧ Hid (n = 2 ^ i)) (fun _ vi => k - (intOf vi).toNat)
  case atStart => exact ⟨0, 1, Nat.zero_le _, rfl, rfl, by omega, Lib.hid rfl⟩
  case round =>
    obtain ⟨i, n, hi, rfl, rfl, hb, HN⟩ := hrel
    by_cases hlt : i < k
    · have hn2 : n * 2 = 2 ^ (i + 1) := by rw [HN.out, Nat.pow_succ]
      have hb2 : n * 2 ≤ 16777216 := by
        rw [hn2]
        exact Nat.pow_le_pow_right (by omega) (show i + 1 ≤ 24 by omega)
      have HN2 := Lib.hid hn2
      clear hn2
      go_wp2_with fail
      go_round
      case rel => exact ⟨i + 1, n * 2, by omega, by go_num, by go_num, hb2, Lib.hid HN2.out⟩
      case measure => simp [intOf]; omega
    · obtain rfl : i = k := by omega
      go_wp2_with fail
      go_ret
      exact ⟨ret_int (by rw [HN.out]; simp), rfl⟩
theorem rIn_any (m k : Nat) (w : World) (hm : m ≤ 16777216) (hk : k ≤ 1000) :
    Calls Tryd.prog 39 #[.int .i64 m, .int .i64 k] w fun e w' => e = .returned (.bool (Cd.inS m k)) ∧ w = w' := by
  go_enter Tryd.func39, Tryd.ntmps39
  go_wp2_with fail
  go_loop [0, 5] (fun vn vi => ∃ i n : Nat, i ≤ k ∧ vi = .int .i64 i ∧ vn = .int .i64 n ∧ n ≤ 16777216 ∧ Hid (n = m / 2 ^ i)) (fun _ vi => k - (intOf vi).toNat)
  case atStart => exact ⟨0, m, Nat.zero_le _, rfl, rfl, by omega, Lib.hid (by simp)⟩
  case round =>
    obtain ⟨i, n, hi, rfl, rfl, hb, HN⟩ := hrel
    by_cases hlt : i < k
    · have hn2 : n / 2 = m / 2 ^ (i + 1) := by rw [HN.out, Nat.div_div_eq_div_mul, Nat.pow_succ]
      have HN2 := Lib.hid hn2
      clear hn2
      go_wp2_with fail
      go_round
      case rel => exact ⟨i + 1, n / 2, by omega, by go_num, by go_num, by omega, Lib.hid HN2.out⟩
      case measure => simp [intOf]; omega
    · obtain rfl : i = k := by omega
      have hs : Cd.inS m i = decide (n % 2 = 1) := by rw [Cd.inS_def, HN.out]
      have HS := Lib.hid hs
      clear hs
      rcases Nat.mod_two_eq_zero_or_one n with h | h
      · have h2 : ((n : Int) % 2 == 1) = false := by rw [beq_eq_false_iff_ne]; omega
        have hd : Cd.inS m i = false := by rw [HS.out]; simp [h]
        have HD := Lib.hid hd
        clear hd h
        go_wp2_with fail
        go_ret
        exact ⟨ret_bool (by rw [HD.out]), rfl⟩
      · have h2 : ((n : Int) % 2 == 1) = true := by rw [beq_iff_eq]; omega
        have hd : Cd.inS m i = true := by rw [HS.out]; simp [h]
        have HD := Lib.hid hd
        clear hd h
        go_wp2_with fail
        go_ret
        exact ⟨ret_bool (by rw [HD.out]), rfl⟩
theorem rIsSet_any (d gl : Int) (gs : List (List Int)) (m : Int) (G : Value) (w : World) (hG : Rs (Rs RI) w G gs) (hn : gs.length ≤ 1000000) :
    Calls Tryd.prog 37 #[.agg #[.int .i64 d, G, .int .i64 gl], .int .i64 m] w fun e w' => e = .returned (.bool (Cd.isSet d gs gl m)) ∧ Ext w w' := by
  have hx0 := (Ext.refl w).alloc (.cells #[.int .i64 d, G, .int .i64 gl] 24)
  have HX := Lib.hid (And.intro hx0 (Rs.ext (Rs.ext RI.ext) _ _ _ _ hx0 hG))
  obtain ⟨A, c, rfl, hl⟩ := hG.form
  clear hG hx0
  have hp := Cd.pieces_lt d gl gs
  by_cases h0 : 0 ≤ m
  · obtain ⟨p, hpe⟩ : ∃ p : Nat, Cd.pieces d gs gl = p := ⟨(Cd.pieces d gs gl).toNat, by omega⟩
    have hs : Cd.isSet d gs gl m = decide (m < ((2 ^ p : Nat) : Int)) := by
      unfold Cd.isSet
      rw [hpe, Int.toNat_natCast]
      simp [h0]
    have HS := Lib.hid (And.intro hs hpe)
    have hp24 : p ≤ 24 := by omega
    clear hs hpe hp
    go_enter Tryd.func37, Tryd.ntmps37
    go_wp2_with fail
    refine (rPieces_any d gl gs _ _ HX.out.2 hn).mono ?_
    rintro e w1 ⟨rfl, hx1⟩
    rw [HS.out.2]
    have HX1 := Lib.hid (HX.out.1.trans hx1)
    clear hx1
    go_wp2_with fail
    refine (rBit_any p _ hp24).mono ?_
    rintro e w2 ⟨rfl, rfl⟩
    obtain ⟨q, hq⟩ : ∃ q : Nat, 2 ^ p = q := ⟨_, rfl⟩
    have hs := HS.out.1
    rw [hq] at hs ⊢
    have HS2 := Lib.hid hs
    clear hs hq
    go_wp2_with fail
    go_ret
    exact ⟨ret_bool HS2.out.symm, HX1.out⟩
  · have hs : Cd.isSet d gs gl m = false := by
      unfold Cd.isSet
      simp [h0]
    have HS := Lib.hid hs
    clear hs hp
    go_enter Tryd.func37, Tryd.ntmps37
    go_wp2_with fail
    go_ret
    exact ⟨ret_bool HS.out.symm, HX.out.1⟩
end Go.Proofs.YtdbolgollpnfdaaDoor

/- THE WALKS over the specification of codes: row, Rows, part. -/
namespace Cd
open Gf
/-- A coefficient of a piece's row. -/
def rowAt (d : Nat) (gs : List (List Int)) (k i : Nat) : UInt8 := if k < d then unitAt k i else if k < d + gs.length then inAt (setOf 0 (gs.getD (k - d) [])) i else gloAt (k - d - gs.length) i
theorem rowAt_unit {d k : Nat} (gs : List (List Int)) (i : Nat) (h : k < d) : rowAt d gs k i = unitAt k i := if_pos h
theorem rowAt_in {d k : Nat} {gs : List (List Int)} (i : Nat) (h : ¬ k < d) (h2 : k < d + gs.length) : rowAt d gs k i = inAt (setOf 0 (gs.getD (k - d) [])) i := by rw [rowAt, if_neg h, if_pos h2]
theorem rowAt_glo {d k : Nat} {gs : List (List Int)} (i : Nat) (h2 : ¬ k < d + gs.length) : rowAt d gs k i = gloAt (k - d - gs.length) i := by rw [rowAt, if_neg (by omega), if_neg h2]
theorem rows_get {d gl k : Nat} {gs : List (List Int)} (h : k < d + gs.length + gl) : (rows d gs gl).getD k [] = (List.range d).map (rowAt d gs k) := by
  have hr : ∀ g : Nat → UInt8, (∀ i, rowAt d gs k i = g i) → rowOf d g = (List.range d).map (rowAt d gs k) := fun g hg => by
    unfold rowOf
    congr 1
    funext i
    rw [hg i]
  rw [← rows_parts, List.getD_eq_getElem?_getD]
  by_cases h1 : k < d
  · rw [List.getElem?_append_left (by rw [List.length_append, rows1_length]; omega), List.getElem?_append_left (by rw [rows1_length]; exact h1)]
    unfold rows1
    rw [List.getElem?_map, List.getElem?_range h1]
    exact hr _ fun i => rowAt_unit gs i h1
  · by_cases h2 : k < d + gs.length
    · rw [List.getElem?_append_left (by rw [List.length_append, rows1_length, rows2_length]; exact h2), List.getElem?_append_right (by rw [rows1_length]; omega), rows1_length]
      unfold rows2
      rw [List.getElem?_map, List.getElem?_eq_getElem (by omega)]
      refine hr _ fun i => ?_
      rw [rowAt_in i h1 h2, List.getD_eq_getElem?_getD, List.getElem?_eq_getElem (by omega)]
      rfl
    · rw [List.getElem?_append_right (by rw [List.length_append, rows1_length, rows2_length]; omega), List.length_append, rows1_length, rows2_length]
      unfold rows3
      rw [List.getElem?_map, List.getElem?_range (by omega)]
      refine hr _ fun i => ?_
      rw [rowAt_glo i h2]
      show gloAt _ i = gloAt _ i
      rw [show k - d - gs.length = k - (d + gs.length) from by omega]
theorem inAt_set {d : Nat} {g : List Int} (hg : ∀ i ∈ g, 0 ≤ i ∧ i < (d : Int)) (i : Nat) : inAt (setOf 0 g) i = if (i : Int) ∈ g then 1 else 0 := by
  have h := bit_set g 0 i fun j hj => (hg j hj).1
  unfold inAt
  have h0 : ¬ bitAt 0 i = 1 := by simp [bitAt]
  by_cases hm : (i : Int) ∈ g
  · rw [if_pos hm, h.2 (.inr hm)]; rfl
  · rw [if_neg hm]
    have h1 : bitAt (setOf 0 g) i ≠ 1 := fun e => by rcases h.1 e with h2 | h2; exact h0 h2; exact hm h2
    have h2 : bitAt (setOf 0 g) i = 0 := by rcases bit_01 (setOf 0 g) i with h2 | h2; exact h2; exact absurd h2 h1
    rw [h2]; rfl
theorem glo_val {i j : Nat} : (gloAt j i).toNat = powN 2 (i * (j + 1) % 255) := by
  unfold gloAt
  rw [UInt8.toNat_ofNat', Nat.mod_eq_of_lt (powN_lt _)]
attribute [irreducible] rowAt
end Cd
namespace Go.Proofs.YtdbolgollpnfdaaDoor
open Go.RowKit
theorem own_older {w : World} {B B' e s n : Nat} {v : Value} {xs : List Value} (h : w.ownsRow B' e s v n xs) (hb : B ≤ B') : w.ownsRow B e s v n xs := by
  refine ⟨h.1, ?_⟩
  rcases h.2 with h2 | ⟨g, cap, cur, hv, hB, rest⟩
  · exact .inl h2
  · exact .inr ⟨g, cap, cur, hv, Nat.le_trans hb hB, rest⟩
theorem Rd.range {w : World} {A : Option Addr} {d : Nat} {g : Nat → UInt8} {l : List UInt8} (h : Rd w A (((List.range d).map g).map bv)) (hl : (List.range d).map g = l) : Rd w A (l.map bv) := hl ▸ h

set_option maxHeartbeats 4000000 in
theorem rRow_ok (d gl k : Nat) (gs : List (List Int)) (G : Value) (w : World) (hG : Rs (Rs RI) w G gs) (h0 : Cd.check d gs gl = 0) (hk : k < d + gs.length + gl) :
    Calls Tryd.prog 40 #[.agg #[.int .i64 d, G, .int .i64 gl], .int .i64 k] w fun e w' => ∃ A c, e = .returned (.slice A d c) ∧ Ext w w' ∧ w'.ownsRow w.heap.size 5 1 (.slice A d c) d (((List.range d).map (Cd.rowAt d gs k)).map bv) := by
  have hx0 := (Ext.refl w).alloc (.cells #[.int .i64 d, G, .int .i64 gl] 24)
  have HX := Lib.hid (And.intro hx0 (Rs.ext (Rs.ext RI.ext) _ _ _ _ hx0 hG))
  obtain ⟨GA, Gc, rfl, hgl⟩ := hG.form
  have hck := Cd.check_ok h0
  obtain ⟨k1, k2, k3, k4, k5, k6⟩ := hck
  have HGO := Lib.hid (Cd.check_groups_ok h0)
  clear hG hx0 h0
  go_enter Tryd.func40, Tryd.ntmps40
  go_wp2_with fail
  go_loopw [5, 6] (fun vo vi wr => ∃ (i : Nat) (A : Option Addr) (cp : Nat), i ≤ d ∧ vi = .int .i64 i ∧ vo = .slice A i cp ∧ Hid (Ext (w.alloc (.cells #[.int .i64 d, .slice GA gs.length Gc, .int .i64 gl] 24)) wr ∧ wr.ownsRow (w.alloc (.cells #[.int .i64 d, .slice GA gs.length Gc, .int .i64 gl] 24)).heap.size 5 1 (.slice A i cp) i (((List.range i).map (Cd.rowAt d gs k)).map bv))) (fun _ vi _ => d - (intOf vi).toNat)
  case atStart => exact ⟨0, none, 0, Nat.zero_le _, rfl, rfl, Lib.hid (And.intro (Ext.refl _) (World.ownsRow_nil _ _ _ _))⟩
  case round =>
    obtain ⟨i, A, cp, hi, rfl, rfl, HR⟩ := hrel
    have hc0 : wr.cell? ⟨w.heap.size, 0, none⟩ = some (.int .i64 d) := HR.out.1.cell (by go_simp)
    have hc1 : wr.cell? ⟨w.heap.size, 1, none⟩ = some (.slice GA gs.length Gc) := HR.out.1.cell (by go_simp)
    by_cases hlt : i < d
    · by_cases hkd : k < d
      · by_cases hik : i = k
        · have e1 : ((i : Int) == (k : Int)) = true := by rw [beq_iff_eq]; omega
          have hval : Value.int .u8 1 = bv (Cd.rowAt d gs k i) := by rw [Cd.rowAt_unit gs i hkd, hik, Cd.unitAt_eq]; rfl
          clear hik
          have HVAL := Lib.hid hval
          clear hval
          go_wp2_with (at_builtin; refine wpl_append_new (w.alloc (.cells #[.int .i64 d, .slice GA gs.length Gc, .int .i64 gl] 24)) 63 5 rfl _ _ rfl Tryd.underlying63 info_u8 rfl rfl HR.out.2 HR.out.1 rfl rfl (by omega) (by omega) ?_; intro A' c' w2 ho hx _)
          have ho' : w2.ownsRow (w.alloc (.cells #[.int .i64 d, .slice GA gs.length Gc, .int .i64 gl] 24)).heap.size 5 1 (.slice A' (i + 1) c') (i + 1) (((List.range (i + 1)).map (Cd.rowAt d gs k)).map bv) := by
            rw [← map_range_succ (Cd.rowAt d gs k), ← HVAL.out]
            exact ho
          have HO := Lib.hid (And.intro hx ho')
          clear hx ho ho' hc0 hc1
          go_wp2_with fail
          go_roundw
          case rel => exact ⟨i + 1, A', c', by omega, by go_num, rfl, HO.out⟩
          case measure => simp [intOf]; omega
        · have e1 : ((i : Int) == (k : Int)) = false := by rw [beq_eq_false_iff_ne]; omega
          have hval : Value.int .u8 0 = bv (Cd.rowAt d gs k i) := by rw [Cd.rowAt_unit gs i hkd, Cd.unitAt_ne hik]; rfl
          clear hik
          have HVAL := Lib.hid hval
          clear hval
          go_wp2_with (at_builtin; refine wpl_append_new (w.alloc (.cells #[.int .i64 d, .slice GA gs.length Gc, .int .i64 gl] 24)) 63 5 rfl _ _ rfl Tryd.underlying63 info_u8 rfl rfl HR.out.2 HR.out.1 rfl rfl (by omega) (by omega) ?_; intro A' c' w2 ho hx _)
          have ho' : w2.ownsRow (w.alloc (.cells #[.int .i64 d, .slice GA gs.length Gc, .int .i64 gl] 24)).heap.size 5 1 (.slice A' (i + 1) c') (i + 1) (((List.range (i + 1)).map (Cd.rowAt d gs k)).map bv) := by
            rw [← map_range_succ (Cd.rowAt d gs k), ← HVAL.out]
            exact ho
          have HO := Lib.hid (And.intro hx ho')
          clear hx ho ho' hc0 hc1
          go_wp2_with fail
          go_roundw
          case rel => exact ⟨i + 1, A', c', by omega, by go_num, rfl, HO.out⟩
          case measure => simp [intOf]; omega
      · by_cases hkg : k < d + gs.length
        · have hlk : k - d < gs.length := by omega
          obtain ⟨ad, u, rfl, hcell, hu⟩ := (Rs.ext (Rs.ext RI.ext) _ _ _ _ HR.out.1 HX.out.2).at hlk
          obtain ⟨B, cB, rfl, hlB⟩ := hu.form
          have hgb := HGO.out gs[k - d] (List.getElem_mem hlk)
          have hra := Cd.rowAt_in (gs := gs) i hkd hkg
          rw [getD_get hlk] at hra
          obtain ⟨g, hg⟩ : ∃ g, gs[k - d] = g := ⟨_, rfl⟩
          rw [hg] at hcell hu hlB hgb hra
          rw [Cd.inAt_set (d := d) hgb] at hra
          have HU := Lib.hid hu
          have HRA := Lib.hid hra
          clear hu hgb hra hg
          by_cases hm : (i : Int) ∈ g
          · have e4 : decide ((i : Int) ∈ g) = true := by simpa using hm
            have hval : Value.int .u8 1 = bv (Cd.rowAt d gs k i) := by rw [HRA.out, if_pos hm]; rfl
            clear hm
            have HVAL := Lib.hid hval
            clear hval
            go_wp2_with fail
            refine (rHas_any g i _ _ _ _ HU.out).mono ?_
            rintro e w1 ⟨rfl, rfl⟩
            rw [e4]
            go_wp2_with (at_builtin; refine wpl_append_new (w.alloc (.cells #[.int .i64 d, .slice (some ad) gs.length Gc, .int .i64 gl] 24)) 63 5 rfl _ _ rfl Tryd.underlying63 info_u8 rfl rfl HR.out.2 HR.out.1 rfl rfl (by omega) (by omega) ?_; intro A' c' w2 ho hx _)
            have ho' : w2.ownsRow (w.alloc (.cells #[.int .i64 d, .slice (some ad) gs.length Gc, .int .i64 gl] 24)).heap.size 5 1 (.slice A' (i + 1) c') (i + 1) (((List.range (i + 1)).map (Cd.rowAt d gs k)).map bv) := by
              rw [← map_range_succ (Cd.rowAt d gs k), ← HVAL.out]
              exact ho
            have HO := Lib.hid (And.intro hx ho')
            clear hx ho ho' hc0 hc1
            go_wp2_with fail
            go_roundw
            case rel => exact ⟨i + 1, A', c', by omega, by go_num, rfl, HO.out⟩
            case measure => simp [intOf]; omega
          · have e4 : decide ((i : Int) ∈ g) = false := by simpa using hm
            have hval : Value.int .u8 0 = bv (Cd.rowAt d gs k i) := by rw [HRA.out, if_neg hm]; rfl
            clear hm
            have HVAL := Lib.hid hval
            clear hval
            go_wp2_with fail
            refine (rHas_any g i _ _ _ _ HU.out).mono ?_
            rintro e w1 ⟨rfl, rfl⟩
            rw [e4]
            go_wp2_with (at_builtin; refine wpl_append_new (w.alloc (.cells #[.int .i64 d, .slice (some ad) gs.length Gc, .int .i64 gl] 24)) 63 5 rfl _ _ rfl Tryd.underlying63 info_u8 rfl rfl HR.out.2 HR.out.1 rfl rfl (by omega) (by omega) ?_; intro A' c' w2 ho hx _)
            have ho' : w2.ownsRow (w.alloc (.cells #[.int .i64 d, .slice (some ad) gs.length Gc, .int .i64 gl] 24)).heap.size 5 1 (.slice A' (i + 1) c') (i + 1) (((List.range (i + 1)).map (Cd.rowAt d gs k)).map bv) := by
              rw [← map_range_succ (Cd.rowAt d gs k), ← HVAL.out]
              exact ho
            have HO := Lib.hid (And.intro hx ho')
            clear hx ho ho' hc0 hc1
            go_wp2_with fail
            go_roundw
            case rel => exact ⟨i + 1, A', c', by omega, by go_num, rfl, HO.out⟩
            case measure => simp [intOf]; omega
        · obtain ⟨j, hj⟩ : ∃ j, k - d - gs.length = j := ⟨_, rfl⟩
          obtain ⟨m, hm⟩ : ∃ m, i * (j + 1) = m := ⟨_, rfl⟩
          have hj4 : j < 4 := by omega
          have hi16 : i < 16 := by omega
          have hm64 : m < 64 := by
            have := Nat.mul_le_mul (show i ≤ 15 by omega) (show j + 1 ≤ 4 by omega)
            omega
          have hmul : (i : Int) * ((k : Int) - (d : Int) - (gs.length : Int) + 1) = (m : Int) := by
            rw [← hm, Int.natCast_mul]
            congr 1
            omega
          have hval : Value.int .u8 (Gf.powN 2 m : Nat) = bv (Cd.rowAt d gs k i) := by
            rw [Cd.rowAt_glo i hkg, hj]
            show _ = Value.int .u8 ((Cd.gloAt j i).toNat : Int)
            rw [Cd.glo_val, hm, Nat.mod_eq_of_lt (by omega)]
          have hm2 : ((m : Int) % 255).toNat = m := by omega
          clear hj hm
          have HVAL := Lib.hid hval
          clear hval
          go_wp2_with fail
          refine (rexp (m : Int) _ (by omega) (by omega)).mono ?_
          rintro e w1 ⟨rfl, rfl⟩
          rw [hm2]
          go_wp2_with (at_builtin; refine wpl_append_new (w.alloc (.cells #[.int .i64 d, .slice GA gs.length Gc, .int .i64 gl] 24)) 63 5 rfl _ _ rfl Tryd.underlying63 info_u8 rfl rfl HR.out.2 HR.out.1 rfl rfl (by omega) (by omega) ?_; intro A' c' w2 ho hx _)
          have ho' : w2.ownsRow (w.alloc (.cells #[.int .i64 d, .slice GA gs.length Gc, .int .i64 gl] 24)).heap.size 5 1 (.slice A' (i + 1) c') (i + 1) (((List.range (i + 1)).map (Cd.rowAt d gs k)).map bv) := by
            rw [← map_range_succ (Cd.rowAt d gs k), ← HVAL.out]
            exact ho
          have HO := Lib.hid (And.intro hx ho')
          clear hx ho ho' hc0 hc1
          go_wp2_with fail
          go_roundw
          case rel => exact ⟨i + 1, A', c', by omega, by go_num, rfl, HO.out⟩
          case measure => simp [intOf]; omega
    · obtain rfl : i = d := by omega
      go_wp2_with fail
      go_ret
      exact ⟨A, cp, rfl, HX.out.1.trans HR.out.1, own_older HR.out.2 HX.out.1.size⟩
end Go.Proofs.YtdbolgollpnfdaaDoor

/- THE WALKS over the specification of codes: Rows, part, Encode, SameRows, SameTexts, Few. -/
namespace Cd
end Cd
namespace Go.Proofs.YtdbolgollpnfdaaDoor
open Go.RowKit
/-- A row of bytes that a call has made. -/
def byteRow (A : Option Addr) (c : Nat) (r : List UInt8) : LRow := ⟨.slice A r.length c, 5, 1, r.length, r.map bv⟩
/-- Rows of bytes that a call has made, and the list of them. -/
def RowsOwn (w0 w : World) (A : Option Addr) (n c : Nat) (rs : List (List UInt8)) : Prop :=
  ∃ L : List LRow, n = rs.length ∧ L.length = rs.length ∧ (∀ (j : Nat) (r : List UInt8), rs[j]? = some r → ∃ A2 c2, L[j]? = some (byteRow A2 c2 r)) ∧ Owns w0 w (⟨.slice A n c, 63, 1, n, L.map (·.v)⟩ :: L)
/-- The same with one row more, that is not in the list yet. -/
def RowsMore (w0 w : World) (A : Option Addr) (n c : Nat) (rs : List (List UInt8)) (A2 : Option Addr) (c2 : Nat) (r : List UInt8) : Prop :=
  ∃ L : List LRow, n = rs.length ∧ L.length = rs.length ∧ (∀ (j : Nat) (r : List UInt8), rs[j]? = some r → ∃ A2 c2, L[j]? = some (byteRow A2 c2 r)) ∧ Owns w0 w ((⟨.slice A n c, 63, 1, n, L.map (·.v)⟩ :: L) ++ [byteRow A2 c2 r])
theorem RowsOwn.nil (w : World) : RowsOwn w w none 0 0 [] := ⟨[], rfl, rfl, fun j r h => by simp at h, Owns.start w (by intro r hr; simp at hr; subst hr; exact ⟨rfl, rfl, rfl⟩)⟩
theorem RowsOwn.next {w0 w w' : World} {A : Option Addr} {n c : Nat} {rs : List (List UInt8)} (h : RowsOwn w0 w A n c rs) (hx : Ext w w') : RowsOwn w0 w' A n c rs := by
  obtain ⟨L, h1, h2, h3, h4⟩ := h
  exact ⟨L, h1, h2, h3, h4.next hx⟩
theorem RowsOwn.ext {w0 w : World} {A : Option Addr} {n c : Nat} {rs : List (List UInt8)} (h : RowsOwn w0 w A n c rs) : Ext w0 w := by
  obtain ⟨L, h1, h2, h3, h4⟩ := h
  exact h4.ext
theorem RowsOwn.older {w wb wr : World} {A : Option Addr} {n c : Nat} {rs : List (List UInt8)} (h : RowsOwn wb wr A n c rs) (hx : Ext w wb) : RowsOwn w wr A n c rs := by
  obtain ⟨L, h1, h2, h3, h4⟩ := h
  exact ⟨L, h1, h2, h3, h4.older hx⟩
theorem RowsOwn.more {w0 w w2 : World} {A A2 : Option Addr} {n c c2 : Nat} {rs : List (List UInt8)} {r : List UInt8} (h : RowsOwn w0 w A n c rs) (hx : Ext w w2) (ho : w2.ownsRow w.heap.size 5 1 (.slice A2 r.length c2) r.length (r.map bv)) : RowsMore w0 w2 A n c rs A2 c2 r := by
  obtain ⟨L, h1, h2, h3, h4⟩ := h
  exact ⟨L, h1, h2, h3, h4.behind hx ho⟩
theorem RowsOwn.rs {w0 w : World} {A : Option Addr} {n c : Nat} {rs : List (List UInt8)} (h : RowsOwn w0 w A n c rs) (hl : rs.length ≤ 9223372036854775807) (hw : ∀ r ∈ rs, r.length ≤ 9223372036854775807) : Rs (Rs RB) w (.slice A n c) rs := by
  obtain ⟨L, rfl, h2, h3, h4⟩ := h
  refine ⟨A, c, rfl, hl, fun i r hi => ?_⟩
  obtain ⟨A2, c2, hL⟩ := h3 i r hi
  have hv : (L.map (·.v))[i]? = some (.slice A2 r.length c2) := by rw [List.getElem?_map, hL]; rfl
  obtain ⟨ad, e1, _, e3⟩ := h4.rd 0 rfl i _ hv
  exact ⟨ad, _, e1, e3, Rs.of_rd (h4.rd (i + 1) (n := r.length) hL) (hw r (List.mem_of_getElem? hi))⟩
/-- 'out = append(out, r)': a row of bytes that is the call's own. -/
theorem wpl_append_row {P : Program} {w0 w : World} {e' : TypeId} {ops : Array Oper} {rest : List Oper} {o : Oper} {a : Act} {Q : Exit → Act → World → Prop} (t : TypeId) (hgd : o.guard = none) (s x : Operand)
    (ho : o.op = .call { callee := .builtin .append, args := #[s, x], argTypes := #[t, t] })
    {z : Value} (ht : P.underlying t = some (.slice 63)) (hi : (P.info? 63).map (fun i => (i.zero, i.size, i.bytes)) = some (some z, 1, 24)) (hz1 : z.cells.size = 1)
    {A A2 : Option Addr} {n c c2 m : Nat} {rs : List (List UInt8)} {r : List UInt8} (h : RowsMore w0 w A n c rs A2 c2 r) (hm : m = r.length) (hs : a.eval s = .slice A n c)
    (hx : a.eval x = .slice (some ⟨w.heap.size, 0, none⟩) 1 1) (hn : n < 1000000000000)
    (hK : ∀ A' c' w', RowsOwn w0 w' A' (n + 1) c' (rs ++ [r]) → wpList P ops Q rest (a.put o.dst (.slice A' (n + 1) c')) w') :
    wpList P ops Q (o :: rest) a (w.alloc (.cells #[.slice A2 m c2] e')) := by
  subst hm
  obtain ⟨L, h1, h2, h3, h4⟩ := h
  refine wpl_append_owns (u := .slice A2 r.length c2) t 63 hgd s x ho ht hi hz1 (h4.push1 (e := e')) 0 rfl hs hx (cell_of_row _ _ 0 #[_] e' (0, 0) (heap_new w _)) rfl hn (by decide) ?_
  intro g cap w' hO _
  refine hK _ _ _ ⟨L ++ [byteRow A2 c2 r], by simp [h1], by simp [h2], fun j q hj => ?_, ?_⟩
  · rw [List.getElem?_append] at hj ⊢
    rw [h2]
    split
    · rename_i hlt
      rw [if_pos hlt] at hj
      exact h3 j q hj
    · rename_i hlt
      rw [if_neg hlt] at hj
      cases hk : j - rs.length with
      | zero =>
        rw [hk] at hj
        simp at hj
        subst hj
        exact ⟨A2, c2, rfl⟩
      | succ k => rw [hk] at hj; simp at hj
  · have h5 := hO.sublist (L' := ⟨.slice (some ⟨g, 0, none⟩) (n + 1) cap, 63, 1, n + 1, L.map (·.v) ++ [.slice A2 r.length c2]⟩ :: (L ++ [byteRow A2 c2 r])) (by simp)
    simpa [byteRow] using h5
theorem rs_nil {α : Type} (R : World → Value → α → Prop) (w : World) : Rs R w (.slice none 0 0) [] := ⟨none, 0, rfl, by simp, fun i x h => by simp at h⟩
end Go.Proofs.YtdbolgollpnfdaaDoor

/- A DRAWN REGION BY AN INVARIANT, with slots that it reads and writes. -/
namespace Go.Proofs.YtdbolgollpnfdaaDoor
open Go.RowKit
/-- As Inv, and a slot whose operation is not done is as it was. -/
structure InvO (dsts : List (Option Nat)) (vals : List Value) (a0 : Act) (L : Nat → Bool) (a : Act) : Prop where
  inv : Inv dsts vals a0 L a
  old : ∀ i t, dsts[i]? = some (some t) → L i = false → a.eval (.tmp t) = a0.eval (.tmp t)
theorem InvO.start {dsts : List (Option Nat)} {vals : List Value} {a0 : Act} : InvO dsts vals a0 (fun _ => false) a0 := ⟨Inv.start, fun _ _ _ _ => rfl⟩
theorem InvO.put {dsts : List (Option Nat)} {vals : List Value} {a0 a : Act} {L : Nat → Bool} (h : InvO dsts vals a0 L a) (hap : apartD dsts = true) (i : Nat) {d : Nat} {v : Value} (hd : dsts[i]? = some (some d)) (hds : d < a0.tmps.size) (hi : i < vals.length) {vals' : List Value} (hv : vals' = vals.set i v) : InvO dsts vals' a0 (upd L i) (a.put (some d) v) := by
  refine ⟨h.inv.put hap i hd hds hi hv, ?_⟩
  intro j t hj hL
  unfold upd at hL
  split at hL
  · cases hL
  · rename_i hji
    rw [eval_put_ne]
    · exact h.old j t hj hL
    · rintro rfl
      exact hji (apartD_spec hap hj hd)
theorem InvO.reset {dsts : List (Option Nat)} {vals : List Value} {a0 a : Act} {L : Nat → Bool} (h : InvO dsts vals a0 L a) (i : Nat) (hL : L i = false) (v : Value) : InvO dsts (vals.set i v) a0 L a := ⟨h.inv.reset i hL v, h.old⟩
theorem InvO.get {dsts : List (Option Nat)} {vals : List Value} {a0 a : Act} {L : Nat → Bool} (h : InvO dsts vals a0 L a) (i : Nat) {d : Nat} {v : Value} (hd : dsts[i]? = some (some d)) (hv : vals[i]? = some v) (hL : L i = true) : a.eval (.tmp d) = v := h.inv.get i hd hv hL
theorem InvO.fixed {dsts : List (Option Nat)} {vals : List Value} {a0 a : Act} {L : Nat → Bool} (h : InvO dsts vals a0 L a) (t : Nat) (ht : dsts.contains (some t) = false) : a.eval (.tmp t) = a0.eval (.tmp t) := h.inv.fixed t ht
theorem InvO.size {dsts : List (Option Nat)} {vals : List Value} {a0 a : Act} {L : Nat → Bool} (h : InvO dsts vals a0 L a) : a.tmps.size = a0.tmps.size := h.inv.size
theorem InvO.defers {dsts : List (Option Nat)} {vals : List Value} {a0 a : Act} {L : Nat → Bool} (h : InvO dsts vals a0 L a) : a.defers = a0.defers := h.inv.defers
end Go.Proofs.YtdbolgollpnfdaaDoor

/- THE SPECIFICATION'S RANK of rows, in plain terms: it is the number of columns exactly if the rows span all. -/
namespace Cd
open Gf
/-- A row from which a multiple of another one was taken, so that it is 0 at a place. -/
def lessR (r o : List UInt8) (a : Nat) : List UInt8 := (List.range r.length).map fun k => r.getD k 0 ^^^ mul (mul (r.getD a 0) (inv (o.getD a 0))) (o.getD k 0)
theorem lessR_len (r o : List UInt8) (a : Nat) : (lessR r o a).length = r.length := by simp [lessR]
theorem lessR_get {r o : List UInt8} {a k : Nat} (h : k < r.length) : (lessR r o a).getD k 0 = r.getD k 0 ^^^ mul (mul (r.getD a 0) (inv (o.getD a 0))) (o.getD k 0) := getD_map_range _ _ h
theorem lessR_zero {r o : List UInt8} {a : Nat} (h : a < r.length) (ho : o.getD a 0 ≠ 0) : (lessR r o a).getD a 0 = 0 := by
  rw [lessR_get h, mul_assoc, inv_mul ho, mul_one]
  exact UInt8.xor_self
theorem lessR_keep {r o : List UInt8} {a j : Nat} (h : j < r.length) (hr : r.getD j 0 = 0) (ho : o.getD j 0 = 0) : (lessR r o a).getD j 0 = 0 := by
  rw [lessR_get h, hr, ho, mul_zero]
  exact UInt8.xor_self
/-- The first row of the first k that is not 0 at a place. -/
def pivTo (l : List (List UInt8)) (a : Nat) : Nat → Option Nat
  | 0 => none
  | k + 1 => match pivTo l a k with
    | some p => some p
    | none => if (l.getD k []).getD a 0 = 0 then none else some k
theorem pivTo_old {l : List (List UInt8)} {a k p : Nat} (h : pivTo l a k = some p) : pivTo l a (k + 1) = some p := by rw [pivTo, h]
theorem pivTo_no {l : List (List UInt8)} {a k : Nat} (h : pivTo l a k = none) (h2 : (l.getD k []).getD a 0 = 0) : pivTo l a (k + 1) = none := by rw [pivTo, h]; exact if_pos h2
theorem pivTo_yes {l : List (List UInt8)} {a k : Nat} (h : pivTo l a k = none) (h2 : (l.getD k []).getD a 0 ≠ 0) : pivTo l a (k + 1) = some k := by rw [pivTo, h]; exact if_neg h2
theorem pivTo_spec {l : List (List UInt8)} {a p : Nat} : ∀ {k : Nat}, pivTo l a k = some p → p < k ∧ (l.getD p []).getD a 0 ≠ 0
  | 0, h => by cases h
  | k + 1, h => by
    cases hk : pivTo l a k with
    | some q =>
      rw [pivTo_old hk] at h
      injection h with h
      subst h
      have := pivTo_spec hk
      exact ⟨by omega, this.2⟩
    | none =>
      by_cases h2 : (l.getD k []).getD a 0 = 0
      · rw [pivTo_no hk h2] at h; cases h
      · rw [pivTo_yes hk h2] at h
        injection h with h
        subst h
        exact ⟨by omega, h2⟩
theorem pivTo_none {l : List (List UInt8)} {a : Nat} : ∀ {k : Nat}, pivTo l a k = none → ∀ j, j < k → (l.getD j []).getD a 0 = 0
  | 0, _, j, hj => by omega
  | k + 1, h, j, hj => by
    cases hk : pivTo l a k with
    | some q => rw [pivTo_old hk] at h; cases h
    | none =>
      by_cases h2 : (l.getD k []).getD a 0 = 0
      · by_cases hjk : j = k
        · rw [hjk]; exact h2
        · exact pivTo_none hk j (by omega)
      · rw [pivTo_yes hk h2] at h; cases h
theorem pivTo_mono {l : List (List UInt8)} {a p k : Nat} (h : pivTo l a k = some p) : ∀ {m : Nat}, k ≤ m → pivTo l a m = some p
  | 0, hm => by
    obtain rfl : k = 0 := by omega
    exact h
  | m + 1, hm => by
    by_cases he : k = m + 1
    · rw [← he]; exact h
    · exact pivTo_old (pivTo_mono h (by omega))
/-- The rows but p, of the first m. -/
def restTo (l : List (List UInt8)) (p a : Nat) : Nat → List (List UInt8)
  | 0 => []
  | m + 1 => if m = p then restTo l p a m else restTo l p a m ++ [lessR (l.getD m []) (l.getD p []) a]
theorem restTo_skip (l : List (List UInt8)) (p a : Nat) : restTo l p a (p + 1) = restTo l p a p := by rw [restTo, if_pos rfl]
theorem restTo_next {l : List (List UInt8)} {p a m : Nat} (h : m ≠ p) : restTo l p a (m + 1) = restTo l p a m ++ [lessR (l.getD m []) (l.getD p []) a] := by rw [restTo, if_neg h]
theorem restTo_mem {l : List (List UInt8)} {p a : Nat} {x : List UInt8} : ∀ {m : Nat}, x ∈ restTo l p a m ↔ ∃ k, k < m ∧ k ≠ p ∧ x = lessR (l.getD k []) (l.getD p []) a
  | 0 => by simp [restTo]
  | m + 1 => by
    by_cases h : m = p
    · subst h
      rw [restTo_skip, restTo_mem]
      constructor
      · rintro ⟨k, h1, h2, h3⟩; exact ⟨k, by omega, h2, h3⟩
      · rintro ⟨k, h1, h2, h3⟩; exact ⟨k, by omega, h2, h3⟩
    · rw [restTo_next h, List.mem_append, List.mem_singleton, restTo_mem]
      constructor
      · rintro (⟨k, h1, h2, h3⟩ | h3)
        · exact ⟨k, by omega, h2, h3⟩
        · exact ⟨m, by omega, h, h3⟩
      · rintro ⟨k, h1, h2, h3⟩
        by_cases hk : k = m
        · subst hk; exact .inr h3
        · exact .inl ⟨k, by omega, h2, h3⟩
theorem restTo_len (l : List (List UInt8)) (p a : Nat) : ∀ m, (restTo l p a m).length ≤ m
  | 0 => Nat.le_refl _
  | m + 1 => by
    have ih := restTo_len l p a m
    by_cases h : m = p
    · subst h; rw [restTo_skip]; omega
    · rw [restTo_next h]; simp; omega
/-- The rows that are left, and the rank, after the first a columns. -/
def rankTo (l : List (List UInt8)) : Nat → List (List UInt8) × Nat
  | 0 => (l, 0)
  | a + 1 => match pivTo (rankTo l a).1 a (rankTo l a).1.length with
    | none => rankTo l a
    | some p => (restTo (rankTo l a).1 p a (rankTo l a).1.length, (rankTo l a).2 + 1)
def rankR (l : List (List UInt8)) (n : Nat) : Nat := (rankTo l n).2
theorem rankTo_no {l : List (List UInt8)} {a : Nat} (h : pivTo (rankTo l a).1 a (rankTo l a).1.length = none) : rankTo l (a + 1) = rankTo l a := by rw [rankTo, h]
theorem rankTo_yes {l : List (List UInt8)} {a p : Nat} (h : pivTo (rankTo l a).1 a (rankTo l a).1.length = some p) : rankTo l (a + 1) = (restTo (rankTo l a).1 p a (rankTo l a).1.length, (rankTo l a).2 + 1) := by rw [rankTo, h]
theorem rankTo_le (l : List (List UInt8)) : ∀ a, (rankTo l a).2 ≤ a
  | 0 => Nat.le_refl _
  | a + 1 => by
    have ih := rankTo_le l a
    cases h : pivTo (rankTo l a).1 a (rankTo l a).1.length with
    | none => rw [rankTo_no h]; omega
    | some p => rw [rankTo_yes h]; show _ + 1 ≤ _; omega
theorem rankTo_size (l : List (List UInt8)) : ∀ a, (rankTo l a).1.length ≤ l.length
  | 0 => Nat.le_refl _
  | a + 1 => by
    have ih := rankTo_size l a
    cases h : pivTo (rankTo l a).1 a (rankTo l a).1.length with
    | none => rw [rankTo_no h]; exact ih
    | some p =>
      rw [rankTo_yes h]
      have := restTo_len (rankTo l a).1 p a (rankTo l a).1.length
      show (restTo _ _ _ _).length ≤ _
      omega
theorem getD_mem {α : Type} {l : List α} {k : Nat} {x : α} (h : k < l.length) : l.getD k x ∈ l := by
  rw [List.getD_eq_getElem?_getD, List.getElem?_eq_getElem h]
  exact List.getElem_mem h
/-- The rows that are left have n elements, and are 0 ahead of the column. -/
theorem rankTo_zero {l : List (List UInt8)} {n : Nat} (hl : ∀ r ∈ l, r.length = n) : ∀ a, a ≤ n → ∀ r ∈ (rankTo l a).1, r.length = n ∧ ∀ j, j < a → r.getD j 0 = 0
  | 0, _, r, hr => ⟨hl r hr, fun j hj => by omega⟩
  | a + 1, ha, r, hr => by
    have ih := rankTo_zero hl a (by omega)
    cases h : pivTo (rankTo l a).1 a (rankTo l a).1.length with
    | none =>
      rw [rankTo_no h] at hr
      refine ⟨(ih r hr).1, fun j hj => ?_⟩
      by_cases hja : j = a
      · obtain ⟨k, hk, rfl⟩ := List.getElem_of_mem hr
        have := pivTo_none h k hk
        rw [List.getD_eq_getElem?_getD (l := (rankTo l a).1), List.getElem?_eq_getElem hk] at this
        rw [hja]
        exact this
      · exact (ih r hr).2 j (by omega)
    | some p =>
      rw [rankTo_yes h] at hr
      obtain ⟨k, h1, h2, rfl⟩ := restTo_mem.1 hr
      obtain ⟨p1, p2⟩ := pivTo_spec h
      have i1 := ih _ (getD_mem h1 (x := []))
      have i2 := ih _ (getD_mem p1 (x := []))
      refine ⟨by rw [lessR_len]; exact i1.1, fun j hj => ?_⟩
      by_cases hja : j = a
      · subst hja
        exact lessR_zero (by rw [i1.1]; omega) p2
      · exact lessR_keep (by rw [i1.1]; omega) (i1.2 j (by omega)) (i2.2 j (by omega))
theorem span_zero {n a : Nat} {L : List (List UInt8)} {v : Nat → UInt8} (hz : ∀ x ∈ L, x.getD a 0 = 0) (h : SpanL n L v) (ha : a < n) : v a = 0 := by
  obtain ⟨c, hc⟩ := h
  rw [hc a ha]
  refine sm_zero fun j hj => ?_
  show mul (c j) (vec (L.getD j []) a) = 0
  have : vec (L.getD j []) a = 0 := hz _ (getD_mem hj)
  rw [this, mul_zero]
/-- The unit vectors from a column on are combinations. -/
def UF (n : Nat) (L : List (List UInt8)) (a : Nat) : Prop := ∀ q, a ≤ q → q < n → SpanL n L (unit q)
theorem UF_none {n a : Nat} {L : List (List UInt8)} (hz : ∀ x ∈ L, x.getD a 0 = 0) (ha : a < n) : ¬ UF n L a := fun h => by
  have h1 := span_zero hz (h a (Nat.le_refl _) ha) ha
  rw [unit, if_pos rfl] at h1
  exact absurd h1 (by decide)
theorem SpanL.zero {n : Nat} {L : List (List UInt8)} {v : Nat → UInt8} (h : ∀ i, i < n → v i = 0) : SpanL n L v := InSpan.zero n _ _ h
theorem SpanL.sum {n : Nat} {L : List (List UInt8)} (c : Nat → UInt8) (us : Nat → Nat → UInt8) (k : Nat) (h : ∀ j, j < k → SpanL n L (us j)) : SpanL n L fun i => sm k fun j => mul (c j) (us j i) := InSpan.sum c us k h
theorem UF_back {n a p : Nat} {L : List (List UInt8)} (hL : ∀ r ∈ L, r.length = n ∧ ∀ j, j < a → r.getD j 0 = 0) (ha : a < n) (hp : p < L.length) (hp2 : (L.getD p []).getD a 0 ≠ 0) (h : UF n (restTo L p a L.length) (a + 1)) : UF n L a := by
  have hrest : ∀ x ∈ restTo L p a L.length, SpanL n L (vec x) := fun x hx => by
    obtain ⟨k, h1, h2, rfl⟩ := restTo_mem.1 hx
    refine ((SpanL.mem (getD_mem h1 (x := []))).add ((SpanL.mem (getD_mem hp (x := []))).smul (mul ((L.getD k []).getD a 0) (inv ((L.getD p []).getD a 0))))).congr fun i hi => ?_
    exact lessR_get (by rw [(hL _ (getD_mem h1)).1]; exact hi)
  have hup : ∀ q, a + 1 ≤ q → q < n → SpanL n L (unit q) := fun q h1 h2 => (h q h1 h2).trans hrest
  intro q h1 h2
  by_cases hq : q = a
  · subst hq
    obtain ⟨P, hP⟩ : ∃ P, L.getD p [] = P := ⟨_, rfl⟩
    have hPL : SpanL n L (vec P) := by rw [← hP]; exact SpanL.mem (getD_mem hp)
    have hPz := (hL _ (getD_mem hp (x := []))).2
    rw [hP] at hp2 hPz
    have hw := SpanL.sum (n := n) (L := L) (fun j => P.getD j 0) (fun j => if q + 1 ≤ j then unit j else fun _ => 0) n fun j hj => by
      by_cases hjq : q + 1 ≤ j
      · rw [if_pos hjq]; exact hup j hjq hj
      · rw [if_neg hjq]; exact SpanL.zero fun _ _ => rfl
    refine ((hPL.add hw).smul (inv (P.getD q 0))).congr fun i hi => ?_
    have e : sm n (fun j => mul (P.getD j 0) ((if q + 1 ≤ j then unit j else fun _ => 0) i)) = if q + 1 ≤ i then P.getD i 0 else 0 := by
      rw [sm_one (p := i) _ hi fun j _ hne => by
        split
        · rw [unit, if_neg (Ne.symm hne), mul_zero]
        · rw [mul_zero]]
      split
      · rw [unit, if_pos rfl, mul_one]
      · rw [mul_zero]
    rw [e]
    show unit q i = mul (inv (P.getD q 0)) (P.getD i 0 ^^^ _)
    by_cases h3 : q + 1 ≤ i
    · rw [if_pos h3, UInt8.xor_self, mul_zero, unit, if_neg (by omega)]
    · rw [if_neg h3, UInt8.xor_zero]
      by_cases h4 : i = q
      · subst h4
        rw [inv_mul hp2, unit, if_pos rfl]
      · rw [hPz i (by omega), mul_zero, unit, if_neg h4]
  · exact hup q (by omega) h2
theorem rest_split {n a p : Nat} {L : List (List UInt8)} (hL : ∀ r ∈ L, r.length = n) {x : List UInt8} (hx : x ∈ L) : ∃ c, SpanL n (restTo L p a L.length) fun i => vec x i ^^^ mul c ((L.getD p []).getD i 0) := by
  obtain ⟨k, hk, rfl⟩ := List.getElem_of_mem hx
  have e : L[k] = L.getD k [] := by rw [List.getD_eq_getElem?_getD, List.getElem?_eq_getElem hk]; rfl
  rw [e]
  by_cases hkp : k = p
  · subst hkp
    refine ⟨1, SpanL.zero fun i _ => ?_⟩
    rw [one_mul]
    exact UInt8.xor_self
  · refine ⟨mul ((L.getD k []).getD a 0) (inv ((L.getD p []).getD a 0)), (SpanL.mem (restTo_mem.2 ⟨k, hk, hkp, rfl⟩)).congr fun i hi => ?_⟩
    exact (lessR_get (by rw [hL _ (getD_mem hk)]; exact hi)).symm
theorem SpanL.rest {n a p : Nat} {L : List (List UInt8)} (hL : ∀ r ∈ L, r.length = n) {u : Nat → UInt8} (h : SpanL n L u) : ∃ c, SpanL n (restTo L p a L.length) fun i => u i ^^^ mul c ((L.getD p []).getD i 0) := by
  obtain ⟨c, hc⟩ := h
  have hd : ∃ d : Nat → UInt8, ∀ k, k < L.length → SpanL n (restTo L p a L.length) fun i => vec (L.getD k []) i ^^^ mul (d k) ((L.getD p []).getD i 0) := by
    refine ⟨fun k => if hk : k < L.length then (rest_split (p := p) (a := a) hL (getD_mem hk (x := []))).choose else 0, fun k hk => ?_⟩
    simp only [hk, ↓reduceDIte]
    exact (rest_split (p := p) (a := a) hL (getD_mem hk (x := []))).choose_spec
  obtain ⟨d, hd⟩ := hd
  refine ⟨sm L.length fun k => mul (c k) (d k), (SpanL.sum c _ L.length hd).congr fun i hi => ?_⟩
  show u i ^^^ mul _ _ = _
  rw [hc i hi, mul_comm (sm _ _), sm_mul, ← sm_add]
  refine sm_congr fun k _ => ?_
  rw [mul_xor]
  congr 1
  rw [mul_comm ((L.getD p []).getD i 0), mul_assoc]
theorem UF_next {n a p : Nat} {L : List (List UInt8)} (hL : ∀ r ∈ L, r.length = n) (ha : a < n) (hp2 : (L.getD p []).getD a 0 ≠ 0) (h : UF n L a) : UF n (restTo L p a L.length) (a + 1) := by
  intro q h1 h2
  obtain ⟨c, hc⟩ := SpanL.rest (p := p) (a := a) hL (h q (by omega) h2)
  have hz := span_zero (a := a) (fun x hx => by
    obtain ⟨k, k1, k2, rfl⟩ := restTo_mem.1 hx
    exact lessR_zero (by rw [hL _ (getD_mem k1)]; exact ha) hp2) hc ha
  have h0 : unit q a = 0 := by rw [unit, if_neg (by omega)]
  simp only [h0] at hz
  rw [UInt8.zero_xor] at hz
  have hc0 : c = 0 := Classical.byContradiction fun hne => mul_ne_zero hne hp2 hz
  subst hc0
  refine hc.congr fun i _ => ?_
  rw [zero_mul, UInt8.xor_zero]
theorem UF_all {n : Nat} {L : List (List UInt8)} : UF n L 0 ↔ ∀ v, SpanL n L v := by
  constructor
  · intro h v
    refine (SpanL.sum v (fun j => unit j) n fun j hj => h j (Nat.zero_le _) hj).congr fun i hi => ?_
    rw [sm_one (p := i) _ hi fun j _ hne => by rw [unit, if_neg (Ne.symm hne), mul_zero], unit, if_pos rfl, mul_one]
  · intro h q _ _
    exact h _
theorem rank_full {n : Nat} {L : List (List UInt8)} (hL : ∀ r ∈ L, r.length = n) : ∀ a, a ≤ n → (rankTo L a).2 = a → (UF n L 0 ↔ UF n (rankTo L a).1 a)
  | 0, _, _ => Iff.rfl
  | a + 1, ha, hr => by
    have hle := rankTo_le L a
    have hz := rankTo_zero hL a (by omega)
    cases h : pivTo (rankTo L a).1 a (rankTo L a).1.length with
    | none =>
      rw [rankTo_no h] at hr
      omega
    | some p =>
      rw [rankTo_yes h] at hr ⊢
      have ih := rank_full hL a (by omega) (by simpa using hr)
      obtain ⟨p1, p2⟩ := pivTo_spec h
      rw [ih]
      exact ⟨fun h2 => UF_next (fun r hr => (hz r hr).1) (by omega) p2 h2, fun h2 => UF_back hz (by omega) p1 p2 h2⟩
theorem rank_of {n : Nat} {L : List (List UInt8)} (hL : ∀ r ∈ L, r.length = n) (hU : UF n L 0) : ∀ a, a ≤ n → (rankTo L a).2 = a
  | 0, _ => rfl
  | a + 1, ha => by
    have ih := rank_of hL hU a (by omega)
    have hz := rankTo_zero hL a (by omega)
    have h2 := (rank_full hL a (by omega) ih).1 hU
    cases h : pivTo (rankTo L a).1 a (rankTo L a).1.length with
    | none =>
      exfalso
      refine UF_none (fun x hx => ?_) (show a < n by omega) h2
      obtain ⟨k, hk, rfl⟩ := List.getElem_of_mem hx
      have := pivTo_none h k hk
      rw [List.getD_eq_getElem?_getD (l := (rankTo L a).1), List.getElem?_eq_getElem hk] at this
      exact this
    | some p =>
      rw [rankTo_yes h]
      show _ + 1 = _
      rw [ih]
/-- THE RANK IS THE NUMBER OF COLUMNS EXACTLY IF THE ROWS SPAN ALL. -/
theorem rank_iff {n : Nat} {L : List (List UInt8)} (hL : ∀ r ∈ L, r.length = n) : rankR L n = n ↔ (stairs n L).length = n := by
  rw [stairs_iff hL, ← UF_all]
  constructor
  · intro h
    rw [rank_full hL n (Nat.le_refl _) h]
    intro q h1 h2
    omega
  · intro h
    exact rank_of hL h n (Nat.le_refl _)
attribute [irreducible] rankTo restTo pivTo lessR
end Cd

/- THE WALKS over the specification of codes: drawn regions of less and Rank. -/
namespace Go.Proofs.YtdbolgollpnfdaaDoor
open Go.RowKit
theorem ent_rmul : ∀ args w, (callFunc 55 args).run Tryd.prog w = .ok (.enter 55 args) w := enters_of Tryd.func55 (by kernel_rfl) rfl
theorem ent_less : ∀ args w, (callFunc 47 args).run Tryd.prog w = .ok (.enter 47 args) w := enters_of Tryd.func47 (by kernel_rfl) rfl
noncomputable def less_six_code : Code := ((Tryd.f47.body.bind (regionOf 6)).getD .skip)
def less_six_dsts : List (Option Nat) := [some 26, some 27, some 28, some 29, some 30, some 31, some 32, some 33, some 34, some 35, some 36, some 37, some 38, some 39, some 8]
theorem less_six_apart : apartD less_six_dsts = true := by decide +kernel
set_option maxRecDepth 1000000 in
set_option maxHeartbeats 16000000 in
theorem less_six (bX bY : Addr) (A : Option Addr) (n m cx cy ca i : Nat) (xr xo xf : UInt8) (la : List Value) (w wr : World) (hi8 : i < 1000000) (hin : i < n) (him : i < m) (hxor : Hid (bits .xor .u8 (xr.toNat : Int) ((Gf.mul xf xo).toNat : Int) = ((xr ^^^ Gf.mul xf xo).toNat : Int))) (hX : Hid (w.cell? (bX.add i) = some (bv xr))) (hY : Hid (w.cell? (bY.add i) = some (bv xo))) (HOO : Hid (Owns w wr.drew [⟨.slice A i ca, 5, 1, i, la⟩, no])) (c2 c3 c4 c5 c6 c10 c11 c12 c13 c14 c15 c16 c17 c18 c19 c20 c21 c22 c23 c24 c25 c26 c27 c28 c29 c30 c31 c32 c33 c34 c35 c36 c37 c38 c39 c40 : Value) (df : List Deferred) (K : Act → World → Prop)
    (hK : ∀ (g13 k13 : Nat) (u26 u27 u28 u29 u30 u31 u32 u33 u34 u35 u36 u37 u38 u39 : Value) (wx : World), Owns w wx [⟨.slice (some ⟨g13, 0, none⟩) (i + 1) k13, 5, 1, i + 1, la ++ [bv (xr ^^^ Gf.mul xf xo)]⟩, no] → K ⟨#[.slice (some bX) n cx, .slice (some bY) m cy, c2, c3, c4, c5, c6, bv xf, .slice (some ⟨g13, 0, none⟩) (i + 1) k13, .int .i64 i, c10, c11, c12, c13, c14, c15, c16, c17, c18, c19, c20, c21, c22, c23, c24, c25, u26, u27, u28, u29, u30, u31, u32, u33, u34, u35, u36, u37, u38, u39, c40], df⟩ wx) :
    Code.wp Tryd.prog less_six_code (AtEnd K) ⟨#[.slice (some bX) n cx, .slice (some bY) m cy, c2, c3, c4, c5, c6, bv xf, .slice A i ca, .int .i64 i, c10, c11, c12, c13, c14, c15, c16, c17, c18, c19, c20, c21, c22, c23, c24, c25, c26, c27, c28, c29, c30, c31, c32, c33, c34, c35, c36, c37, c38, c39, c40], df⟩ wr := by
  conv => arg 2; whnf
  refine region_inv (by kernel_rfl) [[], [], [], [1, 2], [3], [], [], [], [6, 7], [8], [5, 9], [4, 10], [11], [0, 12, 10], [13, 13, 0, 1, 2, 3, 4, 5, 6, 7, 8, 9, 10, 11, 12, 13]] (by kernel_rfl) [0, 1, 2, 3, 4, 5, 6, 7, 8, 9, 10, 11, 12, 13, 14] (by decide +kernel) (by decide +kernel) (by decide +kernel) (fun L a wc => ∃ (g12 : Nat) (g13 : Nat) (k13 : Nat), InvO less_six_dsts [.slice A i ca, .slice (some bX) n cx, .int .i64 i, .pointer (some (bX.add i)), bv xr, bv xf, .slice (some bY) m cy, .int .i64 i, .pointer (some (bY.add i)), bv xo, bv (Gf.mul xf xo), bv (xr ^^^ Gf.mul xf xo), .slice (some ⟨g12, 0, none⟩) 1 1, .slice (some ⟨g13, 0, none⟩) (i + 1) k13, .slice (some ⟨g13, 0, none⟩) (i + 1) k13] ⟨#[.slice (some bX) n cx, .slice (some bY) m cy, c2, c3, c4, c5, c6, bv xf, .slice A i ca, .int .i64 i, c10, c11, c12, c13, c14, c15, c16, c17, c18, c19, c20, c21, c22, c23, c24, c25, c26, c27, c28, c29, c30, c31, c32, c33, c34, c35, c36, c37, c38, c39, c40], df⟩ L a ∧ Hid (Owns w wc [(if L 13 = true then ⟨.slice (some ⟨g13, 0, none⟩) (i + 1) k13, 5, 1, i + 1, la ++ [bv (xr ^^^ Gf.mul xf xo)]⟩ else ⟨.slice A i ca, 5, 1, i, la⟩), (if L 12 = true then ⟨.slice (some ⟨g12, 0, none⟩) 1 1, 5, 1, 1, [bv (xr ^^^ Gf.mul xf xo)]⟩ else no)])) ⟨0, 0, 0, InvO.start, HOO⟩ ?_ ?_
  · refine ⟨?_, ?_, ?_, ?_, ?_, ?_, ?_, ?_, ?_, ?_, ?_, ?_, ?_, ?_, ?_, trivial⟩
    · -- 0 move
      rintro L a wc ⟨g12, g13, k13, hv, HO⟩ hL hc hd
      exact wpOp_val rfl rfl (ex_move rfl ((hv.old 14 8 rfl (Bool.eq_false_iff.2 fun h => Bool.false_ne_true (hL.symm.trans (hc 14 h 0 (by decide))))).trans rfl)) ⟨g12, g13, k13, hv.put less_six_apart 0 rfl (Nat.le_of_ble_eq_true rfl) (Nat.le_of_ble_eq_true rfl) rfl, HO⟩
    · -- 1 move
      rintro L a wc ⟨g12, g13, k13, hv, HO⟩ hL hc hd
      exact wpOp_val rfl rfl (ex_move rfl ((hv.fixed 0 (by decide)).trans rfl)) ⟨g12, g13, k13, hv.put less_six_apart 1 rfl (Nat.le_of_ble_eq_true rfl) (Nat.le_of_ble_eq_true rfl) rfl, HO⟩
    · -- 2 move
      rintro L a wc ⟨g12, g13, k13, hv, HO⟩ hL hc hd
      exact wpOp_val rfl rfl (ex_move rfl ((hv.fixed 9 (by decide)).trans rfl)) ⟨g12, g13, k13, hv.put less_six_apart 2 rfl (Nat.le_of_ble_eq_true rfl) (Nat.le_of_ble_eq_true rfl) rfl, HO⟩
    · -- 3 index
      rintro L a wc ⟨g12, g13, k13, hv, HO⟩ hL hc hd
      have b1 : (0 : Int) ≤ (i : Int) := by omega
      have b2 : (i : Int) < (n : Int) := by omega
      exact wpOp_val rfl rfl (ex_index rfl (hv.get 1 rfl rfl (hd 1 (by decide))) (hv.get 2 rfl rfl (hd 2 (by decide))) (by go_simp)) ⟨g12, g13, k13, hv.put less_six_apart 3 rfl (Nat.le_of_ble_eq_true rfl) (Nat.le_of_ble_eq_true rfl) rfl, HO⟩
    · -- 4 load
      rintro L a wc ⟨g12, g13, k13, hv, HO⟩ hL hc hd
      have eX : wc.cell? (bX.add i) = some (bv xr) := HO.out.ext.cell hX.out
      exact wpOp_val rfl rfl (ex_load rfl (hv.get 3 rfl rfl (hd 3 (by decide))) (by go_simp)) ⟨g12, g13, k13, hv.put less_six_apart 4 rfl (Nat.le_of_ble_eq_true rfl) (Nat.le_of_ble_eq_true rfl) rfl, HO⟩
    · -- 5 move
      rintro L a wc ⟨g12, g13, k13, hv, HO⟩ hL hc hd
      exact wpOp_val rfl rfl (ex_move rfl ((hv.fixed 7 (by decide)).trans rfl)) ⟨g12, g13, k13, hv.put less_six_apart 5 rfl (Nat.le_of_ble_eq_true rfl) (Nat.le_of_ble_eq_true rfl) rfl, HO⟩
    · -- 6 move
      rintro L a wc ⟨g12, g13, k13, hv, HO⟩ hL hc hd
      exact wpOp_val rfl rfl (ex_move rfl ((hv.fixed 1 (by decide)).trans rfl)) ⟨g12, g13, k13, hv.put less_six_apart 6 rfl (Nat.le_of_ble_eq_true rfl) (Nat.le_of_ble_eq_true rfl) rfl, HO⟩
    · -- 7 move
      rintro L a wc ⟨g12, g13, k13, hv, HO⟩ hL hc hd
      exact wpOp_val rfl rfl (ex_move rfl ((hv.fixed 9 (by decide)).trans rfl)) ⟨g12, g13, k13, hv.put less_six_apart 7 rfl (Nat.le_of_ble_eq_true rfl) (Nat.le_of_ble_eq_true rfl) rfl, HO⟩
    · -- 8 index
      rintro L a wc ⟨g12, g13, k13, hv, HO⟩ hL hc hd
      have b1 : (0 : Int) ≤ (i : Int) := by omega
      have b2 : (i : Int) < (m : Int) := by omega
      exact wpOp_val rfl rfl (ex_index rfl (hv.get 6 rfl rfl (hd 6 (by decide))) (hv.get 7 rfl rfl (hd 7 (by decide))) (by go_simp)) ⟨g12, g13, k13, hv.put less_six_apart 8 rfl (Nat.le_of_ble_eq_true rfl) (Nat.le_of_ble_eq_true rfl) rfl, HO⟩
    · -- 9 load
      rintro L a wc ⟨g12, g13, k13, hv, HO⟩ hL hc hd
      have eY : wc.cell? (bY.add i) = some (bv xo) := HO.out.ext.cell hY.out
      exact wpOp_val rfl rfl (ex_load rfl (hv.get 8 rfl rfl (hd 8 (by decide))) (by go_simp)) ⟨g12, g13, k13, hv.put less_six_apart 9 rfl (Nat.le_of_ble_eq_true rfl) (Nat.le_of_ble_eq_true rfl) rfl, HO⟩
    · -- 10 call
      rintro L a wc ⟨g12, g13, k13, hv, HO⟩ hL hc hd
      refine wpOp_call (R := fun v w1 => v = bv (Gf.mul xf xo) ∧ wc = w1) rfl rfl (ex_call rfl rfl (map2c (hv.get 5 rfl rfl (hd 5 (by decide))) (hv.get 9 rfl rfl (hd 9 (by decide)))) (ent_rmul _ _)) ((rmul_u8 xf xo wc).mono (fun e w' h => ⟨_, h.1, rfl, h.2⟩)) ?_
      rintro v w' ⟨rfl, rfl⟩
      exact ⟨g12, g13, k13, hv.put less_six_apart 10 rfl (Nat.le_of_ble_eq_true rfl) (Nat.le_of_ble_eq_true rfl) rfl, HO⟩
    · -- 11 bin
      rintro L a wc ⟨g12, g13, k13, hv, HO⟩ hL hc hd
      have h := hxor.out
      exact wpOp_val rfl rfl (ex_bin rfl (hv.get 4 rfl rfl (hd 4 (by decide))) (hv.get 10 rfl rfl (hd 10 (by decide))) (by go_simp)) ⟨g12, g13, k13, hv.put less_six_apart 11 rfl (Nat.le_of_ble_eq_true rfl) (Nat.le_of_ble_eq_true rfl) rfl, HO⟩
    · -- 12 lines
      rintro L a wc ⟨g12, g13, k13, hv, HO⟩ hL hc hd
      have hn := HO.out.new 1 #[bv (xr ^^^ Gf.mul xf xo)] 5 (by simp [maxLen])
      exact wpOp_value rfl rfl (ex_build rfl Tryd.underlying63 info_u8 (hv.get 11 rfl rfl (hd 11 (by decide))) rfl) ⟨wc.heap.size, g13, k13, hv.put less_six_apart 12 rfl (Nat.le_of_ble_eq_true rfl) (Nat.le_of_ble_eq_true rfl) rfl, Lib.hid hn⟩
    · -- 13 lines
      rintro L a wc ⟨g12, g13, k13, hv, HO⟩ hL hc hd
      refine wpOp_append rfl rfl 63 5 rfl Tryd.underlying63 info_u8 rfl HO.out 0 (congrArg some (if_neg (by simp [hL]))) (hv.get 0 rfl rfl (hd 0 (by decide))) (hv.get 12 rfl rfl (hd 12 (by decide))) (HO.out.cell 1 (congrArg some (if_pos (hd 12 (by decide)))) 0 rfl) rfl (by omega) (by decide) ?_
      intro gg cc w2 hO2
      have hv := hv.reset 14 (Bool.eq_false_iff.2 fun h => Bool.false_ne_true (hL.symm.trans (hc 14 h 13 (by decide)))) (.slice (some ⟨gg, 0, none⟩) (i + 1) cc)
      exact ⟨g12, gg, cc, hv.put less_six_apart 13 rfl (Nat.le_of_ble_eq_true rfl) (Nat.le_of_ble_eq_true rfl) rfl, Lib.hid hO2⟩
    · -- 14 assign
      rintro L a wc ⟨g12, g13, k13, hv, HO⟩ hL hc hd
      exact wpOp_val rfl rfl (ex_assign rfl (hv.get 13 rfl rfl (hd 13 (by decide)))) ⟨g12, g13, k13, hv.put less_six_apart 14 rfl (Nat.le_of_ble_eq_true rfl) (Nat.le_of_ble_eq_true rfl) rfl, HO⟩
  · rintro L a wc ⟨g12, g13, k13, hv, HO⟩ hall
    show K a wc
    have ha := act_lit a
    rw [hv.size, hv.defers] at ha
    have hl : ∀ f : Nat → Value, ((List.range (⟨#[.slice (some bX) n cx, .slice (some bY) m cy, c2, c3, c4, c5, c6, bv xf, .slice A i ca, .int .i64 i, c10, c11, c12, c13, c14, c15, c16, c17, c18, c19, c20, c21, c22, c23, c24, c25, c26, c27, c28, c29, c30, c31, c32, c33, c34, c35, c36, c37, c38, c39, c40], df⟩ : Act).tmps.size).map f).toArray = #[f 0, f 1, f 2, f 3, f 4, f 5, f 6, f 7, f 8, f 9, f 10, f 11, f 12, f 13, f 14, f 15, f 16, f 17, f 18, f 19, f 20, f 21, f 22, f 23, f 24, f 25, f 26, f 27, f 28, f 29, f 30, f 31, f 32, f 33, f 34, f 35, f 36, f 37, f 38, f 39, f 40] := fun _ => rfl
    rw [hl] at ha
    simp only [hv.fixed 0 (by decide), hv.fixed 1 (by decide), hv.fixed 2 (by decide), hv.fixed 3 (by decide), hv.fixed 4 (by decide), hv.fixed 5 (by decide), hv.fixed 6 (by decide), hv.fixed 7 (by decide), hv.fixed 9 (by decide), hv.fixed 10 (by decide), hv.fixed 11 (by decide), hv.fixed 12 (by decide), hv.fixed 13 (by decide), hv.fixed 14 (by decide), hv.fixed 15 (by decide), hv.fixed 16 (by decide), hv.fixed 17 (by decide), hv.fixed 18 (by decide), hv.fixed 19 (by decide), hv.fixed 20 (by decide), hv.fixed 21 (by decide), hv.fixed 22 (by decide), hv.fixed 23 (by decide), hv.fixed 24 (by decide), hv.fixed 25 (by decide), hv.fixed 40 (by decide), hv.get 14 (d := 8) rfl rfl (hall 14 (by decide))] at ha
    rw [ha]
    have hO := HO.out
    simp only [hall 12 (by decide), hall 13 (by decide), if_true] at hO
    exact hK g13 k13 _ _ _ _ _ _ _ _ _ _ _ _ _ _ wc (hO.drop 1)

theorem rinv_u8 (b : UInt8) (hb : b ≠ 0) (w : World) : Calls Tryd.prog 56 #[bv b] w fun e w' => e = .returned (bv (Gf.inv b)) ∧ w = w' := by
  refine (rinv_nat b.toNat (Gf.lt8 b) w (fun h => hb (UInt8.toNat_inj.1 h))).mono ?_
  rintro e w' ⟨rfl, rfl⟩
  exact ⟨by rw [← Gf.inv_toNat], rfl⟩
set_option maxHeartbeats 1000000 in
theorem rLess_any (r o : List UInt8) (a : Nat) (VR VO : Value) (w : World) (hR : Rs RB w VR r) (hO : Rs RB w VO o) (hl : r.length ≤ 1000) (hlo : r.length ≤ o.length) (ha : a < r.length) (ho : o.getD a 0 ≠ 0) :
    Calls Tryd.prog 47 #[VR, VO, .int .i64 a] w fun e w' => ∃ A c, e = .returned (.slice A r.length c) ∧ Ext w w' ∧ w'.ownsRow w.heap.size 5 1 (.slice A r.length c) r.length ((Cd.lessR r o a).map bv) := by
  obtain ⟨RA, cr, rfl, _⟩ := hR.form
  obtain ⟨OA, co, rfl, hol⟩ := hO.form
  have hrd := hR.rd
  have hod := hO.rd
  obtain ⟨bX, rfl, _, hXa⟩ := hrd.at (k := a) (by simpa using ha)
  obtain ⟨bY, rfl, _, hYa⟩ := hod.at (k := a) (by simp; omega)
  rw [List.getElem_map] at hXa hYa
  have hao : a < o.length := by omega
  have hr0 : r[a] = r.getD a 0 := (getD_get ha).symm
  have ho0 : o[a] = o.getD a 0 := (getD_get hao).symm
  rw [hr0] at hXa
  rw [ho0] at hYa
  obtain ⟨f, hf⟩ : ∃ f, Gf.mul (r.getD a 0) (Gf.inv (o.getD a 0)) = f := ⟨_, rfl⟩
  have hls : ∀ k, k < r.length → (Cd.lessR r o a).getD k 0 = r.getD k 0 ^^^ Gf.mul f (o.getD k 0) := fun k hk => by rw [Cd.lessR_get hk, hf]
  have hll := Cd.lessR_len r o a
  obtain ⟨q, hq⟩ : ∃ q, Cd.lessR r o a = q := ⟨_, rfl⟩
  rw [hq] at hls hll ⊢
  obtain ⟨n, hn⟩ : ∃ n, r.length = n := ⟨_, rfl⟩
  obtain ⟨m, hm⟩ : ∃ m, o.length = m := ⟨_, rfl⟩
  rw [hn] at hl hlo ha hls hll ⊢
  rw [hm] at hlo hao hol ⊢
  have HRD := Lib.hid (And.intro hrd hod)
  have HLS := Lib.hid (And.intro hls hll)
  have HNM := Lib.hid (And.intro hn hm)
  have HF := Lib.hid hf
  have HO0 := Lib.hid ho
  obtain ⟨xa, hxa⟩ : ∃ xa, r.getD a 0 = xa := ⟨_, rfl⟩
  obtain ⟨ya, hya⟩ : ∃ ya, o.getD a 0 = ya := ⟨_, rfl⟩
  rw [hxa] at hXa
  rw [hya] at hYa
  have HXY := Lib.hid (And.intro hxa hya)
  have hXd : ∀ k, (w.drewN k).cell? (bX.add a) = some (bv xa) := fun k => hXa
  have hYd : ∀ k, (w.drewN k).cell? (bY.add a) = some (bv ya) := fun k => hYa
  clear hR hO hrd hod hls hll hn hm hf ho hr0 ho0 hxa hya hq
  go_enter Tryd.func47, Tryd.ntmps47
  go_wp2_with fail
  go_quiet (first
    | (go_at_call 56; exact quiet_left (rinv_u8 ya (by rw [← HXY.out.2]; exact HO0.out) _))
    | (go_at_call 55; exact quiet_add_left (rmul_u8 xa (Gf.inv ya) _))
    | (go_at_call 55; exact quiet_left (rmul_u8 xa (Gf.inv ya) _)))
  have hfe : Gf.mul xa (Gf.inv ya) = f := by rw [← HXY.out.1, ← HXY.out.2]; exact HF.out
  rw [hfe]
  have HX0 := Lib.hid ((Ext.refl w).drewN nq)
  have hst : Owns w (w.drewN nq) [⟨.slice none 0 0, 5, 1, 0, []⟩, no] := (Owns.start w (by intro r hr; simp [no] at hr; rcases hr with rfl | rfl <;> simp)).drewN nq
  have HST := Lib.hid hst
  clear hfe hXd hYd hXa hYa hst
  go_wp2_with fail
  go_loopw [8, 9] (fun vo vi wr => ∃ (i cp : Nat) (A : Option Addr), i ≤ n ∧ vi = .int .i64 i ∧ vo = .slice A i cp ∧ Hid (Owns w wr [⟨.slice A i cp, 5, 1, i, (q.take i).map bv⟩, no])) (fun _ vi _ => n - (intOf vi).toNat)
  case atStart => exact ⟨0, 0, none, Nat.zero_le _, rfl, rfl, Lib.hid (by simpa using HST.out)⟩
  case round =>
    obtain ⟨i, cp, A, hi, rfl, rfl, HI⟩ := hrel
    by_cases hlt : i < n
    · have hir : i < r.length := by rw [HNM.out.1]; exact hlt
      have him : i < o.length := by rw [HNM.out.2]; omega
      have hiq : i < q.length := by rw [HLS.out.2]; exact hlt
      have hX := HRD.out.1.all (k := i) (by simpa using hir)
      have hY := HRD.out.2.all (k := i) (by simpa using him)
      rw [List.getElem_map, ← getD_get (x := (0 : UInt8)) hir] at hX
      rw [List.getElem_map, ← getD_get (x := (0 : UInt8)) him] at hY
      have hqi : (q.take (i + 1)).map bv = (q.take i).map bv ++ [bv (r.getD i 0 ^^^ Gf.mul f (o.getD i 0))] := by
        rw [← HLS.out.1 i hlt, getD_get hiq, List.take_succ_eq_append_getElem hiq, List.map_append]; rfl
      obtain ⟨xr, hxr⟩ : ∃ xr, r.getD i 0 = xr := ⟨_, rfl⟩
      obtain ⟨xo, hxo⟩ : ∃ xo, o.getD i 0 = xo := ⟨_, rfl⟩
      rw [hxr] at hX hqi
      rw [hxo] at hY hqi
      have hxor : bits .xor .u8 (xr.toNat : Int) ((Gf.mul f xo).toNat : Int) = ((xr ^^^ Gf.mul f xo).toNat : Int) := by
        rw [u8_xor_nat _ _ (Gf.lt8 _) (Gf.lt8 _), UInt8.toNat_xor]
      have HH := Lib.hid (And.intro hX (And.intro hY (And.intro hqi hxor)))
      clear hX hY hqi hxor hxr hxo hir him hiq
      go_upto_region 6 with fail
      refine wp_atEnd' (less_six bX bY A n m cr co cp i xr xo f ((q.take i).map bv) w wr (by omega) hlt (by omega) (Lib.hid HH.out.2.2.2) (Lib.hid HH.out.1) (Lib.hid HH.out.2.1) (Lib.hid HI.out.drew) _ _ _ _ _ _ _ _ _ _ _ _ _ _ _ _ _ _ _ _ _ _ _ _ _ _ _ _ _ _ _ _ _ _ _ _ _ _ ?_)
      intros
      rename_i w8 hO8
      have HO8 := Lib.hid hO8
      clear hO8
      go_wp2_with fail
      go_roundw
      case rel => exact ⟨i + 1, _, _, by omega, by go_num, rfl, Lib.hid (by rw [HH.out.2.2.1]; exact HO8.out)⟩
      case measure => simp [intOf]; omega
    · obtain rfl : i = n := by omega
      go_wp2_with fail
      go_ret
      have hq : q.take i = q := by rw [← HLS.out.2, List.take_length]
      have h1 := HI.out
      rw [hq] at h1
      exact ⟨A, cp, rfl, h1.ext, h1.row 0 rfl⟩
end Go.Proofs.YtdbolgollpnfdaaDoor

/- THE WALK over the specification of codes: Rank. -/
namespace Go.Proofs.YtdbolgollpnfdaaDoor
open Go.RowKit
theorem rLess_at (r o : List UInt8) (a m : Nat) (VR VO : Value) (w : World) (hm : r.length = m) (hR : Rs RB w VR r) (hO : Rs RB w VO o) (hl : m ≤ 1000) (hlo : m ≤ o.length) (ha : a < m) (ho : o.getD a 0 ≠ 0) :
    Calls Tryd.prog 47 #[VR, VO, .int .i64 a] w fun e w' => ∃ A c, e = .returned (.slice A m c) ∧ Ext w w' ∧ w'.ownsRow w.heap.size 5 1 (.slice A m c) m ((Cd.lessR r o a).map bv) := by
  subst hm
  exact rLess_any r o a VR VO w hR hO hl hlo ha ho
/-- Values that are rows of bytes of a call's own. -/
def RowsIn (vs : List Value) (L : List LRow) (rs : List (List UInt8)) : Prop := vs.length = rs.length ∧ ∀ (j : Nat) (r : List UInt8), rs[j]? = some r → ∃ A2 c2, vs[j]? = some (.slice A2 r.length c2) ∧ byteRow A2 c2 r ∈ L
theorem RowsIn.nil (L : List LRow) : RowsIn [] L [] := ⟨rfl, fun j r h => by simp at h⟩
theorem RowsIn.mono {vs : List Value} {L M : List LRow} {rs : List (List UInt8)} (h : RowsIn vs L rs) (hm : ∀ x ∈ L, x ∈ M) : RowsIn vs M rs :=
  ⟨h.1, fun j r hj => by
    obtain ⟨A2, c2, h1, h2⟩ := h.2 j r hj
    exact ⟨A2, c2, h1, hm _ h2⟩⟩
theorem RowsIn.snoc {vs : List Value} {L : List LRow} {rs : List (List UInt8)} (h : RowsIn vs L rs) {A2 : Option Addr} {c2 m : Nat} {q : List UInt8} (hq : q.length = m) (hm : (⟨.slice A2 m c2, 5, 1, m, q.map bv⟩ : LRow) ∈ L) : RowsIn (vs ++ [.slice A2 m c2]) L (rs ++ [q]) := by
  subst hq
  refine ⟨by simp [h.1], fun j t h2 => ?_⟩
  rw [List.getElem?_append] at h2 ⊢
  rw [h.1]
  by_cases hj : j < rs.length
  · rw [if_pos hj] at h2 ⊢
    exact h.2 j t h2
  · rw [if_neg hj] at h2 ⊢
    cases hk : j - rs.length with
    | zero =>
      rw [hk] at h2
      simp at h2
      subst h2
      exact ⟨A2, c2, rfl, hm⟩
    | succ k => rw [hk] at h2; simp at h2
theorem RowsIn.rs {w0 w : World} {M : List LRow} (hO : Owns w0 w M) {i n c : Nat} {A : Option Addr} {vs : List Value} {rs : List (List UInt8)} (hi : M[i]? = some ⟨.slice A n c, 63, 1, n, vs⟩) (h : RowsIn vs M rs) (hl : rs.length ≤ 9223372036854775807) (hw : ∀ r ∈ rs, r.length ≤ 9223372036854775807) : Rs (Rs RB) w (.slice A n c) rs := by
  have h1 : vs.length = n * 1 := (hO.row i hi).1
  have hn : n = rs.length := by rw [← h.1]; omega
  subst hn
  refine ⟨A, c, rfl, hl, fun j r hj => ?_⟩
  obtain ⟨A2, c2, e1, e2⟩ := h.2 j r hj
  obtain ⟨ad, a1, _, a3⟩ := hO.rd i hi j _ e1
  obtain ⟨k, hk, e3⟩ := List.getElem_of_mem e2
  have e4 : M[k]? = some (byteRow A2 c2 r) := by rw [List.getElem?_eq_getElem hk, e3]
  exact ⟨ad, _, a1, a3, Rs.of_rd (hO.rd k (n := r.length) e4) (hw r (List.mem_of_getElem? hj))⟩
noncomputable def rank_app_code : Code := ((Tryd.f41.body.bind (regionOf 19)).getD .skip)
def rank_app_dsts : List (Option Nat) := [some 50, some 51, some 52, some 53, some 54, some 55, some 56, some 57, some 58, some 59, some 60, some 61, some 62, some 10]
theorem rank_app_apart : apartD rank_app_dsts = true := by decide +kernel
set_option maxRecDepth 1000000 in
set_option maxHeartbeats 16000000 in
theorem rank_app (bL : Addr) (A RA OA : Option Addr) (n cl i ca k p xa m cr mo co : Nat) (r o q : List UInt8) (vs : List Value) (L0 : List LRow) (w wr : World) (hi8 : i < 1000000) (hk : k < n) (hp : p < n) (hm : r.length = m) (hl : m ≤ 1000) (hlo : m ≤ o.length) (ha : xa < m) (ho : Hid (o.getD xa 0 ≠ 0)) (hq : Hid (q = Cd.lessR r o xa)) (hX : Hid (w.cell? (bL.add k) = some (.slice RA m cr))) (hY : Hid (w.cell? (bL.add p) = some (.slice OA mo co))) (HR : Hid (Rs RB w (.slice RA m cr) r)) (HS : Hid (Rs RB w (.slice OA mo co) o)) (HOO : Hid (Owns w wr.drew ([⟨.slice A i ca, 63, 1, i, vs⟩, no] ++ (L0 ++ [])))) (c0 c1 c2 c3 c4 c6 c9 c12 c13 c14 c15 c16 c17 c18 c19 c20 c21 c22 c23 c24 c25 c26 c27 c28 c29 c30 c31 c32 c33 c34 c35 c36 c37 c38 c39 c40 c41 c42 c43 c44 c45 c46 c47 c48 c49 c50 c51 c52 c53 c54 c55 c56 c57 c58 c59 c60 c61 c62 c63 c64 : Value) (df : List Deferred) (K : Act → World → Prop)
    (hK : ∀ (A2 : Option Addr) (ce g12 k12 : Nat) (u50 u51 u52 u53 u54 u55 u56 u57 u58 u59 u60 u61 u62 : Value) (wx : World), Owns w wx ([⟨.slice (some ⟨g12, 0, none⟩) (i + 1) k12, 63, 1, i + 1, vs ++ [.slice A2 m ce]⟩, no] ++ (L0 ++ [(⟨.slice A2 m ce, 5, 1, m, q.map bv⟩ : LRow)])) → K ⟨#[c0, c1, c2, c3, c4, .slice (some bL) n cl, c6, .int .i64 xa, .int .i64 p, c9, .slice (some ⟨g12, 0, none⟩) (i + 1) k12, .int .i64 k, c12, c13, c14, c15, c16, c17, c18, c19, c20, c21, c22, c23, c24, c25, c26, c27, c28, c29, c30, c31, c32, c33, c34, c35, c36, c37, c38, c39, c40, c41, c42, c43, c44, c45, c46, c47, c48, c49, u50, u51, u52, u53, u54, u55, u56, u57, u58, u59, u60, u61, u62, c63, c64], df⟩ wx) :
    Code.wp Tryd.prog rank_app_code (AtEnd K) ⟨#[c0, c1, c2, c3, c4, .slice (some bL) n cl, c6, .int .i64 xa, .int .i64 p, c9, .slice A i ca, .int .i64 k, c12, c13, c14, c15, c16, c17, c18, c19, c20, c21, c22, c23, c24, c25, c26, c27, c28, c29, c30, c31, c32, c33, c34, c35, c36, c37, c38, c39, c40, c41, c42, c43, c44, c45, c46, c47, c48, c49, c50, c51, c52, c53, c54, c55, c56, c57, c58, c59, c60, c61, c62, c63, c64], df⟩ wr := by
  conv => arg 2; whnf
  refine region_inv (by kernel_rfl) [[], [], [], [1, 2], [3], [], [], [5, 6], [7], [], [4, 8, 9], [10], [0, 11, 10], [12, 12, 0, 1, 2, 3, 4, 5, 6, 7, 8, 9, 10, 11, 12]] (by kernel_rfl) [0, 1, 2, 3, 4, 5, 6, 7, 8, 9, 10, 11, 12, 13] (by decide +kernel) (by decide +kernel) (by decide +kernel) (fun L a wc => ∃ (A2 : Option Addr) (ce : Nat) (g11 : Nat) (g12 : Nat) (k12 : Nat), InvO rank_app_dsts [.slice A i ca, .slice (some bL) n cl, .int .i64 k, .pointer (some (bL.add k)), .slice RA m cr, .slice (some bL) n cl, .int .i64 p, .pointer (some (bL.add p)), .slice OA mo co, .int .i64 xa, .slice A2 m ce, .slice (some ⟨g11, 0, none⟩) 1 1, .slice (some ⟨g12, 0, none⟩) (i + 1) k12, .slice (some ⟨g12, 0, none⟩) (i + 1) k12] ⟨#[c0, c1, c2, c3, c4, .slice (some bL) n cl, c6, .int .i64 xa, .int .i64 p, c9, .slice A i ca, .int .i64 k, c12, c13, c14, c15, c16, c17, c18, c19, c20, c21, c22, c23, c24, c25, c26, c27, c28, c29, c30, c31, c32, c33, c34, c35, c36, c37, c38, c39, c40, c41, c42, c43, c44, c45, c46, c47, c48, c49, c50, c51, c52, c53, c54, c55, c56, c57, c58, c59, c60, c61, c62, c63, c64], df⟩ L a ∧ Hid (Owns w wc ([(if L 12 = true then ⟨.slice (some ⟨g12, 0, none⟩) (i + 1) k12, 63, 1, i + 1, vs ++ [.slice A2 m ce]⟩ else ⟨.slice A i ca, 63, 1, i, vs⟩), (if L 11 = true then ⟨.slice (some ⟨g11, 0, none⟩) 1 1, 63, 1, 1, [.slice A2 m ce]⟩ else no)] ++ (L0 ++ (if L 10 = true then [(⟨.slice A2 m ce, 5, 1, m, q.map bv⟩ : LRow)] else []))))) ⟨none, 0, 0, 0, 0, InvO.start, HOO⟩ ?_ ?_
  · refine ⟨?_, ?_, ?_, ?_, ?_, ?_, ?_, ?_, ?_, ?_, ?_, ?_, ?_, ?_, trivial⟩
    · -- 0 move
      rintro L a wc ⟨A2, ce, g11, g12, k12, hv, HO⟩ hL hc hd
      exact wpOp_val rfl rfl (ex_move rfl ((hv.old 13 10 rfl (Bool.eq_false_iff.2 fun h => Bool.false_ne_true (hL.symm.trans (hc 13 h 0 (by decide))))).trans rfl)) ⟨A2, ce, g11, g12, k12, hv.put rank_app_apart 0 rfl (Nat.le_of_ble_eq_true rfl) (Nat.le_of_ble_eq_true rfl) rfl, HO⟩
    · -- 1 move
      rintro L a wc ⟨A2, ce, g11, g12, k12, hv, HO⟩ hL hc hd
      exact wpOp_val rfl rfl (ex_move rfl ((hv.fixed 5 (by decide)).trans rfl)) ⟨A2, ce, g11, g12, k12, hv.put rank_app_apart 1 rfl (Nat.le_of_ble_eq_true rfl) (Nat.le_of_ble_eq_true rfl) rfl, HO⟩
    · -- 2 move
      rintro L a wc ⟨A2, ce, g11, g12, k12, hv, HO⟩ hL hc hd
      exact wpOp_val rfl rfl (ex_move rfl ((hv.fixed 11 (by decide)).trans rfl)) ⟨A2, ce, g11, g12, k12, hv.put rank_app_apart 2 rfl (Nat.le_of_ble_eq_true rfl) (Nat.le_of_ble_eq_true rfl) rfl, HO⟩
    · -- 3 index
      rintro L a wc ⟨A2, ce, g11, g12, k12, hv, HO⟩ hL hc hd
      have b1 : (0 : Int) ≤ (k : Int) := by omega
      have b2 : (k : Int) < (n : Int) := by omega
      exact wpOp_val rfl rfl (ex_index rfl (hv.get 1 rfl rfl (hd 1 (by decide))) (hv.get 2 rfl rfl (hd 2 (by decide))) (by go_simp)) ⟨A2, ce, g11, g12, k12, hv.put rank_app_apart 3 rfl (Nat.le_of_ble_eq_true rfl) (Nat.le_of_ble_eq_true rfl) rfl, HO⟩
    · -- 4 load
      rintro L a wc ⟨A2, ce, g11, g12, k12, hv, HO⟩ hL hc hd
      have eX : wc.cell? (bL.add k) = some (.slice RA m cr) := HO.out.ext.cell hX.out
      exact wpOp_val rfl rfl (ex_load rfl (hv.get 3 rfl rfl (hd 3 (by decide))) (by go_simp)) ⟨A2, ce, g11, g12, k12, hv.put rank_app_apart 4 rfl (Nat.le_of_ble_eq_true rfl) (Nat.le_of_ble_eq_true rfl) rfl, HO⟩
    · -- 5 move
      rintro L a wc ⟨A2, ce, g11, g12, k12, hv, HO⟩ hL hc hd
      exact wpOp_val rfl rfl (ex_move rfl ((hv.fixed 5 (by decide)).trans rfl)) ⟨A2, ce, g11, g12, k12, hv.put rank_app_apart 5 rfl (Nat.le_of_ble_eq_true rfl) (Nat.le_of_ble_eq_true rfl) rfl, HO⟩
    · -- 6 move
      rintro L a wc ⟨A2, ce, g11, g12, k12, hv, HO⟩ hL hc hd
      exact wpOp_val rfl rfl (ex_move rfl ((hv.fixed 8 (by decide)).trans rfl)) ⟨A2, ce, g11, g12, k12, hv.put rank_app_apart 6 rfl (Nat.le_of_ble_eq_true rfl) (Nat.le_of_ble_eq_true rfl) rfl, HO⟩
    · -- 7 index
      rintro L a wc ⟨A2, ce, g11, g12, k12, hv, HO⟩ hL hc hd
      have b1 : (0 : Int) ≤ (p : Int) := by omega
      have b2 : (p : Int) < (n : Int) := by omega
      exact wpOp_val rfl rfl (ex_index rfl (hv.get 5 rfl rfl (hd 5 (by decide))) (hv.get 6 rfl rfl (hd 6 (by decide))) (by go_simp)) ⟨A2, ce, g11, g12, k12, hv.put rank_app_apart 7 rfl (Nat.le_of_ble_eq_true rfl) (Nat.le_of_ble_eq_true rfl) rfl, HO⟩
    · -- 8 load
      rintro L a wc ⟨A2, ce, g11, g12, k12, hv, HO⟩ hL hc hd
      have eY : wc.cell? (bL.add p) = some (.slice OA mo co) := HO.out.ext.cell hY.out
      exact wpOp_val rfl rfl (ex_load rfl (hv.get 7 rfl rfl (hd 7 (by decide))) (by go_simp)) ⟨A2, ce, g11, g12, k12, hv.put rank_app_apart 8 rfl (Nat.le_of_ble_eq_true rfl) (Nat.le_of_ble_eq_true rfl) rfl, HO⟩
    · -- 9 move
      rintro L a wc ⟨A2, ce, g11, g12, k12, hv, HO⟩ hL hc hd
      exact wpOp_val rfl rfl (ex_move rfl ((hv.fixed 7 (by decide)).trans rfl)) ⟨A2, ce, g11, g12, k12, hv.put rank_app_apart 9 rfl (Nat.le_of_ble_eq_true rfl) (Nat.le_of_ble_eq_true rfl) rfl, HO⟩
    · -- 10 call
      rintro L a wc ⟨A2, ce, g11, g12, k12, hv, HO⟩ hL hc hd
      refine wpOp_call (R := fun v w1 => ∃ A3 c3, v = .slice A3 m c3 ∧ Ext wc w1 ∧ w1.ownsRow wc.heap.size 5 1 (.slice A3 m c3) m (q.map bv)) rfl rfl (ex_call rfl rfl (map3c (hv.get 4 rfl rfl (hd 4 (by decide))) (hv.get 8 rfl rfl (hd 8 (by decide))) (hv.get 9 rfl rfl (hd 9 (by decide)))) (ent_less _ _)) ((rLess_at r o xa m (.slice RA m cr) (.slice OA mo co) wc hm (Rs.ext RB.ext _ _ _ _ HO.out.ext HR.out) (Rs.ext RB.ext _ _ _ _ HO.out.ext HS.out) hl hlo ha ho.out).mono (fun e w' ⟨A3, c3, h1, h2, h3⟩ => ⟨_, h1, A3, c3, rfl, h2, by rw [hq.out]; exact h3⟩)) ?_
      rintro v w' ⟨A3, c3, rfl, hx, ho2⟩
      have n11 : L 11 = false := Bool.eq_false_iff.2 fun h => Bool.false_ne_true (hL.symm.trans (hc 11 h 10 (by decide)))
      have n12 : L 12 = false := Bool.eq_false_iff.2 fun h => Bool.false_ne_true (hL.symm.trans (hc 11 (hc 12 h 11 (by decide)) 10 (by decide)))
      have h := HO.out.behind hx ho2
      simp only [hL, n11, n12, Bool.false_eq_true, if_false, List.append_nil] at h
      have h2 : Owns w w' ([(if L 12 = true then ⟨.slice (some ⟨g12, 0, none⟩) (i + 1) k12, 63, 1, i + 1, vs ++ [.slice A3 m c3]⟩ else ⟨.slice A i ca, 63, 1, i, vs⟩), (if L 11 = true then ⟨.slice (some ⟨g11, 0, none⟩) 1 1, 63, 1, 1, [.slice A3 m c3]⟩ else no)] ++ (L0 ++ [(⟨.slice A3 m c3, 5, 1, m, q.map bv⟩ : LRow)])) := by simp only [n11, n12, Bool.false_eq_true, if_false]; simpa using h
      exact ⟨A3, c3, g11, g12, k12, hv.put rank_app_apart 10 rfl (Nat.le_of_ble_eq_true rfl) (Nat.le_of_ble_eq_true rfl) rfl, Lib.hid h2⟩
    · -- 11 lines
      rintro L a wc ⟨A2, ce, g11, g12, k12, hv, HO⟩ hL hc hd
      have hn := HO.out.new 1 #[.slice A2 m ce] 63 (by simp [maxLen])
      exact wpOp_value rfl rfl (ex_build rfl Tryd.underlying62 info_bytes (hv.get 10 rfl rfl (hd 10 (by decide))) rfl) ⟨A2, ce, wc.heap.size, g12, k12, hv.put rank_app_apart 11 rfl (Nat.le_of_ble_eq_true rfl) (Nat.le_of_ble_eq_true rfl) rfl, Lib.hid hn⟩
    · -- 12 lines
      rintro L a wc ⟨A2, ce, g11, g12, k12, hv, HO⟩ hL hc hd
      refine wpOp_append rfl rfl 62 63 rfl Tryd.underlying62 info_bytes rfl HO.out 0 (congrArg some (if_neg (by simp [hL]))) (hv.get 0 rfl rfl (hd 0 (by decide))) (hv.get 11 rfl rfl (hd 11 (by decide))) (HO.out.cell 1 (congrArg some (if_pos (hd 11 (by decide)))) 0 rfl) rfl (by omega) (by decide) ?_
      intro gg cc w2 hO2
      have hv := hv.reset 13 (Bool.eq_false_iff.2 fun h => Bool.false_ne_true (hL.symm.trans (hc 13 h 12 (by decide)))) (.slice (some ⟨gg, 0, none⟩) (i + 1) cc)
      exact ⟨A2, ce, g11, gg, cc, hv.put rank_app_apart 12 rfl (Nat.le_of_ble_eq_true rfl) (Nat.le_of_ble_eq_true rfl) rfl, Lib.hid hO2⟩
    · -- 13 assign
      rintro L a wc ⟨A2, ce, g11, g12, k12, hv, HO⟩ hL hc hd
      exact wpOp_val rfl rfl (ex_assign rfl (hv.get 12 rfl rfl (hd 12 (by decide)))) ⟨A2, ce, g11, g12, k12, hv.put rank_app_apart 13 rfl (Nat.le_of_ble_eq_true rfl) (Nat.le_of_ble_eq_true rfl) rfl, HO⟩
  · rintro L a wc ⟨A2, ce, g11, g12, k12, hv, HO⟩ hall
    show K a wc
    have ha := act_lit a
    rw [hv.size, hv.defers] at ha
    have hl : ∀ f : Nat → Value, ((List.range (⟨#[c0, c1, c2, c3, c4, .slice (some bL) n cl, c6, .int .i64 xa, .int .i64 p, c9, .slice A i ca, .int .i64 k, c12, c13, c14, c15, c16, c17, c18, c19, c20, c21, c22, c23, c24, c25, c26, c27, c28, c29, c30, c31, c32, c33, c34, c35, c36, c37, c38, c39, c40, c41, c42, c43, c44, c45, c46, c47, c48, c49, c50, c51, c52, c53, c54, c55, c56, c57, c58, c59, c60, c61, c62, c63, c64], df⟩ : Act).tmps.size).map f).toArray = #[f 0, f 1, f 2, f 3, f 4, f 5, f 6, f 7, f 8, f 9, f 10, f 11, f 12, f 13, f 14, f 15, f 16, f 17, f 18, f 19, f 20, f 21, f 22, f 23, f 24, f 25, f 26, f 27, f 28, f 29, f 30, f 31, f 32, f 33, f 34, f 35, f 36, f 37, f 38, f 39, f 40, f 41, f 42, f 43, f 44, f 45, f 46, f 47, f 48, f 49, f 50, f 51, f 52, f 53, f 54, f 55, f 56, f 57, f 58, f 59, f 60, f 61, f 62, f 63, f 64] := fun _ => rfl
    rw [hl] at ha
    simp only [hv.fixed 0 (by decide), hv.fixed 1 (by decide), hv.fixed 2 (by decide), hv.fixed 3 (by decide), hv.fixed 4 (by decide), hv.fixed 5 (by decide), hv.fixed 6 (by decide), hv.fixed 7 (by decide), hv.fixed 8 (by decide), hv.fixed 9 (by decide), hv.fixed 11 (by decide), hv.fixed 12 (by decide), hv.fixed 13 (by decide), hv.fixed 14 (by decide), hv.fixed 15 (by decide), hv.fixed 16 (by decide), hv.fixed 17 (by decide), hv.fixed 18 (by decide), hv.fixed 19 (by decide), hv.fixed 20 (by decide), hv.fixed 21 (by decide), hv.fixed 22 (by decide), hv.fixed 23 (by decide), hv.fixed 24 (by decide), hv.fixed 25 (by decide), hv.fixed 26 (by decide), hv.fixed 27 (by decide), hv.fixed 28 (by decide), hv.fixed 29 (by decide), hv.fixed 30 (by decide), hv.fixed 31 (by decide), hv.fixed 32 (by decide), hv.fixed 33 (by decide), hv.fixed 34 (by decide), hv.fixed 35 (by decide), hv.fixed 36 (by decide), hv.fixed 37 (by decide), hv.fixed 38 (by decide), hv.fixed 39 (by decide), hv.fixed 40 (by decide), hv.fixed 41 (by decide), hv.fixed 42 (by decide), hv.fixed 43 (by decide), hv.fixed 44 (by decide), hv.fixed 45 (by decide), hv.fixed 46 (by decide), hv.fixed 47 (by decide), hv.fixed 48 (by decide), hv.fixed 49 (by decide), hv.fixed 63 (by decide), hv.fixed 64 (by decide), hv.get 13 (d := 10) rfl rfl (hall 13 (by decide))] at ha
    rw [ha]
    have hO := HO.out
    simp only [hall 10 (by decide), hall 11 (by decide), hall 12 (by decide), if_true] at hO
    exact hK A2 ce g12 k12 _ _ _ _ _ _ _ _ _ _ _ _ _ wc (hO.drop 1)
set_option maxHeartbeats 4000000 in
theorem rRank_any (rows : List (List UInt8)) (n : Nat) (V : Value) (w : World) (hV : Rs (Rs RB) w V rows) (hw : ∀ r ∈ rows, r.length = n) (hn : n ≤ 1000) (hlen : rows.length ≤ 1000) :
    Calls Tryd.prog 41 #[V, .int .i64 n] w fun e w' => e = .returned (.int .i64 (Cd.rankR rows n : Nat)) ∧ Ext w w' := by
  have hz := fun xa (ha : xa ≤ n) => Cd.rankTo_zero hw xa ha
  have hsz := fun xa => Nat.le_trans (Cd.rankTo_size rows xa) hlen
  have hle := fun xa => Cd.rankTo_le rows xa
  have h0 : Cd.rankTo rows 0 = (rows, 0) := by unfold Cd.rankTo; rfl
  have HZ := Lib.hid (And.intro hz (And.intro hsz hle))
  have HV0 : Hid (Ext w w ∧ Rs (Rs RB) w V (Cd.rankTo rows 0).1) := by rw [h0]; exact Lib.hid (And.intro (Ext.refl _) hV)
  have hr0 : (Cd.rankTo rows 0).2 = 0 := by rw [h0]
  clear hz hsz hle hV hw h0
  go_enter Tryd.func41, Tryd.ntmps41
  go_wp2_with fail
  go_loopw [5, 6, 7] (fun vl vr va wr => ∃ xa rk : Nat, xa ≤ n ∧ va = .int .i64 xa ∧ vr = .int .i64 rk ∧ rk ≤ 1000 ∧ Hid (rk = (Cd.rankTo rows xa).2) ∧ Hid (Ext w wr ∧ Rs (Rs RB) wr vl (Cd.rankTo rows xa).1)) (fun _ _ va _ => n - (intOf va).toNat)
  case atStart => exact ⟨0, 0, Nat.zero_le _, rfl, rfl, by omega, Lib.hid hr0.symm, HV0⟩
  case round =>
    obtain ⟨xa, rk, hxa, rfl, rfl, hrk, HRK, HR⟩ := hrel
    obtain ⟨wo, rfl⟩ : ∃ wo, wo = wr := ⟨_, rfl⟩
    clear hr0
    by_cases hlt : xa < n
    · have hz := HZ.out.1 xa (by omega)
      have hsz := HZ.out.2.1 xa
      have hnext : ∀ p, Cd.pivTo (Cd.rankTo rows xa).1 xa (Cd.rankTo rows xa).1.length = some p → Cd.rankTo rows (xa + 1) = (Cd.restTo (Cd.rankTo rows xa).1 p xa (Cd.rankTo rows xa).1.length, (Cd.rankTo rows xa).2 + 1) := fun p h => Cd.rankTo_yes h
      have hskip : Cd.pivTo (Cd.rankTo rows xa).1 xa (Cd.rankTo rows xa).1.length = none → Cd.rankTo rows (xa + 1) = Cd.rankTo rows xa := fun h => Cd.rankTo_no h
      have hrl := HR.out.2
      obtain ⟨l, hl⟩ : ∃ l, (Cd.rankTo rows xa).1 = l := ⟨_, rfl⟩
      rw [hl] at hz hsz hnext hskip hrl
      obtain ⟨LA, lc, rfl, hll⟩ := hrl.form
      have HN := Lib.hid (And.intro hnext hskip)
      have HZZ := Lib.hid (And.intro hz hl)
      have hp0 : Cd.pivTo l xa 0 = none := by unfold Cd.pivTo; rfl
      have HP0 := Lib.hid hp0
      obtain ⟨ll, hlle⟩ : ∃ ll, l.length = ll := ⟨_, rfl⟩
      rw [hlle] at hsz hll hrl ⊢
      have HRL := Lib.hid (And.intro HR.out.1 hrl)
      have HLL := Lib.hid hlle
      clear hz hnext hskip hrl hl hp0 hlle HR
      go_wp2_with fail
      go_loop [8, 9] (fun vp vk => ∃ (k : Nat) (pv : Int), k ≤ ll ∧ vk = .int .i64 k ∧ vp = .int .i64 pv ∧ -1 ≤ pv ∧ pv ≤ 1000 ∧ Hid ((pv < 0 ∧ Cd.pivTo l xa k = none) ∨ (0 ≤ pv ∧ Cd.pivTo l xa k = some pv.toNat))) (fun _ vk => ll - (intOf vk).toNat)
      case atStart => exact ⟨0, -1, Nat.zero_le _, rfl, rfl, by omega, by omega, Lib.hid (.inl (And.intro (by omega) HP0.out))⟩
      case round =>
        obtain ⟨k, pv, hk, rfl, rfl, hpv1, hpv2, HPV⟩ := hrel
        by_cases hpv : pv < 0
        · have hno : Cd.pivTo l xa k = none := by
            rcases HPV.out with h | h
            · exact h.2
            · omega
          have HNO := Lib.hid hno
          clear hno
          by_cases hkl : k < ll
          · have hkl2 : k < l.length := by rw [HLL.out]; exact hkl
            obtain ⟨ad, u, rfl, hc, hu⟩ := HRL.out.2.at hkl2
            obtain ⟨B, cB, rfl, hlB⟩ := hu.form
            have hul := (HZZ.out.1 _ (List.getElem_mem hkl2)).1
            have hub := hu.rd.at (k := xa) (by simp [hul]; exact hlt)
            have hgd := getD_get (x := ([] : List UInt8)) hkl2
            have hno := fun h => Cd.pivTo_no (l := l) (a := xa) (k := k) HNO.out h
            have hyes := fun h => Cd.pivTo_yes (l := l) (a := xa) (k := k) HNO.out h
            rw [hgd] at hno hyes
            obtain ⟨r, hr⟩ : ∃ r, l[k] = r := ⟨_, rfl⟩
            simp only [hr] at hub
            rw [hr] at hc hul hno hyes
            rw [hul] at hc
            have hxr : xa < r.length := by rw [hul]; exact hlt
            obtain ⟨bd, rfl, _, hb⟩ := hub
            rw [List.getElem_map, ← getD_get (x := (0 : UInt8)) hxr] at hb
            obtain ⟨xb, hxb⟩ : ∃ xb, r.getD xa 0 = xb := ⟨_, rfl⟩
            rw [hxb] at hb hno hyes
            have HY := Lib.hid (And.intro hno hyes)
            clear hu hlB hul hgd hno hyes hr hxr hxb
            by_cases hb0 : xb = 0
            · have e1 : ((xb.toNat : Int) != 0) = false := by rw [hb0]; rfl
              have HB := Lib.hid hb0
              clear hb0
              go_wp2_with fail
              go_round
              case rel => exact ⟨k + 1, pv, by omega, by go_num, rfl, by omega, by omega, Lib.hid (.inl (And.intro hpv (HY.out.1 HB.out)))⟩
              case measure => simp [intOf]; omega
            · have e1 : ((xb.toNat : Int) != 0) = true := by
                rw [bne_iff_ne]
                intro h
                exact hb0 (UInt8.toNat_inj.1 (by simpa using h))
              have HB := Lib.hid hb0
              clear hb0
              go_wp2_with fail
              go_round
              case rel => exact ⟨k + 1, (k : Int), by omega, by go_num, rfl, by omega, by omega, Lib.hid (.inr (And.intro (by omega) (by rw [Int.toNat_natCast]; exact HY.out.2 HB.out)))⟩
              case measure => simp [intOf]; omega
          · obtain rfl : k = ll := by omega
            have hsk := HN.out.2 (by rw [HLL.out]; exact HNO.out)
            have HSK := Lib.hid hsk
            clear hsk
            go_wp2_with fail
            go_roundw
            case rel => exact ⟨xa + 1, rk, by omega, by go_num, rfl, by omega, Lib.hid (by rw [HSK.out]; exact HRK.out), Lib.hid (by rw [HSK.out, HZZ.out.2]; exact HRL.out)⟩
            case measure => simp [intOf]; omega
        · obtain ⟨p, rfl⟩ : ∃ p : Nat, pv = p := ⟨pv.toNat, by omega⟩
          have hyes : Cd.pivTo l xa k = some p := by
            rcases HPV.out with h | h
            · omega
            · simpa using h.2
          have hful : Cd.pivTo l xa l.length = some p := Cd.pivTo_mono hyes (by rw [HLL.out]; exact hk)
          obtain ⟨hpl, hpn⟩ := Cd.pivTo_spec hful
          have hstep := HN.out.1 p hful
          obtain ⟨bL, u2, rfl, hc2, hu2⟩ := HRL.out.2.at hpl
          obtain ⟨OA, oc, rfl, hlO⟩ := hu2.form
          have hol := (HZZ.out.1 _ (List.getElem_mem hpl)).1
          have hgp := getD_get (x := ([] : List UInt8)) hpl
          have hrlen : ∀ m, (Cd.restTo l p xa m).length ≤ m := Cd.restTo_len l p xa
          have hrle := HZ.out.2.2 xa
          rw [← HRK.out] at hrle
          have hpl2 : p < ll := by rw [← HLL.out]; exact hpl
          have HST := Lib.hid (And.intro hstep (And.intro hpn hrlen))
          have HO := Lib.hid (And.intro hc2 (And.intro hu2 (And.intro hol hgp)))
          have hr0 : Cd.restTo l p xa 0 = [] := by unfold Cd.restTo; rfl
          have HR0 := Lib.hid hr0
          clear hyes hful hpn hstep hc2 hu2 hlO hol hgp hrlen hr0
          by_cases hkl : k < ll
          all_goals
            go_wp2_with fail
            go_loopw [10, 11] (fun vo vj wr => ∃ (j i ca : Nat) (A : Option Addr) (vs : List Value) (L0 : List LRow), j ≤ ll ∧ vj = .int .i64 j ∧ vo = .slice A i ca ∧ i ≤ j ∧ Hid (Owns wo wr ([⟨.slice A i ca, 63, 1, i, vs⟩, no] ++ (L0 ++ [])) ∧ RowsIn vs L0 (Cd.restTo l p xa j))) (fun _ vj _ => ll - (intOf vj).toNat)
            case atStart => exact ⟨0, 0, 0, none, [], [], Nat.zero_le _, rfl, rfl, Nat.le_refl _, Lib.hid (And.intro (Owns.start wo (by intro r hr; simp [no] at hr; rcases hr with rfl | rfl <;> simp)) (by rw [HR0.out]; exact RowsIn.nil _))⟩
            case round =>
              obtain ⟨j, i, ca, A, vs, L0, hj, rfl, rfl, hij, HJ⟩ := hrel
              by_cases hjl : j < ll
              · by_cases hjp : j = p
                · have e1 : ((j : Int) != (p : Int)) = false := by rw [hjp]; simp
                  have hs : Cd.restTo l p xa (j + 1) = Cd.restTo l p xa j := by rw [hjp]; exact Cd.restTo_skip l p xa
                  have HS := Lib.hid hs
                  clear hjp hs
                  go_wp2_with fail
                  go_roundw
                  case rel => exact ⟨j + 1, i, ca, A, vs, L0, by omega, by go_num, rfl, by omega, Lib.hid (by rw [HS.out]; exact HJ.out)⟩
                  case measure => simp [intOf]; omega
                · have e1 : ((j : Int) != (p : Int)) = true := by rw [bne_iff_ne]; omega
                  have hs := Cd.restTo_next (l := l) (a := xa) hjp
                  have hjl2 : j < l.length := by rw [HLL.out]; exact hjl
                  obtain ⟨ad, u, ea, hc, hu⟩ := HRL.out.2.at hjl2
                  injection ea with ea
                  subst ea
                  obtain ⟨RA, cr, rfl, hlR⟩ := hu.form
                  have hrl := (HZZ.out.1 _ (List.getElem_mem hjl2)).1
                  rw [getD_get hjl2, HO.out.2.2.2] at hs
                  have hpp := HO.out
                  rw [hpp.2.2.1] at hpp
                  have HSS := Lib.hid (And.intro hs (And.intro hc (And.intro hu hrl)))
                  clear hs hc hu hrl hlR hjp hpp
                  go_upto_region 19 with fail
                  refine wp_atEnd' (rank_app bL A RA OA ll lc i ca j p xa n cr n oc l[j] l[p] _ vs L0 wo wr (by omega) hjl hpl2 HSS.out.2.2.2 hn (by rw [HO.out.2.2.1]; exact Nat.le_refl _) hlt (Lib.hid (by rw [← HO.out.2.2.2]; exact HST.out.2.1)) (Lib.hid rfl) (Lib.hid (by rw [← HSS.out.2.2.2]; exact HSS.out.2.1)) (Lib.hid (by rw [← HO.out.2.2.1]; exact HO.out.1)) (Lib.hid (by rw [← HSS.out.2.2.2]; exact HSS.out.2.2.1)) (Lib.hid (by rw [← HO.out.2.2.1]; exact HO.out.2.1)) (Lib.hid HJ.out.1.drew) _ _ _ _ _ _ _ _ _ _ _ _ _ _ _ _ _ _ _ _ _ _ _ _ _ _ _ _ _ _ _ _ _ _ _ _ _ _ _ _ _ _ _ _ _ _ _ _ _ _ _ _ _ _ _ _ _ _ _ _ _ _ ?_)
                  intro A9 c9 g9 k9
                  intros
                  rename_i wx hOx
                  have hrs : RowsIn (vs ++ [.slice A9 n c9]) (L0 ++ [(⟨.slice A9 n c9, 5, 1, n, (Cd.lessR l[j] l[p] xa).map bv⟩ : LRow)]) (Cd.restTo l p xa j ++ [Cd.lessR l[j] l[p] xa]) := (HJ.out.2.mono (fun x hx => List.mem_append_left _ hx)).snoc (by rw [Cd.lessR_len]; exact HSS.out.2.2.2) (List.mem_append_right _ (List.mem_singleton.2 rfl))
                  have HOX := Lib.hid (And.intro hOx hrs)
                  clear hOx hrs
                  go_wp2_with fail
                  go_roundw
                  case rel => exact ⟨j + 1, i + 1, _, _, _, _, by omega, by go_num, rfl, by omega, Lib.hid (And.intro (by simpa using HOX.out.1) (by rw [HSS.out.1]; exact HOX.out.2))⟩
                  case measure => simp [intOf]; omega
              · obtain rfl : j = ll := by omega
                have hrest : Rs (Rs RB) wr (.slice A i ca) (Cd.restTo l p xa j) := RowsIn.rs HJ.out.1 (i := 0) rfl (HJ.out.2.mono (fun x hx => by simp [hx])) (by have := HST.out.2.2 j; omega) (fun r hr => by
                  obtain ⟨k2, h1, h2, rfl⟩ := Cd.restTo_mem.1 hr
                  rw [Cd.lessR_len]
                  have h3 := (HZZ.out.1 _ (Cd.getD_mem (l := l) (k := k2) (x := []) (by rw [HLL.out]; exact h1))).1
                  omega)
                have HREST := Lib.hid (And.intro (HRL.out.1.trans HJ.out.1.ext) hrest)
                clear hrest
                go_wp2_with fail
                go_roundw
                case rel => exact ⟨xa + 1, rk + 1, by omega, by go_num, by go_num, by omega, Lib.hid (by rw [HST.out.1, HRK.out]), Lib.hid (by rw [HST.out.1]; show _ ∧ Rs (Rs RB) _ _ (Cd.restTo l p xa l.length); rw [HLL.out]; exact HREST.out)⟩
                case measure => simp [intOf]; omega
    · obtain rfl : xa = n := by omega
      go_wp2_with fail
      go_ret
      exact ⟨ret_int (by rw [HRK.out]; rfl), HR.out.1⟩
end Go.Proofs.YtdbolgollpnfdaaDoor

/- THE WALK over the specification of codes: Recoverable. -/
namespace Cd
theorem can_nat {d gl m : Nat} {gs : List (List Int)} {R : List (List UInt8)} (h : check d gs gl = 0) (hR : rowsOf d gs gl = R) (hm : m < 2 ^ R.length) : can d gl gs (m : Int) = ((rankR (pickTo R m R.length) d : Int) == (d : Int)) := by
  subst hR
  have hw : ∀ r ∈ pickTo (rowsOf d gs gl) m (rowsOf d gs gl).length, r.length = d := fun r hr => by have := rowsOf_width h (pickTo_mem hr); simpa using this
  rw [Bool.eq_iff_iff, can_def, beq_iff_eq]
  have hi := rank_iff hw
  show _ ∧ _ ∧ (Gf.stairs d (pick (rowsOf d gs gl) m)).length = d ↔ _
  unfold pick
  rw [← hi]
  constructor
  · rintro ⟨_, _, h3⟩; rw [h3]
  · intro h3; exact ⟨h, hm, by omega⟩
theorem can_no {d gl m : Int} {gs : List (List Int)} (h : check d gs gl ≠ 0 ∨ isSet d gs gl m = false) : can d gl gs m = false := by
  unfold can
  rw [decide_eq_false_iff_not]
  rintro ⟨h0, h1, h2, _⟩
  rcases h with h | h
  · exact h h0
  · unfold isSet at h
    rw [decide_eq_false_iff_not] at h
    apply h
    have hl := rowsOf_len h0
    have hp := pieces_ok h0
    rw [← hl] at hp
    rw [hp, Int.toNat_natCast]
    exact ⟨h1, by rw [Go.Proofs.YtdbolgollpnfdaaDoor.nat_pow_cast] at h2; exact h2⟩
theorem pickTo_len (R : List (List UInt8)) (m : Nat) : ∀ k, (pickTo R m k).length ≤ k
  | 0 => by simp [pickTo_zero]
  | k + 1 => by
    have ih := pickTo_len R m k
    unfold pickTo at ih ⊢
    rw [List.range_succ, List.filterMap_append, List.length_append]
    have : (List.filterMap (fun i => if bitAt m i = 1 then R[i]? else none) [k]).length ≤ 1 := List.length_filterMap_le _ _
    omega
end Cd
namespace Go.Proofs.YtdbolgollpnfdaaDoor
open Go.RowKit
theorem ent_rank : ∀ args w, (callFunc 41 args).run Tryd.prog w = .ok (.enter 41 args) w := enters_of Tryd.func41 (by kernel_rfl) rfl
noncomputable def rec_last_code : Code := ((Tryd.f30.body.bind (regionOf 13)).getD .skip)
def rec_last_dsts : List (Option Nat) := [some 33, some 34, some 35, some 36, some 37, some 38, some 39, some 4]
theorem rec_last_apart : apartD rec_last_dsts = true := by decide +kernel
set_option maxRecDepth 1000000 in
set_option maxHeartbeats 16000000 in
theorem rec_last (B i cp d : Nat) (A : Option Addr) (bb : Bool) (rs : List (List UInt8)) (wr : World) (hd16 : d ≤ 16) (hl : rs.length ≤ 1000) (h0 : wr.cell? ⟨B, 0, none⟩ = some (.int .i64 d)) (HR : Hid (Rs (Rs RB) wr (.slice A i cp) rs)) (hw : Hid (∀ r ∈ rs, r.length = d)) (hb : Hid (((Cd.rankR rs d : Int) == (d : Int)) = bb)) (c0 c1 c3 c4 c5 c7 c8 c9 c10 c11 c12 c13 c14 c15 c16 c17 c18 c19 c20 c21 c22 c23 c24 c25 c26 c27 c28 c29 c30 c31 c32 c33 c34 c35 c36 c37 c38 c39 : Value) (df : List Deferred) (K : Act → World → Prop)
    (hK : ∀  (u33 u34 u35 u36 u37 u38 u39 : Value) (wx : World), Ext wr wx → K ⟨#[c0, c1, .pointer (some ⟨B, 0, none⟩), c3, .bool bb, c5, .slice A i cp, c7, c8, c9, c10, c11, c12, c13, c14, c15, c16, c17, c18, c19, c20, c21, c22, c23, c24, c25, c26, c27, c28, c29, c30, c31, c32, u33, u34, u35, u36, u37, u38, u39], df⟩ wx) :
    Code.wp Tryd.prog rec_last_code (AtEnd K) ⟨#[c0, c1, .pointer (some ⟨B, 0, none⟩), c3, c4, c5, .slice A i cp, c7, c8, c9, c10, c11, c12, c13, c14, c15, c16, c17, c18, c19, c20, c21, c22, c23, c24, c25, c26, c27, c28, c29, c30, c31, c32, c33, c34, c35, c36, c37, c38, c39], df⟩ wr := by
  conv => arg 2; whnf
  refine region_inv (by kernel_rfl) [[], [], [1], [0, 2], [], [4], [3, 5], [6, 3, 0, 1, 2, 3, 4, 5, 6]] (by kernel_rfl) [0, 1, 2, 3, 4, 5, 6, 7] (by decide +kernel) (by decide +kernel) (by decide +kernel) (fun L a wc => Inv rec_last_dsts [.slice A i cp, .pointer (some ⟨B, 0, none⟩), .int .i64 d, .int .i64 (Cd.rankR rs d : Nat), .pointer (some ⟨B, 0, none⟩), .int .i64 d, .bool bb, .bool bb] ⟨#[c0, c1, .pointer (some ⟨B, 0, none⟩), c3, c4, c5, .slice A i cp, c7, c8, c9, c10, c11, c12, c13, c14, c15, c16, c17, c18, c19, c20, c21, c22, c23, c24, c25, c26, c27, c28, c29, c30, c31, c32, c33, c34, c35, c36, c37, c38, c39], df⟩ L a ∧ Hid (Ext wr wc)) ⟨Inv.start, Lib.hid ((Ext.refl wr).drew)⟩ ?_ ?_
  · refine ⟨?_, ?_, ?_, ?_, ?_, ?_, ?_, ?_, trivial⟩
    · -- 0 move
      rintro L a wc ⟨hv, HO⟩ hL hc hd
      exact wpOp_val rfl rfl (ex_move rfl ((hv.fixed 6 (by decide)).trans rfl)) ⟨hv.put rec_last_apart 0 rfl (Nat.le_of_ble_eq_true rfl) (Nat.le_of_ble_eq_true rfl) rfl, HO⟩
    · -- 1 field
      rintro L a wc ⟨hv, HO⟩ hL hc hd
      exact wpOp_val rfl rfl (ex_field rfl ((hv.fixed 2 (by decide)).trans rfl) (by go_simp)) ⟨hv.put rec_last_apart 1 rfl (Nat.le_of_ble_eq_true rfl) (Nat.le_of_ble_eq_true rfl) rfl, HO⟩
    · -- 2 load
      rintro L a wc ⟨hv, HO⟩ hL hc hd
      have e0 : wc.cell? ⟨B, 0, none⟩ = some (.int .i64 d) := HO.out.cell h0
      exact wpOp_val rfl rfl (ex_load rfl (hv.get 1 rfl rfl (hd 1 (by decide))) (by go_simp)) ⟨hv.put rec_last_apart 2 rfl (Nat.le_of_ble_eq_true rfl) (Nat.le_of_ble_eq_true rfl) rfl, HO⟩
    · -- 3 call
      rintro L a wc ⟨hv, HO⟩ hL hc hd
      refine wpOp_call (R := fun v w1 => v = .int .i64 (Cd.rankR rs d : Nat) ∧ Ext wc w1) rfl rfl (ex_call rfl rfl (map2c (hv.get 0 rfl rfl (hd 0 (by decide))) (hv.get 2 rfl rfl (hd 2 (by decide)))) (ent_rank _ _)) ((rRank_any rs d (.slice A i cp) wc (Rs.ext (Rs.ext RB.ext) _ _ _ _ HO.out HR.out) hw.out (by omega) hl).mono (fun e w' h => ⟨_, h.1, rfl, h.2⟩)) ?_
      rintro v w' ⟨rfl, hx⟩
      exact ⟨hv.put rec_last_apart 3 rfl (Nat.le_of_ble_eq_true rfl) (Nat.le_of_ble_eq_true rfl) rfl, Lib.hid (HO.out.trans hx)⟩
    · -- 4 field
      rintro L a wc ⟨hv, HO⟩ hL hc hd
      exact wpOp_val rfl rfl (ex_field rfl ((hv.fixed 2 (by decide)).trans rfl) (by go_simp)) ⟨hv.put rec_last_apart 4 rfl (Nat.le_of_ble_eq_true rfl) (Nat.le_of_ble_eq_true rfl) rfl, HO⟩
    · -- 5 load
      rintro L a wc ⟨hv, HO⟩ hL hc hd
      have e0 : wc.cell? ⟨B, 0, none⟩ = some (.int .i64 d) := HO.out.cell h0
      exact wpOp_val rfl rfl (ex_load rfl (hv.get 4 rfl rfl (hd 4 (by decide))) (by go_simp)) ⟨hv.put rec_last_apart 5 rfl (Nat.le_of_ble_eq_true rfl) (Nat.le_of_ble_eq_true rfl) rfl, HO⟩
    · -- 6 bin
      rintro L a wc ⟨hv, HO⟩ hL hc hd
      have h := hb.out
      exact wpOp_val rfl rfl (ex_bin rfl (hv.get 3 rfl rfl (hd 3 (by decide))) (hv.get 5 rfl rfl (hd 5 (by decide))) (by go_simp)) ⟨hv.put rec_last_apart 6 rfl (Nat.le_of_ble_eq_true rfl) (Nat.le_of_ble_eq_true rfl) rfl, HO⟩
    · -- 7 assign
      rintro L a wc ⟨hv, HO⟩ hL hc hd
      exact wpOp_val rfl rfl (ex_assign rfl (hv.get 6 rfl rfl (hd 6 (by decide)))) ⟨hv.put rec_last_apart 7 rfl (Nat.le_of_ble_eq_true rfl) (Nat.le_of_ble_eq_true rfl) rfl, HO⟩
  · rintro L a wc ⟨hv, HO⟩ hall
    show K a wc
    have ha := act_lit a
    rw [hv.size, hv.defers] at ha
    have hl : ∀ f : Nat → Value, ((List.range (⟨#[c0, c1, .pointer (some ⟨B, 0, none⟩), c3, c4, c5, .slice A i cp, c7, c8, c9, c10, c11, c12, c13, c14, c15, c16, c17, c18, c19, c20, c21, c22, c23, c24, c25, c26, c27, c28, c29, c30, c31, c32, c33, c34, c35, c36, c37, c38, c39], df⟩ : Act).tmps.size).map f).toArray = #[f 0, f 1, f 2, f 3, f 4, f 5, f 6, f 7, f 8, f 9, f 10, f 11, f 12, f 13, f 14, f 15, f 16, f 17, f 18, f 19, f 20, f 21, f 22, f 23, f 24, f 25, f 26, f 27, f 28, f 29, f 30, f 31, f 32, f 33, f 34, f 35, f 36, f 37, f 38, f 39] := fun _ => rfl
    rw [hl] at ha
    simp only [hv.fixed 0 (by decide), hv.fixed 1 (by decide), hv.fixed 2 (by decide), hv.fixed 3 (by decide), hv.fixed 5 (by decide), hv.fixed 6 (by decide), hv.fixed 7 (by decide), hv.fixed 8 (by decide), hv.fixed 9 (by decide), hv.fixed 10 (by decide), hv.fixed 11 (by decide), hv.fixed 12 (by decide), hv.fixed 13 (by decide), hv.fixed 14 (by decide), hv.fixed 15 (by decide), hv.fixed 16 (by decide), hv.fixed 17 (by decide), hv.fixed 18 (by decide), hv.fixed 19 (by decide), hv.fixed 20 (by decide), hv.fixed 21 (by decide), hv.fixed 22 (by decide), hv.fixed 23 (by decide), hv.fixed 24 (by decide), hv.fixed 25 (by decide), hv.fixed 26 (by decide), hv.fixed 27 (by decide), hv.fixed 28 (by decide), hv.fixed 29 (by decide), hv.fixed 30 (by decide), hv.fixed 31 (by decide), hv.fixed 32 (by decide), hv.get 7 (d := 4) rfl rfl (hall 7 (by decide))] at ha
    rw [ha]
    exact hK _ _ _ _ _ _ _ wc HO.out
set_option maxHeartbeats 4000000 in
theorem rRec_ok (d gl m : Nat) (gs : List (List Int)) (G : Value) (w : World) (hG : Rs (Rs RI) w G gs) (h0 : Cd.check d gs gl = 0) (hs : Cd.isSet d gs gl m = true) :
    Calls Tryd.prog 30 #[.agg #[.int .i64 d, G, .int .i64 gl], .int .i64 m] w fun e w' => e = .returned (.bool (Cd.can d gl gs m)) ∧ Ext w w' := by
  have hx0 := (Ext.refl w).alloc (.cells #[.int .i64 d, G, .int .i64 gl] 24)
  have HX := Lib.hid (And.intro hx0 (Rs.ext (Rs.ext RI.ext) _ _ _ _ hx0 hG))
  obtain ⟨GA, Gc, rfl, hgl⟩ := hG.form
  have hck := Cd.check_ok h0
  obtain ⟨k1, k2, k3, k4, k5, k6⟩ := hck
  have hgn : gs.length ≤ 1000000 := by omega
  obtain ⟨p, hp⟩ : ∃ p, d + gs.length + gl = p := ⟨_, rfl⟩
  have hpc : Cd.pieces d gs gl = (p : Int) := by rw [Cd.pieces_ok h0]; omega
  have hrow : ∀ k, k < p → (Cd.rowsOf d gs gl).getD k [] = (List.range d).map (Cd.rowAt d gs k) := fun k hk => by
    rw [Cd.rowsOf_ok h0]
    exact Cd.rows_get (by show k < d + gs.length + gl; rw [hp]; exact hk)
  have hrl : (Cd.rowsOf (d : Int) gs (gl : Int)).length = p := by rw [Cd.rowsOf_ok h0, Cd.rows_len, ← hp]; rfl
  have hwd : ∀ r ∈ Cd.rowsOf (d : Int) gs (gl : Int), r.length = d := fun r hr => by have := Cd.rowsOf_width h0 hr; simpa using this
  obtain ⟨R, hR⟩ : ∃ R, Cd.rowsOf (d : Int) gs (gl : Int) = R := ⟨_, rfl⟩
  rw [hR] at hrow hrl hwd
  have hm : m < 2 ^ p := by
    unfold Cd.isSet at hs
    rw [decide_eq_true_eq, hpc, Int.toNat_natCast] at hs
    omega
  have hcan := Cd.can_nat (m := m) h0 hR (by rw [hrl]; exact hm)
  rw [hrl] at hcan
  have hp24 : p ≤ 24 := by omega
  have hm24 : m ≤ 16777216 := by
    have : 2 ^ p ≤ 2 ^ 24 := Nat.pow_le_pow_right (by omega) hp24
    omega
  have hd16 : d ≤ 16 := by omega
  have e1 : (Cd.check (d : Int) gs (gl : Int) != 0) = false := by rw [h0]; rfl
  have HC := Lib.hid (And.intro h0 (And.intro hs (And.intro hpc hp)))
  have HP := Lib.hid (And.intro hrow (And.intro hrl (And.intro hwd hcan)))
  clear hG hx0 h0 hs hpc hp hrow hrl hwd hR hcan hm k1 k3 k4 k5 k6
  have step : ∀ (w2 : World), Ext (w.alloc (.cells #[.int .i64 d, .slice GA gs.length Gc, .int .i64 gl] 24)) w2 →
      w2.cell? ⟨w.heap.size, 0, none⟩ = some (.int .i64 d) ∧ w2.cell? ⟨w.heap.size, 1, none⟩ = some (.slice GA gs.length Gc) ∧ w2.cell? ⟨w.heap.size, 2, none⟩ = some (.int .i64 gl) := fun w2 hx => ⟨hx.cell (by go_simp), hx.cell (by go_simp), hx.cell (by go_simp)⟩
  have ST := Lib.hid step
  clear step
  go_enter Tryd.func30, Tryd.ntmps30
  go_wp2_with fail
  refine (rCheck_any d gl gs _ _ HX.out.2 hgn).mono ?_
  rintro e w1 ⟨rfl, hx1⟩
  obtain ⟨c0, c1, c2⟩ := ST.out w1 hx1
  have HX1 := Lib.hid hx1
  clear hx1
  go_wp2_with fail
  clear c0 c1 c2
  refine (rIsSet_any d gl gs m _ _ (Rs.ext (Rs.ext RI.ext) _ _ _ _ HX1.out HX.out.2) hgn).mono ?_
  rintro e w2 ⟨rfl, hx2⟩
  rw [HC.out.2.1]
  have HX2 := Lib.hid (HX1.out.trans hx2)
  have hnil : RowsOwn (w.alloc (.cells #[.int .i64 d, .slice GA gs.length Gc, .int .i64 gl] 24)) w2 none 0 0 (Cd.pickTo R m 0) := by
    rw [Cd.pickTo_zero]
    exact (RowsOwn.nil _).next HX2.out
  have HNIL := Lib.hid hnil
  clear hx2 hnil
  go_wp2_with fail
  go_loopw [6, 7] (fun vo vi wr => ∃ (k i : Nat) (A : Option Addr) (cp : Nat), k ≤ p ∧ i ≤ k ∧ vi = .int .i64 k ∧ vo = .slice A i cp ∧ Hid (RowsOwn (w.alloc (.cells #[.int .i64 d, .slice GA gs.length Gc, .int .i64 gl] 24)) wr A i cp (Cd.pickTo R m k))) (fun _ vi _ => p - (intOf vi).toNat)
  case atStart => exact ⟨0, 0, none, 0, Nat.zero_le _, Nat.le_refl _, rfl, rfl, HNIL⟩
  case round =>
    obtain ⟨k, i, A, cp, hk, hik, rfl, rfl, HR⟩ := hrel
    obtain ⟨c0, c1, c2⟩ := ST.out wr HR.out.ext
    go_wp2_with fail
    clear c0 c1 c2
    refine (rPieces_any d gl gs _ _ (Rs.ext (Rs.ext RI.ext) _ _ _ _ HR.out.ext HX.out.2) hgn).mono ?_
    rintro e w3 ⟨rfl, hx3⟩
    rw [HC.out.2.2.1]
    have HR3 := Lib.hid (HR.out.next hx3)
    obtain ⟨c0, c1, c2⟩ := ST.out w3 HR3.out.ext
    clear hx3
    by_cases hlt : k < p
    · go_wp2_with fail
      refine (rIn_any m k _ hm24 (by omega)).mono ?_
      rintro e w4 ⟨rfl, rfl⟩
      by_cases hb : Cd.bitAt m k = 1
      · have hin : Cd.inS m k = true := by unfold Cd.inS; simp [hb]
        have hkR : k < R.length := by rw [HP.out.2.1]; exact hlt
        have hpk := Cd.pickTo_yes hkR hb
        rw [← getD_get (x := ([] : List UInt8)) hkR, HP.out.1 k hlt] at hpk
        rw [hin]
        have HPK := Lib.hid hpk
        clear hin hpk hkR hb
        go_wp2_with fail
        clear c0 c1 c2
        refine (rRow_ok d gl k gs _ _ (Rs.ext (Rs.ext RI.ext) _ _ _ _ HR3.out.ext HX.out.2) HC.out.1 (by rw [HC.out.2.2.2]; exact hlt)).mono ?_
        rintro e w5 ⟨A2, ce, rfl, hx5, ho5⟩
        have hmo : RowsMore (w.alloc (.cells #[.int .i64 d, .slice GA gs.length Gc, .int .i64 gl] 24)) w5 A i cp (Cd.pickTo R m k) A2 ce ((List.range d).map (Cd.rowAt d gs k)) := HR3.out.more hx5 (by simpa using ho5)
        have HMO := Lib.hid hmo
        clear hx5 ho5 hmo
        go_wp2_with (at_builtin; refine wpl_append_row 62 rfl _ _ rfl Tryd.underlying62 info_bytes rfl HMO.out (by simp) rfl rfl (by omega) ?_; intro A' c' w6 hO)
        have HO := Lib.hid hO
        clear hO
        go_wp2_with fail
        go_roundw
        case rel => exact ⟨k + 1, i + 1, A', c', by omega, by omega, by go_num, rfl, by rw [HPK.out]; exact HO⟩
        case measure => simp [intOf]; omega
      · have hin : Cd.inS m k = false := by unfold Cd.inS; simp [hb]
        have hpk := Cd.pickTo_no (rows := R) hb
        rw [hin]
        have HPK := Lib.hid hpk
        clear hin hpk hb
        go_wp2_with fail
        clear c0 c1 c2
        go_roundw
        case rel => exact ⟨k + 1, i, A, cp, by omega, by omega, by go_num, rfl, by rw [HPK.out]; exact HR3⟩
        case measure => simp [intOf]; omega
    · obtain rfl : k = p := by omega
      have hlen := Cd.pickTo_len R m k
      have hrs := HR3.out.rs (by omega) (fun r hr => by have := HP.out.2.2.1 r (Cd.pickTo_mem hr); omega)
      have HRS := Lib.hid hrs
      have HLEN := Lib.hid hlen
      have HPW : Hid (∀ r ∈ Cd.pickTo R m k, r.length = d) := Lib.hid fun r hr => HP.out.2.2.1 r (Cd.pickTo_mem hr)
      clear hrs hlen
      go_upto_region 13 with fail
      refine wp_atEnd' (rec_last w.heap.size i cp d A (Cd.can d gl gs m) (Cd.pickTo R m k) w3 hd16 (by have := HLEN.out; omega) c0 (Lib.hid HRS.out) HPW (Lib.hid HP.out.2.2.2.symm) _ _ _ _ _ _ _ _ _ _ _ _ _ _ _ _ _ _ _ _ _ _ _ _ _ _ _ _ _ _ _ _ _ _ _ _ _ _ _ _ ?_)
      intros
      rename_i w8 hx8
      have HX8 := Lib.hid (HX.out.1.trans (HR3.out.ext.trans hx8))
      clear hx8 c0 c1 c2
      go_wp2_with fail
      go_ret
      exact ⟨rfl, HX8.out⟩
theorem rRec_any (d gl m : Int) (gs : List (List Int)) (G : Value) (w : World) (hG : Rs (Rs RI) w G gs) (hgn : gs.length ≤ 1000000) :
    Calls Tryd.prog 30 #[.agg #[.int .i64 d, G, .int .i64 gl], .int .i64 m] w fun e w' => e = .returned (.bool (Cd.can d gl gs m)) ∧ Ext w w' := by
  by_cases h0 : Cd.check d gs gl = 0
  · cases hs : Cd.isSet d gs gl m with
    | true =>
      have hk := Cd.check_ok h0
      obtain ⟨n, rfl⟩ : ∃ n : Nat, d = n := ⟨d.toNat, by omega⟩
      obtain ⟨g, rfl⟩ : ∃ n : Nat, gl = n := ⟨gl.toNat, by omega⟩
      have hm : 0 ≤ m := by unfold Cd.isSet at hs; rw [decide_eq_true_eq] at hs; exact hs.1
      obtain ⟨m', rfl⟩ : ∃ n : Nat, m = n := ⟨m.toNat, by omega⟩
      exact rRec_ok n g m' gs G w hG h0 hs
    | false =>
      have hn := Cd.can_no (d := d) (gl := gl) (gs := gs) (m := m) (.inr hs)
      have hx0 := (Ext.refl w).alloc (.cells #[.int .i64 d, G, .int .i64 gl] 24)
      have HX := Lib.hid (And.intro hx0 (Rs.ext (Rs.ext RI.ext) _ _ _ _ hx0 hG))
      obtain ⟨GA, Gc, rfl, hgl⟩ := hG.form
      have e1 : (Cd.check d gs gl != 0) = false := by rw [h0]; rfl
      have HN := Lib.hid (And.intro hn hs)
      clear hG hx0 hn hs h0
      go_enter Tryd.func30, Tryd.ntmps30
      go_wp2_with fail
      refine (rCheck_any d gl gs _ _ HX.out.2 hgn).mono ?_
      rintro e w1 ⟨rfl, hx1⟩
      have c0 : w1.cell? ⟨w.heap.size, 0, none⟩ = some (.int .i64 d) := hx1.cell (by go_simp)
      have c1 : w1.cell? ⟨w.heap.size, 1, none⟩ = some (.slice GA gs.length Gc) := hx1.cell (by go_simp)
      have c2 : w1.cell? ⟨w.heap.size, 2, none⟩ = some (.int .i64 gl) := hx1.cell (by go_simp)
      have HX1 := Lib.hid hx1
      clear hx1
      go_wp2_with fail
      clear c0 c1 c2
      refine (rIsSet_any d gl gs m _ _ (Rs.ext (Rs.ext RI.ext) _ _ _ _ HX1.out HX.out.2) hgn).mono ?_
      rintro e w2 ⟨rfl, hx2⟩
      rw [HN.out.2]
      have HX2 := Lib.hid (HX1.out.trans hx2)
      clear hx2
      go_wp2_with fail
      go_ret
      exact ⟨ret_bool HN.out.1.symm, HX.out.1.trans HX2.out⟩
  · have hn := Cd.can_no (d := d) (gl := gl) (gs := gs) (m := m) (.inl h0)
    have hx0 := (Ext.refl w).alloc (.cells #[.int .i64 d, G, .int .i64 gl] 24)
    have HX := Lib.hid (And.intro hx0 (Rs.ext (Rs.ext RI.ext) _ _ _ _ hx0 hG))
    obtain ⟨GA, Gc, rfl, hgl⟩ := hG.form
    have e1 : (Cd.check d gs gl != 0) = true := by rw [bne_iff_ne]; exact h0
    have HN := Lib.hid hn
    clear hG hx0 hn h0
    go_enter Tryd.func30, Tryd.ntmps30
    go_wp2_with fail
    refine (rCheck_any d gl gs _ _ HX.out.2 hgn).mono ?_
    rintro e w1 ⟨rfl, hx1⟩
    have HX1 := Lib.hid (HX.out.1.trans hx1)
    clear hx1
    go_wp2_with fail
    go_ret
    exact ⟨ret_bool HN.out.symm, HX1.out⟩
end Go.Proofs.YtdbolgollpnfdaaDoor

