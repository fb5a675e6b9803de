/- THE WALKS over the specification of codes: Has, group, Check, Pieces, Size, Bit, In, IsSet. -/
import Derived.Test.YtgkohfmgdejkpaaDoorR7P
import Derived.Test.YtgkohfmgdejkpaaDoorEncX
namespace Go.Proofs.YtgkohfmgdejkpaaDoor
open Go.RowKit
theorem getD_get {α : Type} {l : List α} {x : α} {i : Nat} (h : i < l.length) : l.getD i x = l[i] := by rw [List.getD_eq_getElem?_getD, List.getElem?_eq_getElem h]; rfl
theorem rHas_any (l : List Int) (x : Int) (B : Option Addr) (n c : Nat) (w : World) (hB : Rs RI w (.slice B n c) l) :
    Calls Tryd.prog 46 #[.slice B n c, .int .i64 x] w fun e w' => e = .returned (.bool (decide (x ∈ l))) ∧ w = w' := by
  have hn := hB.len
  obtain ⟨_, _, e0, hl⟩ := hB.form
  have HB := Lib.hid hB
  have HN := Lib.hid hn
  have hl2 : n ≤ 9223372036854775807 := by omega
  clear hB hn e0 hl
  go_enter Tryd.func46, Tryd.ntmps46
  go_wp2_with fail
  go_loop [5] (fun vi => ∃ i : Nat, i ≤ n ∧ vi = .int .i64 i ∧ Hid (∀ j, j < i → l.getD j 0 ≠ x)) (fun vi => n - (intOf vi).toNat)
  case atStart => exact ⟨0, Nat.zero_le _, rfl, Lib.hid fun j hj => absurd hj (Nat.not_lt_zero j)⟩
  case round =>
    obtain ⟨i, hi, rfl, HJ⟩ := hrel
    by_cases hlt : i < n
    · have hll : i < l.length := by rw [← HN.out]; exact hlt
      obtain ⟨ad, u, rfl, hc, hu⟩ := HB.out.at hll
      obtain ⟨rfl, _, _⟩ := hu
      have hgd := getD_get (x := (0 : Int)) hll
      obtain ⟨y, hy⟩ : ∃ y, l[i] = y := ⟨_, rfl⟩
      rw [hy] at hc hgd
      have hm : y ∈ l := by rw [← hy]; exact List.getElem_mem hll
      have HM := Lib.hid (And.intro hgd hm)
      clear hgd hm hy
      by_cases h1 : y = x
      · have e1 : (y == x) = true := by rw [h1]; simp
        have hd : decide (x ∈ l) = true := by rw [decide_eq_true_eq, ← h1]; exact HM.out.2
        have HD := Lib.hid hd
        clear h1 hd
        go_wp2_with fail
        go_ret
        exact ⟨ret_bool HD.out.symm, rfl⟩
      · have e1 : (y == x) = false := by rw [beq_eq_false_iff_ne]; exact h1
        have H1 := Lib.hid h1
        clear h1
        go_wp2_with fail
        go_round
        case rel => exact ⟨i + 1, by omega, by go_num, Lib.hid fun j hj => by
          by_cases hji : j = i
          · rw [hji, HM.out.1]; exact H1.out
          · exact HJ.out j (by omega)⟩
        case measure => simp [intOf]; omega
    · obtain rfl : i = n := by omega
      have hd : decide (x ∈ l) = false := by
        rw [decide_eq_false_iff_not]
        intro hm
        obtain ⟨j, hj, he⟩ := List.getElem_of_mem hm
        have := HJ.out j (by rw [HN.out]; exact hj)
        rw [getD_get hj] at this
        exact this he
      have HD := Lib.hid hd
      clear hd
      go_wp2_with fail
      go_ret
      exact ⟨ret_bool HD.out.symm, rfl⟩

set_option maxHeartbeats 1000000 in
theorem rGroup_any (d gl : Int) (gs : List (List Int)) (g : Nat) (G : Value) (w : World) (hG : Rs (Rs RI) w G gs) (hg : g < gs.length) :
    Calls Tryd.prog 29 #[.agg #[.int .i64 d, G, .int .i64 gl], .int .i64 g] w fun e w' => e = .returned (.int .i64 (Cd.refGroup d gs g)) ∧ Ext w w' := by
  have hx0 := (Ext.refl w).alloc (.cells #[.int .i64 d, G, .int .i64 gl] 24)
  have hG1 := Rs.ext (Rs.ext RI.ext) _ _ _ _ hx0 hG
  obtain ⟨A, c, rfl, hl⟩ := hG.form
  obtain ⟨ad, u, rfl, hcell, hu⟩ := hG1.at hg
  obtain ⟨B, cB, rfl, hlB⟩ := hu.form
  have hgd := getD_get (x := ([] : List Int)) hg
  obtain ⟨p, hp⟩ : ∃ p, gs[g] = p := ⟨_, rfl⟩
  rw [hp] at hu hlB hgd hcell
  have HX := Lib.hid hx0
  have HG := Lib.hid hG1
  have HU := Lib.hid hu
  have HD := Lib.hid hgd
  clear hG hx0 hG1 hu hgd hp
  by_cases h0 : p = []
  · have h8 : Cd.refGroup d gs g = 8 := Cd.refGroup_none (by rw [HD.out]; exact h0)
    have H8 := Lib.hid h8
    have hl0 : p.length = 0 := by rw [h0]; rfl
    clear h8 h0
    go_enter Tryd.func29, Tryd.ntmps29
    go_wp2_with fail
    go_ret
    exact ⟨ret_int H8.out.symm, HX.out⟩
  · have hgl : p.length ≠ 0 := fun h => h0 (List.length_eq_zero_iff.1 h)
    have e0 : ((p.length : Int) == 0) = false := by rw [beq_eq_false_iff_ne]; omega
    have H0 := Lib.hid (show gs.getD g [] ≠ [] by rw [HD.out]; exact h0)
    clear h0 hgl
    go_enter Tryd.func29, Tryd.ntmps29
    go_wp2_with fail
    go_loop [5] (fun vk => ∃ k : Nat, k ≤ p.length ∧ vk = .int .i64 k ∧ Hid (∀ j, j < k → Cd.refBad d gs g j = false)) (fun vk => p.length - (intOf vk).toNat)
    case atStart => exact ⟨0, Nat.zero_le _, rfl, Lib.hid fun j hj => absurd hj (Nat.not_lt_zero j)⟩
    case round =>
      obtain ⟨k, hk, rfl, HB⟩ := hrel
      by_cases hkl : k < p.length
      · obtain ⟨bd, u, rfl, hbc, hu⟩ := HU.out.at hkl
        obtain ⟨rfl, hlo, hhi⟩ := hu
        have hgk := getD_get (x := (0 : Int)) hkl
        have hbd := Cd.refBad_def d gs g k
        rw [HD.out, hgk] at hbd
        obtain ⟨y, hy⟩ : ∃ y, p[k] = y := ⟨_, rfl⟩
        rw [hy] at hbd hbc hlo hhi
        have bad1 : Cd.refBad d gs g k = true → Cd.refGroup d gs g = 1 := fun h => Cd.refGroup_bad H0.out (by rw [HD.out]; exact hkl) h
        have BD := Lib.hid hbd
        have B1 := Lib.hid bad1
        clear hgk hbd bad1 hy
        by_cases c1 : y < 0
        · have H1 := Lib.hid (B1.out (by rw [BD.out]; simp [c1]))
          go_wp2_with fail
          go_ret
          exact ⟨ret_int H1.out.symm, HX.out⟩
        · by_cases c2 : d ≤ y
          · have H1 := Lib.hid (B1.out (by rw [BD.out]; simp [c2]))
            go_wp2_with fail
            go_ret
            exact ⟨ret_int H1.out.symm, HX.out⟩
          · by_cases ck : 0 < k
            · obtain ⟨bd2, u2, e2, hbc2, hu2⟩ := HU.out.at (i := k - 1) (by omega)
              injection e2 with e2
              subst e2
              obtain ⟨rfl, hlo2, hhi2⟩ := hu2
              have hgk2 := getD_get (x := (0 : Int)) (show k - 1 < p.length by omega)
              obtain ⟨z, hz⟩ : ∃ z, p[k - 1] = z := ⟨_, rfl⟩
              rw [hz] at hgk2 hbc2 hlo2 hhi2
              have HK2 := Lib.hid hgk2
              clear hgk2 hz
              by_cases c3 : y ≤ z
              · have H1 := Lib.hid (B1.out (by rw [BD.out, HK2.out]; simp [c3, ck]))
                go_wp2_with fail
                go_ret
                exact ⟨ret_int H1.out.symm, HX.out⟩
              · have hno : Cd.prevHas gs g y = false → Cd.refBad d gs g k = false := fun h => by rw [BD.out, HK2.out, h]; simp [c1, c2, c3]
                have hyes : Cd.prevHas gs g y = true → Cd.refGroup d gs g = 1 := fun h => B1.out (by rw [BD.out, h]; simp)
                have HNO := Lib.hid (And.intro hno hyes)
                clear hno hyes
                go_wp2_with fail
                go_loop [7] (fun vh => ∃ h : Nat, h ≤ g ∧ vh = .int .i64 h ∧ Hid (∀ j, j < h → y ∉ gs.getD j [])) (fun vh => g - (intOf vh).toNat)
                case atStart => exact ⟨0, Nat.zero_le _, rfl, Lib.hid fun j hj => absurd hj (Nat.not_lt_zero j)⟩
                case round =>
                  obtain ⟨h, hh, rfl, HH⟩ := hrel
                  by_cases hhl : h < g
                  · obtain ⟨ad2, v, e3, hvc, hv⟩ := HG.out.at (i := h) (by omega)
                    injection e3 with e3
                    subst e3
                    obtain ⟨B2, c2', rfl, hl2⟩ := hv.form
                    have hgh := getD_get (x := ([] : List Int)) (show h < gs.length by omega)
                    obtain ⟨q, hq⟩ : ∃ q, gs[h] = q := ⟨_, rfl⟩
                    rw [hq] at hv hl2 hgh hvc
                    have HV := Lib.hid hv
                    have HGH := Lib.hid hgh
                    clear hv hgh hq
                    by_cases hin : y ∈ q
                    · have e4 : decide (y ∈ q) = true := by simpa using hin
                      have H1 := Lib.hid (HNO.out.2 (Cd.prevHas_true hhl (by rw [HGH.out]; exact hin)))
                      clear hin
                      go_wp2_with fail
                      refine (rHas_any q y _ _ _ _ HV.out).mono ?_
                      rintro e w1 ⟨rfl, rfl⟩
                      rw [e4]
                      go_wp2_with fail
                      go_ret
                      exact ⟨ret_int H1.out.symm, HX.out⟩
                    · have e4 : decide (y ∈ q) = false := by simpa using hin
                      have HIN := Lib.hid hin
                      clear hin
                      go_wp2_with fail
                      refine (rHas_any q y _ _ _ _ HV.out).mono ?_
                      rintro e w1 ⟨rfl, rfl⟩
                      rw [e4]
                      go_wp2_with fail
                      go_round
                      case rel => exact ⟨h + 1, by omega, by go_num, Lib.hid fun j hj => by
                        by_cases hjh : j = h
                        · rw [hjh, HGH.out]; exact HIN.out
                        · exact HH.out j (by omega)⟩
                      case measure => simp [intOf]; omega
                  · obtain rfl : h = g := by omega
                    have H1 := Lib.hid (HNO.out.1 (Cd.prevHas_false HH.out))
                    go_wp2_with fail
                    go_round
                    case rel => exact ⟨k + 1, by omega, by go_num, Lib.hid fun j hj => by
                      by_cases hjk : j = k
                      · rw [hjk]; exact H1.out
                      · exact HB.out j (by omega)⟩
                    case measure => simp [intOf]; omega
            · have hno : Cd.prevHas gs g y = false → Cd.refBad d gs g k = false := fun h => by rw [BD.out, h]; simp [c1, c2, ck]
              have hyes : Cd.prevHas gs g y = true → Cd.refGroup d gs g = 1 := fun h => B1.out (by rw [BD.out, h]; simp)
              have HNO := Lib.hid (And.intro hno hyes)
              clear hno hyes
              go_wp2_with fail
              go_loop [7] (fun vh => ∃ h : Nat, h ≤ g ∧ vh = .int .i64 h ∧ Hid (∀ j, j < h → y ∉ gs.getD j [])) (fun vh => g - (intOf vh).toNat)
              case atStart => exact ⟨0, Nat.zero_le _, rfl, Lib.hid fun j hj => absurd hj (Nat.not_lt_zero j)⟩
              case round =>
                obtain ⟨h, hh, rfl, HH⟩ := hrel
                by_cases hhl : h < g
                · obtain ⟨ad2, v, e3, hvc, hv⟩ := HG.out.at (i := h) (by omega)
                  injection e3 with e3
                  subst e3
                  obtain ⟨B2, c2', rfl, hl2⟩ := hv.form
                  have hgh := getD_get (x := ([] : List Int)) (show h < gs.length by omega)
                  obtain ⟨q, hq⟩ : ∃ q, gs[h] = q := ⟨_, rfl⟩
                  rw [hq] at hv hl2 hgh hvc
                  have HV := Lib.hid hv
                  have HGH := Lib.hid hgh
                  clear hv hgh hq
                  by_cases hin : y ∈ q
                  · have e4 : decide (y ∈ q) = true := by simpa using hin
                    have H1 := Lib.hid (HNO.out.2 (Cd.prevHas_true hhl (by rw [HGH.out]; exact hin)))
                    clear hin
                    go_wp2_with fail
                    refine (rHas_any q y _ _ _ _ HV.out).mono ?_
                    rintro e w1 ⟨rfl, rfl⟩
                    rw [e4]
                    go_wp2_with fail
                    go_ret
                    exact ⟨ret_int H1.out.symm, HX.out⟩
                  · have e4 : decide (y ∈ q) = false := by simpa using hin
                    have HIN := Lib.hid hin
                    clear hin
                    go_wp2_with fail
                    refine (rHas_any q y _ _ _ _ HV.out).mono ?_
                    rintro e w1 ⟨rfl, rfl⟩
                    rw [e4]
                    go_wp2_with fail
                    go_round
                    case rel => exact ⟨h + 1, by omega, by go_num, Lib.hid fun j hj => by
                      by_cases hjh : j = h
                      · rw [hjh, HGH.out]; exact HIN.out
                      · exact HH.out j (by omega)⟩
                    case measure => simp [intOf]; omega
                · obtain rfl : h = g := by omega
                  have H1 := Lib.hid (HNO.out.1 (Cd.prevHas_false HH.out))
                  go_wp2_with fail
                  go_round
                  case rel => exact ⟨k + 1, by omega, by go_num, Lib.hid fun j hj => by
                    by_cases hjk : j = k
                    · rw [hjk]; exact H1.out
                    · exact HB.out j (by omega)⟩
                  case measure => simp [intOf]; omega
      · obtain rfl : k = p.length := by omega
        have hz : Cd.refGroup d gs g = 0 := Cd.refGroup_ok H0.out (by rw [HD.out]; exact HB.out)
        have HZ := Lib.hid hz
        clear hz
        go_wp2_with fail
        go_ret
        exact ⟨ret_int HZ.out.symm, HX.out⟩
end Go.Proofs.YtgkohfmgdejkpaaDoor
