/- THE WALKS over package code: Check, Pieces. -/
import Derived.Test.YtdbolgollpnfdaaDoorGfS
import Derived.Test.YtdbolgollpnfdaaDoorCode
import Derived.WalkMore
import Derived.Deep.LoopGhost
namespace Go.Proofs.YtdbolgollpnfdaaDoor
open Go.RowKit

theorem nat_pow_cast (m : Nat) : ((2 : Int) ^ m) = ((2 ^ m : Nat) : Int) := (Int.natCast_pow 2 m).symm
theorem pow_lt62 (m : Nat) (h : m < 62) : ((2 ^ m : Nat) : Int) < 4611686018427387904 := by
  have : 2 ^ m < 2 ^ 62 := Nat.pow_lt_pow_right (by omega) h
  exact Int.ofNat_lt.2 this
theorem wrap_pow (m : Nat) (h : m < 62) : wrap64 (2 ^ m) = ((2 ^ m : Nat) : Int) := by
  rw [nat_pow_cast]
  have h1 := pow_lt62 m h
  have h0 : (0 : Int) ≤ ((2 ^ m : Nat) : Int) := Int.natCast_nonneg _
  generalize ((2 ^ m : Nat) : Int) = z at h1 h0 ⊢
  unfold wrap64
  omega
theorem or_pow (s m : Nat) (hs : s < 65536) (h : m < 16) : bits .or .i64 (s : Int) (wrap64 (2 ^ m)) = ((s ||| 2 ^ m : Nat) : Int) ∧ s ||| 2 ^ m < 65536 := by
  have hpw : 2 ^ m < 2 ^ 16 := Nat.pow_lt_pow_right (by omega) h
  refine ⟨?_, Nat.or_lt_two_pow (n := 16) hs hpw⟩
  rw [wrap_pow m (by omega)]
  exact or64 _ _ (Nat.lt_trans hs (by decide)) (Nat.lt_trans hpw (by decide))
theorem cCheck_range (d gl : Int) (gs : List (List Int)) (G : Value) (w : World) (h : d < 1 ∨ 16 < d ∨ gl < 0 ∨ 4 < gl) :
    Calls Tryd.prog 28 #[.agg #[.int .i64 d, G, .int .i64 gl]] w fun e w' => e = .returned (.int .i64 (Cd.check d gs gl)) ∧ Ext w w' := by
  rw [Cd.check_range h]
  have four : d < 1 ∨ (¬ d < 1 ∧ 16 < d) ∨ (¬ d < 1 ∧ ¬ 16 < d ∧ gl < 0) ∨ (¬ d < 1 ∧ ¬ 16 < d ∧ ¬ gl < 0 ∧ 4 < gl) := by omega
  clear h
  rcases four with g | ⟨g1, g⟩ | ⟨g1, g2, g⟩ | ⟨g1, g2, g3, g⟩
  all_goals
    go_enter Tryd.func28, Tryd.ntmps28
    go_wp2_with fail
    go_step3
    go_wp2_with fail
    try rw [Exit.noGoto_ret]
    go_ret
    exact ⟨rfl, (Ext.refl _).alloc _⟩
theorem cCheck_limit (d gl : Int) (gs : List (List Int)) (G : Value) (w : World) (hG : Rs (Rs RI) w G gs) (h1 : 1 ≤ d) (h2 : d ≤ 16) (h3 : 0 ≤ gl) (h4 : gl ≤ 4) (h : 24 < gs.length ∨ 24 < d + gs.length + gl) :
    Calls Tryd.prog 28 #[.agg #[.int .i64 d, G, .int .i64 gl]] w fun e w' => e = .returned (.int .i64 (Cd.check d gs gl)) ∧ Ext w w' := by
  rw [Cd.check_limit (by omega) h]
  obtain ⟨A, c, rfl, hl⟩ := hG.form
  clear hG
  by_cases hb : 24 < gs.length
  · go_enter Tryd.func28, Tryd.ntmps28
    go_wp2_with fail
    go_step3
    go_wp2_with fail
    try rw [Exit.noGoto_ret]
    go_ret
    exact ⟨rfl, (Ext.refl _).alloc _⟩
  · have hb2 : 24 < d + gs.length + gl := by omega
    clear h
    go_enter Tryd.func28, Tryd.ntmps28
    go_wp2_with fail
    go_step3
    go_wp2_with fail
    try rw [Exit.noGoto_ret]
    go_ret
    exact ⟨rfl, (Ext.refl _).alloc _⟩
set_option maxHeartbeats 8000000 in
theorem cCheck_groups (d gl : Int) (gs : List (List Int)) (G : Value) (w : World) (hG : Rs (Rs RI) w G gs) (h1 : 1 ≤ d) (h2 : d ≤ 16) (h3 : 0 ≤ gl) (h4 : gl ≤ 4) (h5 : gs.length ≤ 24) (h6 : d + gs.length + gl ≤ 24) :
    Calls Tryd.prog 28 #[.agg #[.int .i64 d, G, .int .i64 gl]] w fun e w' => e = .returned (.int .i64 (Cd.check d gs gl)) ∧ Ext w w' := by
  rw [Cd.check_groups (by omega) (by omega)]
  obtain ⟨A, c, rfl, hl⟩ := hG.form
  have HG := Lib.hid hG
  clear hG
  go_enter Tryd.func28, Tryd.ntmps28
  go_wp2_with fail
  go_step3
  go_wp2_with fail
  go_step3
  go_wp2_with fail
  have hx := (Ext.refl w).alloc (.cells #[.int .i64 d, .slice A gs.length c, .int .i64 gl] 24)
  have HX := Lib.hid hx
  clear hx
  go_loop [3, 4, 48] (fun vs ve vi => ∃ i s : Nat, i ≤ gs.length ∧ vi = .int .i64 i ∧ ve = .int .i64 0 ∧ vs = .int .i64 s ∧ s < 65536 ∧ Hid (Cd.checkG d s (gs.drop i) = Cd.checkG d 0 gs)) (fun _ _ vi => gs.length - (intOf vi).toNat)
  case atStart => exact ⟨0, 0, Nat.zero_le _, rfl, rfl, rfl, by omega, rfl⟩
  case round =>
    obtain ⟨i, s, hi, rfl, rfl, rfl, hs, HC⟩ := hrel
    by_cases hlt : i < gs.length
    · obtain ⟨ad, u, rfl, hcell, hu⟩ := HG.out.at hlt
      obtain ⟨B, cB, rfl, hlB⟩ := hu.form
      have hcell' := HX.out.cell hcell
      have HU := Lib.hid hu
      clear hcell hu
      by_cases h0 : gs[i] = []
      · have hc8 : Cd.checkG d 0 gs = 8 := by rw [← HC.out, Cd.drop_cons hlt, h0, Cd.checkG_nil]
        have H8 := Lib.hid hc8
        have hl0 : gs[i].length = 0 := by rw [h0]; rfl
        clear hc8 h0
        go_wp2_with fail
        try rw [Exit.noGoto_ret]
        go_ret
        exact ⟨ret_int H8.out.symm, HX.out⟩
      · have hg0 : gs[i] ≠ [] := h0
        have hgl : gs[i].length ≠ 0 := fun h => h0 (List.length_eq_zero_iff.1 h)
        have e0 : ((gs[i].length : Int) == 0) = false := by rw [beq_eq_false_iff_ne]; omega
        have hgl2 : gs[i].length ≤ 9223372036854775807 := hlB
        have HG0 := Lib.hid h0
        clear h0 hg0 hgl
        obtain ⟨g, hg⟩ : ∃ g, gs[i] = g := ⟨_, rfl⟩
        rw [hg] at hlB hcell' HU e0 HG0
        have HGG := Lib.hid hg
        clear hg hgl2
        go_wp2_with fail
        go_loop [4, 57] (fun ve vk => ∃ k : Nat, k ≤ g.length ∧ vk = .int .i64 k ∧ ve = .int .i64 0 ∧ Hid (∀ j, j < k → Cd.badAt d s g j = false)) (fun _ vk => g.length - (intOf vk).toNat)
        case atStart => exact ⟨0, Nat.zero_le _, rfl, rfl, fun j hj => absurd hj (by omega)⟩
        case round =>
          obtain ⟨k, hk, rfl, rfl, HB⟩ := hrel
          by_cases hkl : k < g.length
          · obtain ⟨bd, u, rfl, hbc, hu⟩ := HU.out.at hkl
            obtain ⟨rfl, hlo, hhi⟩ := hu
            have hbc' := HX.out.cell hbc
            clear hbc
            have hgk : g.getD k 0 = g[k] := by rw [List.getD_eq_getElem?_getD, List.getElem?_eq_getElem hkl]; rfl
            have hbd := Cd.badAt_def d s g k
            rw [hgk] at hbd
            have bad1 : Cd.badAt d s g k = true → Cd.checkG d 0 gs = 1 := fun h => by
              rw [← HC.out, Cd.drop_cons hlt, HGG.out, Cd.checkG_bad HG0.out (Cd.bad_true hkl h)]
            have BD := Lib.hid hbd
            have B1 := Lib.hid bad1
            clear hgk hbd bad1
            by_cases c1 : g[k] < 0
            · have hb : Cd.badAt d s g k = true := by rw [BD.out]; simp [c1]
              have bad1 := B1.out
              have H1 := Lib.hid (bad1 hb)
              clear hb bad1
              go_wp2_with fail
              try rw [Exit.noGoto_ret]
              go_ret
              exact ⟨ret_int H1.out.symm, HX.out⟩
            · by_cases c2 : d ≤ g[k]
              · have hb : Cd.badAt d s g k = true := by rw [BD.out]; simp [c2]
                have bad1 := B1.out
                have H1 := Lib.hid (bad1 hb)
                clear hb bad1
                go_wp2_with fail
                try rw [Exit.noGoto_ret]
                go_ret
                exact ⟨ret_int H1.out.symm, HX.out⟩
              · have hm : bits .and .i64 ((s : Int) / 2 ^ (g[k]).toNat) 1 = ((Cd.bitAt s (g[k]).toNat : Nat) : Int) := by
                  have hle : s / 2 ^ (g[k]).toNat ≤ s := Nat.div_le_self _ _
                  have := odd64 (s / 2 ^ (g[k]).toNat) (by omega)
                  rw [Cd.bitAt, ← this]
                  simp
                have HM := Lib.hid hm
                clear hm
                by_cases ck : 0 < k
                · obtain ⟨bd2, u2, e2, hbc2, hu2⟩ := HU.out.at (i := k - 1) (by omega)
                  injection e2 with e2
                  subst e2
                  obtain ⟨rfl, hlo2, hhi2⟩ := hu2
                  have hbc2' := HX.out.cell hbc2
                  clear hbc2
                  have hgk2 : g.getD (k - 1) 0 = g[k - 1] := by rw [List.getD_eq_getElem?_getD, List.getElem?_eq_getElem (by omega)]; rfl
                  have HK2 := Lib.hid hgk2
                  clear hgk2
                  by_cases c3 : g[k] ≤ g[k - 1]
                  · have hb : Cd.badAt d s g k = true := by rw [BD.out, HK2.out]; simp [c3, ck]
                    have bad1 := B1.out
                    have H1 := Lib.hid (bad1 hb)
                    clear hb bad1
                    go_wp2_with fail
                    try rw [Exit.noGoto_ret]
                    go_ret
                    exact ⟨ret_int H1.out.symm, HX.out⟩
                  · by_cases c4 : Cd.bitAt s (g[k]).toNat = 1
                    · have eb : (bits .and .i64 ((s : Int) / 2 ^ (g[k]).toNat) 1 == 1) = true := by rw [HM.out, c4]; rfl
                      have hb : Cd.badAt d s g k = true := by rw [BD.out]; simp [c4]
                      have bad1 := B1.out
                      have H1 := Lib.hid (bad1 hb)
                      clear hb bad1 c4
                      go_wp2_with fail
                      try rw [Exit.noGoto_ret]
                      go_ret
                      exact ⟨ret_int H1.out.symm, HX.out⟩
                    · have eb : (bits .and .i64 ((s : Int) / 2 ^ (g[k]).toNat) 1 == 1) = false := by rw [HM.out, beq_eq_false_iff_ne]; omega
                      have hb : Cd.badAt d s g k = false := by rw [BD.out, HK2.out]; simp [c4]; omega
                      clear c4
                      have H1 := Lib.hid hb
                      clear hb
                      go_wp2_with fail
                      go_round
                      case rel => exact ⟨k + 1, by omega, by go_num, rfl, fun j hj => by
                        by_cases hjk : j = k
                        · rw [hjk]; exact H1.out
                        · exact HB.out j (by omega)⟩
                      case measure => simp [intOf]; omega
                · by_cases c4 : Cd.bitAt s (g[k]).toNat = 1
                  · have eb : (bits .and .i64 ((s : Int) / 2 ^ (g[k]).toNat) 1 == 1) = true := by rw [HM.out, c4]; rfl
                    have hb : Cd.badAt d s g k = true := by rw [BD.out]; simp [c4]
                    have bad1 := B1.out
                    have H1 := Lib.hid (bad1 hb)
                    clear hb bad1 c4
                    go_wp2_with fail
                    try rw [Exit.noGoto_ret]
                    go_ret
                    exact ⟨ret_int H1.out.symm, HX.out⟩
                  · have eb : (bits .and .i64 ((s : Int) / 2 ^ (g[k]).toNat) 1 == 1) = false := by rw [HM.out, beq_eq_false_iff_ne]; omega
                    have hb : Cd.badAt d s g k = false := by rw [BD.out]; simp [c4, ck]; omega
                    clear c4
                    have H1 := Lib.hid hb
                    clear hb
                    go_wp2_with fail
                    go_round
                    case rel => exact ⟨k + 1, by omega, by go_num, rfl, fun j hj => by
                      by_cases hjk : j = k
                      · rw [hjk]; exact H1.out
                      · exact HB.out j (by omega)⟩
                    case measure => simp [intOf]; omega
          · obtain rfl : k = g.length := by omega
            have hnb : Cd.bad d s g = false := Cd.bad_false HB.out
            have hgb : ∀ i ∈ g, 0 ≤ i ∧ i < 16 := fun i hi => by have := Cd.bad_bounds hnb hi; omega
            have hnx : Cd.checkG d (Cd.setOf s g) (gs.drop (i + 1)) = Cd.checkG d 0 gs := by rw [← HC.out, Cd.drop_cons hlt, HGG.out, Cd.checkG_next HG0.out hnb]
            have HNX := Lib.hid (And.intro hgb hnx)
            clear hnb hgb hnx
            go_wp2_with fail
            go_loop [3, 93] (fun vs vk => ∃ k s' : Nat, k ≤ g.length ∧ vk = .int .i64 k ∧ vs = .int .i64 s' ∧ s' < 65536 ∧ Hid (s' = Cd.setOf s (g.take k))) (fun _ vk => g.length - (intOf vk).toNat)
            case atStart => exact ⟨0, s, Nat.zero_le _, rfl, rfl, hs, by rw [List.take_zero, Cd.setOf_nil]; rfl⟩
            case round =>
              obtain ⟨k, s', hk, rfl, rfl, hs', HS⟩ := hrel
              by_cases hkl : k < g.length
              · obtain ⟨bd, u, rfl, hbc, hu⟩ := HU.out.at hkl
                obtain ⟨rfl, hlo, hhi⟩ := hu
                have hbc' := HX.out.cell hbc
                clear hbc
                have hb2 := HNX.out.1 _ (List.getElem_mem hkl)
                obtain ⟨m, hm⟩ : ∃ m : Nat, g[k] = (m : Int) := ⟨(g[k]).toNat, by omega⟩
                have hst := Cd.setOf_take (s := s) hkl
                rw [hm, Int.toNat_natCast, ← HS.out] at hst
                have hm16 : m < 16 := by omega
                rw [hm] at hbc'
                have hor := or_pow s' m hs' hm16
                have HOR := Lib.hid (And.intro hor.1 (And.intro hst hor.2))
                clear hor hst hb2 hm hlo hhi
                go_wp2_with fail
                go_round
                case rel => exact ⟨k + 1, s' ||| 2 ^ m, by omega, by go_num, by rw [HOR.out.1], HOR.out.2.2, HOR.out.2.1.symm⟩
                case measure => simp [intOf]; omega
              · obtain rfl : k = g.length := by omega
                have hse : s' = Cd.setOf s g := by rw [HS.out, List.take_length]
                have HSE := Lib.hid hse
                clear hse
                go_wp2_with fail
                go_round
                case rel => exact ⟨i + 1, s', by omega, by go_num, rfl, rfl, hs', by rw [HSE.out]; exact HNX.out.2⟩
                case measure => simp [intOf]; omega
    · obtain rfl : i = gs.length := by omega
      have hfin : Cd.checkG d 0 gs = 0 := by rw [← HC.out, List.drop_length, Cd.checkG_end]
      have HF := Lib.hid hfin
      clear hfin
      go_wp2_with fail
      try rw [Exit.noGoto_ret]
      go_ret
      exact ⟨ret_int HF.out.symm, HX.out⟩
/-- `Check` of a code: its first error; nothing that was there is changed. -/
theorem cCheck_any (d gl : Int) (gs : List (List Int)) (G : Value) (w : World) (hG : Rs (Rs RI) w G gs) :
    Calls Tryd.prog 28 #[.agg #[.int .i64 d, G, .int .i64 gl]] w fun e w' => e = .returned (.int .i64 (Cd.check d gs gl)) ∧ Ext w w' := by
  by_cases h : d < 1 ∨ 16 < d ∨ gl < 0 ∨ 4 < gl
  · exact cCheck_range d gl gs G w h
  · by_cases h2 : 24 < gs.length ∨ 24 < d + gs.length + gl
    · exact cCheck_limit d gl gs G w hG (by omega) (by omega) (by omega) (by omega) h2
    · exact cCheck_groups d gl gs G w hG (by omega) (by omega) (by omega) (by omega) (by omega) (by omega)
end Go.Proofs.YtdbolgollpnfdaaDoor
