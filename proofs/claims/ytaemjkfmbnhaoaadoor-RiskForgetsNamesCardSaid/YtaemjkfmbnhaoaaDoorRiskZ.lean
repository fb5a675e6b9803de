/- THE WALKS over Few and count. -/
import Derived.Test.YtaemjkfmbnhaoaaDoorRiskP
import Derived.Test.YtaemjkfmbnhaoaaDoorRiskY
namespace Go.Proofs.YtaemjkfmbnhaoaaDoor
open Go.RowKit
/-- What Few says: a peril that is few has at most n domains. -/
def FewOut (p : Rk.Pe) (n : Nat) (w : World) (e : Ending) (w' : World) : Prop := ∃ b, e = .returned (.bool b) ∧ (b = true → p.ch.length ≤ n) ∧ Ext w w'
set_option maxHeartbeats 4000000 in
theorem few_any (p : Rk.Pe) (n : Nat) (v : Value) (w : World) (hv : RP w v p) :
    Calls Tryd.prog 9 #[v, .int .i64 n] w fun e w' => FewOut p n w e w' := by
  obtain ⟨A1, A2, A3, c1, c2, c3, rfl⟩ := hv.slices
  have hx0 := (Ext.refl w).alloc (.cells #[.int .i64 p.d, .slice A1 p.gs.length c1, .int .i64 p.gl, .slice A2 p.at'.length c2, .slice A3 p.ch.length c3] 27)
  have hv1 := RP.ext _ _ _ _ hx0 hv
  have hG : Rs (Rs RI) (w.alloc (.cells #[.int .i64 p.d, .slice A1 p.gs.length c1, .int .i64 p.gl, .slice A2 p.at'.length c2, .slice A3 p.ch.length c3] 27)) (.slice A1 p.gs.length c1) p.gs := by
    obtain ⟨G, T, C, he, h1, h2, h3⟩ := hv1
    injection he with he
    simp at he
    obtain ⟨rfl, rfl, rfl⟩ := he
    exact h1
  have HG := Lib.hid hG
  have HX := Lib.hid hx0
  clear hv hx0 hv1 hG
  by_cases h1 : p.ch.length ≤ n
  · by_cases h2 : p.at'.length ≤ 60
    · by_cases h3 : p.gs.length ≤ 30
      · go_enter Tryd.func9, Tryd.ntmps9
        go_wp2_with fail
        go_loop [5] (fun vi => ∃ i : Nat, i ≤ p.gs.length ∧ vi = .int .i64 i) (fun vi => p.gs.length - (intOf vi).toNat)
        case atStart => exact ⟨0, Nat.zero_le _, rfl⟩
        case round =>
          obtain ⟨i, hi, rfl⟩ := hrel
          by_cases hlt : i < p.gs.length
          · obtain ⟨ad, u, rfl, hcell, hu⟩ := HG.out.at hlt
            obtain ⟨B, cB, rfl, hlB⟩ := hu.form
            clear hu
            by_cases h4 : p.gs[i].length ≤ 30
            · go_wp2_with fail
              go_round
              case rel => exact ⟨i + 1, by omega, by go_num⟩
              case measure => simp [intOf]; omega
            · go_wp2_with fail
              go_ret
              exact ⟨false, rfl, by simp, HX.out⟩
          · obtain rfl : i = p.gs.length := by omega
            go_wp2_with fail
            go_ret
            exact ⟨true, rfl, fun _ => h1, HX.out⟩
      · go_enter Tryd.func9, Tryd.ntmps9
        go_wp2_with fail
        go_ret
        exact ⟨false, rfl, by simp, HX.out⟩
    · go_enter Tryd.func9, Tryd.ntmps9
      go_wp2_with fail
      go_ret
      exact ⟨false, rfl, by simp, HX.out⟩
  · go_enter Tryd.func9, Tryd.ntmps9
    go_wp2_with fail
    go_ret
    exact ⟨false, rfl, by simp, HX.out⟩
theorem count_any (n : Nat) (w : World) (hn : n < 4096) :
    Calls Tryd.prog 27 #[.int .i64 n] w fun e w' => e = .returned (.int .i64 (Rk.cnt n : Nat)) ∧ w = w' := by
  go_enter Tryd.func27, Tryd.ntmps27
  go_wp2_with fail
  go_loop [0, 3] (fun vs vo => ∃ s o : Nat, s ≤ n ∧ o ≤ 16 ∧ vs = .int .i64 s ∧ vo = .int .i64 o ∧ Hid (o + Rk.cntF 16 s = Rk.cnt n)) (fun vs _ => (intOf vs).toNat)
  case atStart => exact ⟨n, 0, Nat.le_refl _, by omega, rfl, rfl, by rw [Nat.zero_add]; rfl⟩
  case round =>
    obtain ⟨s, o, hs, ho, rfl, rfl, HI⟩ := hrel
    by_cases h0 : 0 < s
    · have hst := Rk.cntF_step (n := s) (by omega)
      have hle := Rk.cntF_le 16 n
      have hc : Rk.cnt n = Rk.cntF 16 n := rfl
      have hio := HI.out
      have hm : bits .and .i64 (s : Int) 1 = ((s % 2 : Nat) : Int) := odd64 s (by omega)
      obtain ⟨r, hr⟩ : ∃ r, s % 2 = r := ⟨_, rfl⟩
      rw [hr] at hm hst
      have hr2 : r < 2 := by rw [← hr]; exact Nat.mod_lt _ (by decide)
      have HN : Hid (o + r + Rk.cntF 16 (s / 2) = Rk.cnt n) := by
        show o + r + Rk.cntF 16 (s / 2) = Rk.cnt n
        omega
      have hor : o + r ≤ 16 := by have := HN.out; omega
      clear hst hle hc hio hr
      go_wp2_with fail
      go_round
      case rel => exact ⟨s / 2, o + r, by omega, hor, by go_num, by go_num, HN.out⟩
      case measure => simp [intOf]; omega
    · obtain rfl : s = 0 := by omega
      have hc : o = Rk.cnt n := by rw [← HI.out, Rk.cntF_zero]; rfl
      have HC := Lib.hid hc
      clear hc
      go_wp2_with fail
      go_ret
      exact ⟨ret_int (by rw [HC.out]), rfl⟩
end Go.Proofs.YtaemjkfmbnhaoaaDoor
