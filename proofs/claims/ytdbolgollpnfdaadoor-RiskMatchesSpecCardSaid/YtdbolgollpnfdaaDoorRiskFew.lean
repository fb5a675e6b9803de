/- THE WALK over Few. -/
import Derived.Test.YtdbolgollpnfdaaDoorRiskP
import Derived.Test.YtdbolgollpnfdaaDoorRiskY
/- THE WALKS over Few and count. -/
namespace Go.Proofs.YtdbolgollpnfdaaDoor
open Go.RowKit
/-- What Few says: a peril that is few has at most n domains. -/
def FewOut (p : Rk.Pe) (n : Nat) (w : World) (e : Ending) (w' : World) : Prop := ∃ b, e = .returned (.bool b) ∧ (b = true → p.ch.length ≤ n ∧ p.gs.length ≤ 30) ∧ Ext w w'
set_option maxHeartbeats 4000000 in
theorem few_any (p : Rk.Pe) (n : Nat) (v : Value) (w : World) (hv : RP w v p) :
    Calls Tryd.prog 4 #[v, .int .i64 n] w fun e w' => FewOut p n w e w' := by
  obtain ⟨A1, A2, A3, c1, c2, c3, rfl⟩ := hv.slices
  have hx0 := (Ext.refl w).alloc (.cells #[.int .i64 p.d, .slice A1 p.gs.length c1, .int .i64 p.gl, .slice A2 p.at'.length c2, .slice A3 p.ch.length c3] 27)
  have hv1 := RP.ext _ _ _ _ hx0 hv
  have hG : Rs (Rs RI) (w.alloc (.cells #[.int .i64 p.d, .slice A1 p.gs.length c1, .int .i64 p.gl, .slice A2 p.at'.length c2, .slice A3 p.ch.length c3] 27)) (.slice A1 p.gs.length c1) p.gs := by
    obtain ⟨G, T, C, he, h1, h2, h3⟩ := hv1
    injection he with he
    simp at he
    obtain ⟨rfl, rfl, rfl⟩ := he
    exact h1
  have HG := Lib.hid hG
  have HX := Lib.hid hx0
  clear hv hx0 hv1 hG
  by_cases h1 : p.ch.length ≤ n
  · by_cases h2 : p.at'.length ≤ 60
    · by_cases h3 : p.gs.length ≤ 30
      · go_enter Tryd.func4, Tryd.ntmps4
        go_wp2_with fail
        go_loop [5] (fun vi => ∃ i : Nat, i ≤ p.gs.length ∧ vi = .int .i64 i) (fun vi => p.gs.length - (intOf vi).toNat)
        case atStart => exact ⟨0, Nat.zero_le _, rfl⟩
        case round =>
          obtain ⟨i, hi, rfl⟩ := hrel
          by_cases hlt : i < p.gs.length
          · obtain ⟨ad, u, rfl, hcell, hu⟩ := HG.out.at hlt
            obtain ⟨B, cB, rfl, hlB⟩ := hu.form
            clear hu
            by_cases h4 : p.gs[i].length ≤ 30
            · go_wp2_with fail
              go_round
              case rel => exact ⟨i + 1, by omega, by go_num⟩
              case measure => simp [intOf]; omega
            · go_wp2_with fail
              go_ret
              exact ⟨false, rfl, by simp, HX.out⟩
          · obtain rfl : i = p.gs.length := by omega
            go_wp2_with fail
            go_ret
            exact ⟨true, rfl, fun _ => ⟨h1, h3⟩, HX.out⟩
      · go_enter Tryd.func4, Tryd.ntmps4
        go_wp2_with fail
        go_ret
        exact ⟨false, rfl, by simp, HX.out⟩
    · go_enter Tryd.func4, Tryd.ntmps4
      go_wp2_with fail
      go_ret
      exact ⟨false, rfl, by simp, HX.out⟩
  · go_enter Tryd.func4, Tryd.ntmps4
    go_wp2_with fail
    go_ret
    exact ⟨false, rfl, by simp, HX.out⟩
end Go.Proofs.YtdbolgollpnfdaaDoor

