/- THE WALK over CodeEncodesAsSpecified. -/
import Derived.Test.YtgkohfmgdejkpaaDoorEncR7
import Derived.Test.YtgkohfmgdejkpaaDoorSane7
namespace Go.Proofs.YtgkohfmgdejkpaaDoor
open Go.RowKit
set_option maxRecDepth 100000 in
set_option maxHeartbeats 8000000 in
theorem encs_out (d gl n : Int) (gs : List (List Int)) (data : List UInt8) (G : Value) (w : World) (hT : Tab w) (hG : Rs (Rs RI) w G gs) (hl : data.length ≤ 9223372036854775807)
    (ho : Cd.few gs 20 = false ∨ (200 < data.length ∧ data.length ≤ 4096) ∨ 4106 < data.length) :
    Calls Tryd.prog 3 #[.agg #[.int .i64 d, G, .int .i64 gl], .string (sb data), .int .i64 n] w fun e w' => e = .returned (.bool true) ∧ Ext w w' := by
  obtain ⟨A, c, rfl, hgl⟩ := hG.form
  have hx := ((Ext.refl w).alloc (.cells #[.int .i64 d, .slice A gs.length c, .int .i64 gl] 24))
  have HG := Lib.hid (Rs.ext (Rs.ext RI.ext) _ _ _ _ hx hG)
  have HT := Lib.hid hT
  have HX := Lib.hid hx
  clear hG hT hx
  cases hf : Cd.few gs 20 with
  | false =>
    have HF := Lib.hid hf
    clear ho hf
    go_enter Tryd.func3, Tryd.ntmps3
    go_wp2_with fail
    refine (rFew_any d gl gs 20 _ _ HG.out (by omega)).mono ?_
    rintro e w2 ⟨rfl, hx2⟩
    rw [HF.out]
    have HX2 := Lib.hid (HX.out.trans hx2)
    clear hx2
    go_wp2_with fail
    refine (sanity_any _ (HT.out.ext HX2.out)).mono ?_
    rintro e w3 ⟨rfl, hx3⟩
    go_wp2_with fail
    go_ret
    exact ⟨rfl, HX2.out.trans hx3⟩
  | true =>
    have HF := Lib.hid hf
    by_cases h1 : 200 < data.length ∧ data.length ≤ 4096
    · obtain ⟨h1, h2⟩ := h1
      clear ho hf
      go_enter Tryd.func3, Tryd.ntmps3
      go_wp2_with fail
      refine (rFew_any d gl gs 20 _ _ HG.out (by omega)).mono ?_
      rintro e w2 ⟨rfl, hx2⟩
      rw [HF.out]
      have HX2 := Lib.hid (HX.out.trans hx2)
      clear hx2
      go_wp2_with fail
      refine (sanity_any _ (HT.out.ext HX2.out)).mono ?_
      rintro e w3 ⟨rfl, hx3⟩
      go_wp2_with fail
      go_ret
      exact ⟨rfl, HX2.out.trans hx3⟩
    · have h2 : 4106 < data.length := by rw [hf] at ho; rcases ho with h | h | h; cases h; exact absurd h h1; exact h
      clear ho hf h1
      go_enter Tryd.func3, Tryd.ntmps3
      go_wp2_with fail
      refine (rFew_any d gl gs 20 _ _ HG.out (by omega)).mono ?_
      rintro e w2 ⟨rfl, hx2⟩
      rw [HF.out]
      have HX2 := Lib.hid (HX.out.trans hx2)
      clear hx2
      go_wp2_with fail
      refine (sanity_any _ (HT.out.ext HX2.out)).mono ?_
      rintro e w3 ⟨rfl, hx3⟩
      go_wp2_with fail
      go_ret
      exact ⟨rfl, HX2.out.trans hx3⟩
set_option maxRecDepth 100000 in
set_option maxHeartbeats 8000000 in
theorem encs_in (d gl n : Int) (gs : List (List Int)) (data : List UInt8) (G : Value) (w : World) (hT : Tab w) (hG : Rs (Rs RI) w G gs)
    (hf : Cd.few gs 20 = true) (ho : ¬ (200 < data.length ∧ data.length ≤ 4096)) (ho2 : data.length ≤ 4106) :
    Calls Tryd.prog 3 #[.agg #[.int .i64 d, G, .int .i64 gl], .string (sb data), .int .i64 n] w fun e w' => e = .returned (.bool true) ∧ Ext w w' := by
  obtain ⟨A, c, rfl, hgl⟩ := hG.form
  have hx := ((Ext.refl w).alloc (.cells #[.int .i64 d, .slice A gs.length c, .int .i64 gl] 24))
  have HG := Lib.hid (Rs.ext (Rs.ext RI.ext) _ _ _ _ hx hG)
  have HT := Lib.hid hT
  have HX := Lib.hid hx
  have hgn : gs.length ≤ 1000000 := by have := Cd.few_len hf; omega
  have HF := Lib.hid hf
  clear hG hT hx hf
  have hlen : data.length ≤ 200 ∨ ¬ data.length ≤ 4096 := by omega
  have step : ∀ (w2 : World), Ext (w.alloc (.cells #[.int .i64 d, .slice A gs.length c, .int .i64 gl] 24)) w2 →
      w2.cell? ⟨w.heap.size, 0, none⟩ = some (.int .i64 d) ∧ w2.cell? ⟨w.heap.size, 1, none⟩ = some (.slice A gs.length c) ∧ w2.cell? ⟨w.heap.size, 2, none⟩ = some (.int .i64 gl) := fun w2 hx => ⟨hx.cell (by go_simp), hx.cell (by go_simp), hx.cell (by go_simp)⟩
  have ST := Lib.hid step
  clear step
  rcases hlen with hlen | hlen
  all_goals
    clear ho
    go_enter Tryd.func3, Tryd.ntmps3
    go_wp2_with fail
    refine (rFew_any d gl gs 20 _ _ HG.out (by omega)).mono ?_
    rintro e w2 ⟨rfl, hx2⟩
    rw [HF.out]
    obtain ⟨c0, c1, c2⟩ := ST.out w2 hx2
    have HX2 := Lib.hid hx2
    clear hx2
    go_wp2_with fail
    clear c0 c1 c2
    refine (rCheck_any d gl gs _ _ (Rs.ext (Rs.ext RI.ext) _ _ _ _ HX2.out HG.out) hgn).mono ?_
    rintro e w3 ⟨rfl, hx3⟩
    have HX3 := Lib.hid (HX2.out.trans hx3)
    obtain ⟨c0, c1, c2⟩ := ST.out w3 HX3.out
    clear hx3
    go_wp2_with fail
    clear c0 c1 c2
    refine (cRows_any d gl gs _ _ (HT.out.ext (HX.out.trans HX3.out)) (Rs.ext (Rs.ext RI.ext) _ _ _ _ HX3.out HG.out)).mono ?_
    rintro e w4 ⟨vr, rfl, hvr, hx4⟩
    have HVR := Lib.hid hvr
    have HX4 := Lib.hid (HX3.out.trans hx4)
    obtain ⟨c0, c1, c2⟩ := ST.out w4 HX4.out
    clear hx4 hvr
    go_wp2_with fail
    clear c0 c1 c2
    refine (cEncode_any d gl gs data _ _ (HT.out.ext (HX.out.trans HX4.out)) (Rs.ext (Rs.ext RI.ext) _ _ _ _ HX4.out HG.out) (by omega)).mono ?_
    rintro e w5 ⟨v1, rfl, hv1, hx5⟩
    have HV1 := Lib.hid (And.intro hv1 (Rs.ext (Rs.ext RB.ext) _ _ _ _ hx5 HVR.out))
    have HX5 := Lib.hid (HX4.out.trans hx5)
    obtain ⟨c0, c1, c2⟩ := ST.out w5 HX5.out
    clear hx5 hv1
    go_wp2_with fail
    clear c0 c1 c2
    refine (rEncode_any d gl gs data _ _ (Rs.ext (Rs.ext RI.ext) _ _ _ _ HX5.out HG.out) (by omega) hgn).mono ?_
    rintro e w6 ⟨v2, rfl, hv2, hx6⟩
    have HV2 := Lib.hid (And.intro hv2 (And.intro (Rs.ext RS.ext _ _ _ _ hx6 HV1.out.1) (Rs.ext (Rs.ext RB.ext) _ _ _ _ hx6 HV1.out.2)))
    have HX6 := Lib.hid (HX5.out.trans hx6)
    obtain ⟨c0, c1, c2⟩ := ST.out w6 HX6.out
    obtain ⟨B2, d2, rfl, hlen2⟩ := hv2.form
    clear hx6 hv2
    have hx7 := (Ext.refl w6).alloc (.cells #[.slice B2 (Cd.encL d gl gs data).length d2, .int .i64 (Cd.encE d gl gs data)] 36)
    have HX7 := Lib.hid (HX6.out.trans hx7)
    have HC := Lib.hid (ST.out _ HX7.out)
    have HV3 := Lib.hid (And.intro (Rs.ext RS.ext _ _ _ _ hx7 HV2.out.1) (And.intro (Rs.ext RS.ext _ _ _ _ hx7 HV2.out.2.1) (Rs.ext (Rs.ext RB.ext) _ _ _ _ hx7 HV2.out.2.2)))
    clear hx7
    go_upto_region 8 with fail
    refine wp_atEnd (enc_eight w.heap.size w6.heap.size c d gl n (Cd.encE d gl gs data) gs A v1 (.slice B2 (Cd.encL d gl gs data).length d2) (Cd.encL d gl gs data) _ hgn
      HC.out.1 HC.out.2.1 HC.out.2.2 (by go_simp) (by go_simp) (Lib.hid (Rs.ext (Rs.ext RI.ext) _ _ _ _ HX7.out HG.out)) (Lib.hid HV3.out.2.1) (Lib.hid HV3.out.1) _ _ _ _ _ _ _ _ _ _ _ _ _ _ _ _ _ _ _ _ _ _ _ _ _ _ _ _ _ _ _ _ _ _ _ _ _ _ _ _ _ _ _ _ _ _ _ _ _ _ _ _ _ _ _ _ _ _ _ _ _ _ _ _ _ _ _ _ _ _ _ _ _ _ _ _ _ _ _ _ _ _ _ _ _ _ _ _ _ _ ?_)
    intros
    rename_i w8 hx8
    have HX8 := Lib.hid (HX7.out.trans hx8)
    have HVR8 := Lib.hid (Rs.ext (Rs.ext RB.ext) _ _ _ _ hx8 HV3.out.2.2)
    clear hx8 c0 c1 c2
    go_wp2_with fail
    refine (sanity_any _ (HT.out.ext (HX.out.trans HX8.out))).mono ?_
    rintro e w9 ⟨rfl, hx9⟩
    have HX9 := Lib.hid (HX8.out.trans hx9)
    have HVR9 := Lib.hid (Rs.ext (Rs.ext RB.ext) _ _ _ _ hx9 HVR8.out)
    obtain ⟨c0, c1, c2⟩ := ST.out w9 HX9.out
    clear hx9
    go_wp2_with fail
    clear c0 c1 c2
    refine (rRows_any d gl gs _ _ (Rs.ext (Rs.ext RI.ext) _ _ _ _ HX9.out HG.out) hgn).mono ?_
    rintro e w10 ⟨v3, rfl, hv3, hx10⟩
    have HX10 := Lib.hid (HX9.out.trans hx10)
    have HV10 := Lib.hid (And.intro hv3 (Rs.ext (Rs.ext RB.ext) _ _ _ _ hx10 HVR9.out))
    clear hx10 hv3
    go_wp2_with fail
    refine (rSameRows_any _ _ _ _ _ HV10.out.2 HV10.out.1).mono ?_
    rintro e w11 ⟨rfl, hx11⟩
    rw [decide_eq_true (rfl : Cd.rowsOf d gs gl = Cd.rowsOf d gs gl)]
    go_wp2_with fail
    go_ret
    exact ⟨rfl, HX.out.trans (HX10.out.trans hx11)⟩
theorem encs_walk (d gl n : Int) (gs : List (List Int)) (data : List UInt8) (G : Value) (w : World) (hT : Tab w) (hG : Rs (Rs RI) w G gs) (hl : data.length ≤ 9223372036854775807) :
    Calls Tryd.prog 3 #[.agg #[.int .i64 d, G, .int .i64 gl], .string (sb data), .int .i64 n] w fun e w' => e = .returned (.bool true) ∧ Ext w w' := by
  by_cases ho : Cd.few gs 20 = false ∨ (200 < data.length ∧ data.length ≤ 4096) ∨ 4106 < data.length
  · exact encs_out d gl n gs data G w hT hG hl ho
  · have hf : Cd.few gs 20 = true := by
      cases h : Cd.few gs 20 with
      | true => rfl
      | false => exact absurd (.inl h) ho
    exact encs_in d gl n gs data G w hT hG hf (fun h => ho (.inr (.inl h))) (by omega)
end Go.Proofs.YtgkohfmgdejkpaaDoor
