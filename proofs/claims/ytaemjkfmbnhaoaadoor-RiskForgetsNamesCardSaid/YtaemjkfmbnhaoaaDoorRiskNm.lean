/- THE LAW RiskForgetsNames: its walk. -/
import Derived.Test.YtaemjkfmbnhaoaaDoorRiskNr
import Derived.Deep.CutRange
namespace Go.Proofs.YtaemjkfmbnhaoaaDoor
open Go.RowKit
set_option maxRecDepth 100000 in
set_option maxHeartbeats 16000000 in
theorem names_walk (p q : Rk.Pe) (a0 a1 : Nat) (v u : Value) (w : World) (hT : Tab w) (hv : RP w v p) (hu : RP w u q) (h0 : a0 < 256) (h1 : a1 < 256) :
    Calls Tryd.prog 8 #[v, u, .agg #[.int .u8 a0, .int .u8 a1]] w fun e w' => e = .returned (.bool true) ∧ Ext w w' := by
  obtain ⟨A1, A2, A3, c1, c2, c3, rfl⟩ := hv.slices
  obtain ⟨B1, B2, B3, d1, d2, d3, rfl⟩ := hu.slices
  have hx0 : Ext w (((w.alloc (.cells #[.int .i64 p.d, .slice A1 p.gs.length c1, .int .i64 p.gl, .slice A2 p.at'.length c2, .slice A3 p.ch.length c3] 27)).alloc (.cells #[.int .i64 q.d, .slice B1 q.gs.length d1, .int .i64 q.gl, .slice B2 q.at'.length d2, .slice B3 q.ch.length d3] 27)).alloc (.cells #[.int .u8 a0, .int .u8 a1] 54)) := (((Ext.refl w).alloc _).alloc _).alloc _
  have HX0 := Lib.hid hx0
  have HP0 := Lib.hid (RP.ext _ _ _ _ hx0 hv)
  have HQ0 := Lib.hid (RP.ext _ _ _ _ hx0 hu)
  have hcp := ((cells_new w #[.int .i64 p.d, .slice A1 p.gs.length c1, .int .i64 p.gl, .slice A2 p.at'.length c2, .slice A3 p.ch.length c3] 27).ext (((Ext.refl _).alloc (.cells #[.int .i64 q.d, .slice B1 q.gs.length d1, .int .i64 q.gl, .slice B2 q.at'.length d2, .slice B3 q.ch.length d3] 27)).alloc (.cells #[.int .u8 a0, .int .u8 a1] 54)))
  have hcq := ((cells_new (w.alloc (.cells #[.int .i64 p.d, .slice A1 p.gs.length c1, .int .i64 p.gl, .slice A2 p.at'.length c2, .slice A3 p.ch.length c3] 27)) #[.int .i64 q.d, .slice B1 q.gs.length d1, .int .i64 q.gl, .slice B2 q.at'.length d2, .slice B3 q.ch.length d3] 27).ext ((Ext.refl _).alloc (.cells #[.int .u8 a0, .int .u8 a1] 54)))
  have hct := (cells_new ((w.alloc (.cells #[.int .i64 p.d, .slice A1 p.gs.length c1, .int .i64 p.gl, .slice A2 p.at'.length c2, .slice A3 p.ch.length c3] 27)).alloc (.cells #[.int .i64 q.d, .slice B1 q.gs.length d1, .int .i64 q.gl, .slice B2 q.at'.length d2, .slice B3 q.ch.length d3] 27)) #[.int .u8 a0, .int .u8 a1] 54)
  simp only [World.size_alloc] at hcq hct
  have CP0 := Lib.hid hcp
  have CQ0 := Lib.hid hcq
  have CT0 := Lib.hid hct
  have HT := Lib.hid hT
  clear hv hu hx0 hT hcp hcq hct
  go_enter Tryd.func8, Tryd.ntmps8
  go_wp2_with fail
  refine (few_more p 9 _ _ HP0.out).mono ?_
  rintro e w1 ⟨b, rfl, hb, hx⟩
  have HFP := Lib.hid hb
  have HX1 := Lib.hid (HX0.out.trans hx)
  have HP1 := Lib.hid (RP.ext _ _ _ _ hx HP0.out)
  have HQ1 := Lib.hid (RP.ext _ _ _ _ hx HQ0.out)
  have CP1 := Lib.hid (CP0.out.ext hx)
  have CQ1 := Lib.hid (CQ0.out.ext hx)
  have CT1 := Lib.hid (CT0.out.ext hx)
  clear hx hb
  have b0 : w1.cell? ⟨w.heap.size + 1, 0, none⟩ = some (.int .i64 q.d) := CQ1.out 0 _ rfl
  have b1 : w1.cell? ⟨w.heap.size + 1, 1, none⟩ = some (.slice B1 q.gs.length d1) := CQ1.out 1 _ rfl
  have b2 : w1.cell? ⟨w.heap.size + 1, 2, none⟩ = some (.int .i64 q.gl) := CQ1.out 2 _ rfl
  have b3 : w1.cell? ⟨w.heap.size + 1, 3, none⟩ = some (.slice B2 q.at'.length d2) := CQ1.out 3 _ rfl
  have b4 : w1.cell? ⟨w.heap.size + 1, 4, none⟩ = some (.slice B3 q.ch.length d3) := CQ1.out 4 _ rfl
  go_wp2_with fail
  clear b0 b1 b2 b3 b4
  refine (few_more q 9 _ _ HQ1.out).mono ?_
  rintro e w2 ⟨b2, rfl, hb, hx⟩
  have HFQ := Lib.hid hb
  have HX2 := Lib.hid (HX1.out.trans hx)
  have HP2 := Lib.hid (RP.ext _ _ _ _ hx HP1.out)
  have HQ2 := Lib.hid (RP.ext _ _ _ _ hx HQ1.out)
  have CP2 := Lib.hid (CP1.out.ext hx)
  have CQ2 := Lib.hid (CQ1.out.ext hx)
  have CT2 := Lib.hid (CT1.out.ext hx)
  clear hx hb
  cases b with
  | false =>
    go_wp2_with fail
    refine (sanity_any _ (HT.out.ext HX2.out)).mono ?_
    rintro e ws ⟨rfl, hx⟩
    have HXs := Lib.hid (HX2.out.trans hx)
    clear hx
    go_wp2_with fail
    go_ret
    exact ⟨rfl, HXs.out⟩
  | true =>
    cases b2 with
    | false =>
      go_wp2_with fail
      refine (sanity_any _ (HT.out.ext HX2.out)).mono ?_
      rintro e ws ⟨rfl, hx⟩
      have HXs := Lib.hid (HX2.out.trans hx)
      clear hx
      go_wp2_with fail
      go_ret
      exact ⟨rfl, HXs.out⟩
    | true =>
      have b0 : w2.cell? ⟨w.heap.size, 0, none⟩ = some (.int .i64 p.d) := CP2.out 0 _ rfl
      have b1 : w2.cell? ⟨w.heap.size, 1, none⟩ = some (.slice A1 p.gs.length c1) := CP2.out 1 _ rfl
      have b2 : w2.cell? ⟨w.heap.size, 2, none⟩ = some (.int .i64 p.gl) := CP2.out 2 _ rfl
      have b3 : w2.cell? ⟨w.heap.size, 3, none⟩ = some (.slice A2 p.at'.length c2) := CP2.out 3 _ rfl
      have b4 : w2.cell? ⟨w.heap.size, 4, none⟩ = some (.slice A3 p.ch.length c3) := CP2.out 4 _ rfl
      go_wp2_with fail
      clear b0 b1 b2 b3 b4
      refine (kCheck_any p _ _ HP2.out).mono ?_
      rintro e w3 ⟨rfl, hx⟩
      have HX3 := Lib.hid (HX2.out.trans hx)
      have HP3 := Lib.hid (RP.ext _ _ _ _ hx HP2.out)
      have HQ3 := Lib.hid (RP.ext _ _ _ _ hx HQ2.out)
      have CP3 := Lib.hid (CP2.out.ext hx)
      have CQ3 := Lib.hid (CQ2.out.ext hx)
      have CT3 := Lib.hid (CT2.out.ext hx)
      clear hx
      by_cases hck : Rk.check p = 0
      · by_cases hn : p.ch.length = 0
        · have e1 : (Rk.check p != 0) = false := by rw [hck]; rfl
          have b0 : w3.cell? ⟨w.heap.size, 0, none⟩ = some (.int .i64 p.d) := CP3.out 0 _ rfl
          have b1 : w3.cell? ⟨w.heap.size, 1, none⟩ = some (.slice A1 p.gs.length c1) := CP3.out 1 _ rfl
          have b2 : w3.cell? ⟨w.heap.size, 2, none⟩ = some (.int .i64 p.gl) := CP3.out 2 _ rfl
          have b3 : w3.cell? ⟨w.heap.size, 3, none⟩ = some (.slice A2 p.at'.length c2) := CP3.out 3 _ rfl
          have b4 : w3.cell? ⟨w.heap.size, 4, none⟩ = some (.slice A3 p.ch.length c3) := CP3.out 4 _ rfl
          rw [hn] at b4
          clear hck hn
          go_wp2_with fail
          clear b0 b1 b2 b3 b4
          refine (sanity_any _ (HT.out.ext HX3.out)).mono ?_
          rintro e ws ⟨rfl, hx⟩
          have HXs := Lib.hid (HX3.out.trans hx)
          clear hx
          go_wp2_with fail
          go_ret
          exact ⟨rfl, HXs.out⟩
        · have e1 : (Rk.check p != 0) = false := by rw [hck]; rfl
          have h9 := (HFP.out (by trivial)).1
          have h60 := (HFP.out (by trivial)).2.1
          have e2 : ((p.ch.length : Int) == 0) = false := by rw [beq_eq_false_iff_ne]; omega
          have e3 : ((p.ch.length : Int)) ≠ 0 := by omega
          have hpos : 0 < p.ch.length := by omega
          have ua : ((a0 : Nat) : Int).tmod (p.ch.length : Int) = ((a0 % p.ch.length : Nat) : Int) := rem_nat
          have ub : ((a1 : Nat) : Int).tmod (p.ch.length : Int) = ((a1 % p.ch.length : Nat) : Int) := rem_nat
          have ha := Nat.mod_lt a0 hpos
          have hb := Nat.mod_lt a1 hpos
          obtain ⟨a, hae⟩ : ∃ a, a0 % p.ch.length = a := ⟨_, rfl⟩
          obtain ⟨b, hbe⟩ : ∃ b, a1 % p.ch.length = b := ⟨_, rfl⟩
          rw [hae] at ua ha
          rw [hbe] at ub hb
          have HCK := Lib.hid hck
          clear hae hbe hck hn
          have b0 : w3.cell? ⟨w.heap.size, 0, none⟩ = some (.int .i64 p.d) := CP3.out 0 _ rfl
          have b1 : w3.cell? ⟨w.heap.size, 1, none⟩ = some (.slice A1 p.gs.length c1) := CP3.out 1 _ rfl
          have b2 : w3.cell? ⟨w.heap.size, 2, none⟩ = some (.int .i64 p.gl) := CP3.out 2 _ rfl
          have b3 : w3.cell? ⟨w.heap.size, 3, none⟩ = some (.slice A2 p.at'.length c2) := CP3.out 3 _ rfl
          have b4 : w3.cell? ⟨w.heap.size, 4, none⟩ = some (.slice A3 p.ch.length c3) := CP3.out 4 _ rfl
          have t0 : w3.cell? ⟨w.heap.size + 1 + 1, 0, none⟩ = some (.int .u8 a0) := CT3.out 0 _ rfl
          have t1 : w3.cell? ⟨w.heap.size + 1 + 1, 1, none⟩ = some (.int .u8 a1) := CT3.out 1 _ rfl
          go_upto_region 7 with fail
          have hz : w.heap.size < w3.heap.size := lt_of_cell b0
          have HRC := Lib.hid (HP3.out.chance.rdI)
          have HONE := Lib.hid (one_ints p.ch)
          refine wp_atEnd (names_region p A1 A3 c1 c3 w w3 b0 b1 b2 b4 hz HRC HONE hpos h9 _ _ _ _ _ _ _ _ _ _ _ _ _ _ _ _ _ _ _ _ _ _ _ _ _ _ _ _ _ _ _ _ _ _ _ _ _ _ _ _ _ _ _ _ _ _ _ _ _ _ _ _ _ _ _ _ _ _ _ _ _ _ _ _ _ _ _ _ _ _ _ _ _ _ _ _ _ _ _ _ _ _ _ _ _ _ _ _ _ _ _ _ _ _ _ _ _ _ _ _ _ _ _ _ _ _ _ _ _ _ _ _ _ _ _ _ _ _ _ _ _ _ _ _ _ _ _ _ _ _ _ _ _ _ _ _ _ _ _ _ _ _ _ _ _ _ _ _ _ _ _ _ _ _ _ _ _ _ _ _ _ _ _ _ _ _ _ _ _ _ _ _ _ _ _ _ _ _ _ _ _ _ _ _ _ _ _ _ _ _ _ _ _ _ _ _ _ _ _ _ ?_)
          intro B g cc u64 u65 u66 u67 u68 u69 u70 wc hN
          have HN := hN
          clear hN b0 b1 b2 b3 b4 t0 t1
          have hx : Ext w3 wc := HN.out.ext
          have HX4 := Lib.hid (HX3.out.trans hx)
          have HP4 := Lib.hid (RP.ext _ _ _ _ hx HP3.out)
          have HQ4 := Lib.hid (RP.ext _ _ _ _ hx HQ3.out)
          have CP4 := Lib.hid (CP3.out.ext hx)
          have CQ4 := Lib.hid (CQ3.out.ext hx)
          have CT4 := Lib.hid (CT3.out.ext hx)
          clear hx
          obtain ⟨ad3, uu, rfl, hpb3, hu⟩ := (HP3.out.chance).at (i := b) hb
          obtain ⟨rfl, hblo, hbhi⟩ := hu
          have hpa3 := (HP3.out.chance).at (i := a) ha
          obtain ⟨ad4, uu, e4, hpa3, hu⟩ := hpa3
          injection e4 with e4
          subst e4
          obtain ⟨rfl, halo, hahi⟩ := hu
          have eb : p.ch.getD b 0 = p.ch[b] := by rw [List.getD_eq_getElem?_getD, List.getElem?_eq_getElem hb]; rfl
          have hna := HN.out.elem ha
          have ea : p.ch.getD a 0 = p.ch[a] := by rw [List.getD_eq_getElem?_getD, List.getElem?_eq_getElem ha]; rfl
          obtain ⟨y, hy⟩ : ∃ y, p.ch[b] = y := ⟨_, rfl⟩
          obtain ⟨x, hx⟩ : ∃ x, p.ch[a] = x := ⟨_, rfl⟩
          rw [hy] at hpb3 hblo hbhi eb
          rw [hx] at hpa3 halo hahi ea hna
          have HXY := Lib.hid (And.intro ea eb)
          clear ea eb hy hx
          have HA3 := Lib.hid hpa3
          have hpb : wc.cell? (ad3.add b) = some (.int .i64 y) := HN.out.ext.cell hpb3
          clear hpb3 hpa3
          have b4 : wc.cell? ⟨w.heap.size, 4, none⟩ = some (.slice (some ad3) p.ch.length c3) := CP4.out 4 _ rfl
          have n4 : wc.cell? ⟨B, 4, none⟩ = some (.slice (some ⟨g, 0, none⟩) p.ch.length cc) := HN.out.cell
          have nf : wc.frozen? ⟨g, a, none⟩ = false := HN.out.frozen a
          have nc : wc.cell? ⟨g, a, none⟩ = some (.int .i64 x) := hna
          clear hna
          go_wp2_with fail
          apply region_cut (fun w9 => NState w3 w9 B g cc p.d (.slice A1 p.gs.length c1) p.gl [] (p.ch.set a y))
          case h =>
            go_region_law (fail)
            all_goals exact ⟨rfl, HN.out.next (Ext.refl _).drew |>.put⟩
          case hK =>
            intro w9 h9
            have H9 := Lib.hid h9
            have hx9 := h9.ext
            have HX5 := Lib.hid (HX3.out.trans hx9)
            have HP5 := Lib.hid (RP.ext _ _ _ _ hx9 HP3.out)
            have HQ5 := Lib.hid (RP.ext _ _ _ _ hx9 HQ3.out)
            have CP5 := Lib.hid (CP3.out.ext hx9)
            have CQ5 := Lib.hid (CQ3.out.ext hx9)
            have CT5 := Lib.hid (CT3.out.ext hx9)
            clear h9 hx9 b4 n4 nf nc
            have b4 : w9.cell? ⟨w.heap.size, 4, none⟩ = some (.slice (some ad3) p.ch.length c3) := CP5.out 4 _ rfl
            have hls : (p.ch.set a y).length = p.ch.length := List.length_set
            have n4 : w9.cell? ⟨B, 4, none⟩ = some (.slice (some ⟨g, 0, none⟩) p.ch.length cc) := by have := H9.out.cell; rw [hls] at this; exact this
            have nf : w9.frozen? ⟨g, b, none⟩ = false := H9.out.frozen b
            obtain ⟨nv, nc⟩ : ∃ nv, w9.cell? ⟨g, b, none⟩ = some nv := ⟨_, H9.out.elem (k := b) (by rw [hls]; exact hb)⟩
            have hpa : w9.cell? (ad3.add a) = some (.int .i64 x) := H9.out.ext.cell HA3.out
            clear hls hpb
            go_wp2_with fail
            apply region_cut (fun w7 => NState w3 w7 B g cc p.d (.slice A1 p.gs.length c1) p.gl [] ((p.ch.set a y).set b x))
            case h =>
              go_region_law (fail)
              all_goals exact ⟨rfl, H9.out.next (Ext.refl _).drew |>.put⟩
            case hK =>
              intro w7 h7
              have hsw : (p.ch.set a y).set b x = Rk.swCh p.ch a b := by rw [Rk.swCh, HXY.out.1, HXY.out.2]
              rw [hsw] at h7
              have H7 := Lib.hid h7
              have hx7 := h7.ext
              have HX6 := Lib.hid (HX3.out.trans hx7)
              have HP6 := Lib.hid (RP.ext _ _ _ _ hx7 HP3.out)
              have HQ6 := Lib.hid (RP.ext _ _ _ _ hx7 HQ3.out)
              have CP6 := Lib.hid (CP3.out.ext hx7)
              have CQ6 := Lib.hid (CQ3.out.ext hx7)
              have CT6 := Lib.hid (CT3.out.ext hx7)
              clear h7 hx7 b4 n4 nf nc hpa hsw
              have b3 : w7.cell? ⟨w.heap.size, 3, none⟩ = some (.slice A2 p.at'.length c2) := CP6.out 3 _ rfl
              go_wp2_with fail
              clear b3
              go_loopw [12] (fun vi wr => ∃ i : Nat, i ≤ p.at'.length ∧ vi = .int .i64 i ∧ Hid (NState w3 wr B g cc p.d (.slice A1 p.gs.length c1) p.gl ((p.at'.take i).map (Rk.swI a b)) (Rk.swCh p.ch a b))) (fun vi _ => p.at'.length - (intOf vi).toNat)
              case atStart => exact ⟨0, Nat.zero_le _, rfl, H7.out⟩
              case round =>
                obtain ⟨i, hi, rfl, HI⟩ := hrel
                obtain ⟨T, ct, hO⟩ := HI.out
                have b3 : wr.cell? ⟨w.heap.size, 3, none⟩ = some (.slice A2 p.at'.length c2) := hO.ext.cell (CP3.out 3 _ rfl)
                by_cases hlt : i < p.at'.length
                · obtain ⟨ad, uu, rfl, hcell, hu⟩ := (HP3.out.parts.2.1).at (i := i) hlt
                  obtain ⟨rfl, hdlo, hdhi⟩ := hu
                  have hst := swap_take (a := a) (b := b) hlt
                  have hcell2 := hO.ext.cell hcell
                  obtain ⟨z, hz2⟩ : ∃ z, p.at'[i] = z := ⟨_, rfl⟩
                  rw [hz2] at hcell2 hdlo hdhi hst
                  obtain ⟨atl, hat⟩ : ∃ atl, (p.at'.take i).map (Rk.swI a b) = atl := ⟨_, rfl⟩
                  have hlen : atl.length = i := by rw [← hat, List.length_map, List.length_take]; omega
                  rw [hat] at hst hO
                  have HO := Lib.hid hO.wider
                  have n3 : wr.cell? ⟨B, 3, none⟩ = some (.slice T atl.length ct) := hO.cell 0 rfl 3 rfl
                  have HST := Lib.hid hst
                  have HLEN := Lib.hid hlen
                  clear hO hat hlen hst hcell hz2
                  by_cases za : z = (a : Int)
                  · have hy : Rk.swI a b z = (b : Int) := if_pos za
                    have eb1 : (z == (a : Int)) = true := by rw [za]; exact beq_self_eq_true _
                    rw [hy] at HST
                    clear za hy
                    go_wp2_with (have hB := HO.out.new 3 #[.int .i64 (b : Int)] 3 (by simp [maxLen]); refine wpl_append_owns (u := .int .i64 (b : Int)) 25 3 rfl (.tmp 110) (.tmp 112) rfl Tryd.underlying25 info_int rfl hB 1 rfl rfl rfl (hB.cell 3 rfl 0 rfl) rfl (by have := HLEN.out; omega) (by decide) ?_; clear hB; intro g8 c8 w8 hO8 _; have P3 : w8.cell? ⟨B, 3, none⟩ = some (.slice T atl.length ct) := hO8.cell 0 rfl 3 rfl; have F3 : w8.frozen? ⟨B, 3, none⟩ = false := hO8.frozen 0 rfl 3)
                    go_roundw
                    case rel => exact ⟨i + 1, by omega, by go_num, by rw [HST.out]; exact NState.pushAt (hO8.store 0 rfl 3 _)⟩
                    case measure => simp [intOf]; omega
                  · by_cases zb : z = (b : Int)
                    · have hy : Rk.swI a b z = (a : Int) := by rw [Rk.swI, if_neg za, if_pos zb]
                      have eb1 : (z == (a : Int)) = false := by rw [beq_eq_false_iff_ne]; exact za
                      have eb2 : (z == (b : Int)) = true := by rw [zb]; exact beq_self_eq_true _
                      rw [hy] at HST
                      clear za zb hy
                      go_wp2_with (have hB := HO.out.new 3 #[.int .i64 (a : Int)] 3 (by simp [maxLen]); refine wpl_append_owns (u := .int .i64 (a : Int)) 25 3 rfl (.tmp 110) (.tmp 112) rfl Tryd.underlying25 info_int rfl hB 1 rfl rfl rfl (hB.cell 3 rfl 0 rfl) rfl (by have := HLEN.out; omega) (by decide) ?_; clear hB; intro g8 c8 w8 hO8 _; have P3 : w8.cell? ⟨B, 3, none⟩ = some (.slice T atl.length ct) := hO8.cell 0 rfl 3 rfl; have F3 : w8.frozen? ⟨B, 3, none⟩ = false := hO8.frozen 0 rfl 3)
                      go_roundw
                      case rel => exact ⟨i + 1, by omega, by go_num, by rw [HST.out]; exact NState.pushAt (hO8.store 0 rfl 3 _)⟩
                      case measure => simp [intOf]; omega
                    · have hy : Rk.swI a b z = z := by rw [Rk.swI, if_neg za, if_neg zb]
                      have eb1 : (z == (a : Int)) = false := by rw [beq_eq_false_iff_ne]; exact za
                      have eb2 : (z == (b : Int)) = false := by rw [beq_eq_false_iff_ne]; exact zb
                      rw [hy] at HST
                      clear za zb hy
                      go_wp2_with (have hB := HO.out.new 3 #[.int .i64 z] 3 (by simp [maxLen]); refine wpl_append_owns (u := .int .i64 z) 25 3 rfl (.tmp 110) (.tmp 112) rfl Tryd.underlying25 info_int rfl hB 1 rfl rfl rfl (hB.cell 3 rfl 0 rfl) rfl (by have := HLEN.out; omega) (by decide) ?_; clear hB; intro g8 c8 w8 hO8 _; have P3 : w8.cell? ⟨B, 3, none⟩ = some (.slice T atl.length ct) := hO8.cell 0 rfl 3 rfl; have F3 : w8.frozen? ⟨B, 3, none⟩ = false := hO8.frozen 0 rfl 3)
                      go_roundw
                      case rel => exact ⟨i + 1, by omega, by go_num, by rw [HST.out]; exact NState.pushAt (hO8.store 0 rfl 3 _)⟩
                      case measure => simp [intOf]; omega
                · obtain rfl : i = p.at'.length := by omega
                  have hN2 := HI.out
                  rw [List.take_length] at hN2
                  clear hO b3
                  have HN2 := Lib.hid hN2
                  have hx2 := hN2.ext
                  clear HI
                  have HX7 := Lib.hid (HX3.out.trans hx2)
                  have HP7 := Lib.hid (RP.ext _ _ _ _ hx2 HP3.out)
                  have HQ7 := Lib.hid (RP.ext _ _ _ _ hx2 HQ3.out)
                  have CP7 := Lib.hid (CP3.out.ext hx2)
                  have CQ7 := Lib.hid (CQ3.out.ext hx2)
                  have CT7 := Lib.hid (CT3.out.ext hx2)
                  have hsc := Rk.swP_check (Rk.ok_of HCK.out) ha hb
                  have hlo := Rk.swP_loss (Rk.ok_of HCK.out) ha hb
                  have hle := Rk.swP_least (fst := firstB) HCK.out ha hb
                  have hcm := Rk.cmp_swP HCK.out ha hb
                  have hsp := Rk.least_spec (fst := firstB) HCK.out
                  have hsq := Rk.least_spec (fst := firstB) hsc
                  have h512 : 2 ^ p.ch.length ≤ 2 ^ 9 := Nat.pow_le_pow_right (by omega) h9
                  have hl1 : Rk.least firstB p < 512 := Nat.lt_of_lt_of_le hsp.1 h512
                  have hl2 : Rk.least firstB (Rk.swP p a b) < 512 := Nat.lt_of_lt_of_le hsq.1 (by show 2 ^ (Rk.swCh p.ch a b).length ≤ 512; rw [Rk.swCh_len]; exact h512)
                  rw [← Rk.lossOf_ok hsc, ← Rk.lossOf_ok HCK.out] at hlo
                  clear hsp hsq h512
                  obtain ⟨T2, ct2, hO2⟩ := HN2.out
                  have hok := Rk.ok_of hsc
                  have hr1 : Rs RI wr (.slice T2 (p.at'.map (Rk.swI a b)).length ct2) (p.at'.map (Rk.swI a b)) := Rs.of_rdI (hO2.rd 1 rfl) rfl (by rw [List.length_map]; omega) (fun z hz => by have h1 := hok.at_ok z hz; have h2 : (Rk.swP p a b).ch.length = p.ch.length := Rk.swCh_len _ _ _; omega)
                  have hr2 : Rs RI wr (.slice (some ⟨g, 0, none⟩) (Rk.swCh p.ch a b).length cc) (Rk.swCh p.ch a b) := Rs.of_rdI (hO2.rd 2 rfl) rfl (by rw [Rk.swCh_len]; omega) (fun z hz => by have h1 := hok.ch_ok z hz; omega)
                  have hcn := hO2.cells 0 rfl
                  rw [List.length_map] at hr1 hcn
                  rw [Rk.swCh_len] at hr2 hcn
                  have hrm : RP wr (.agg #[.int .i64 p.d, .slice A1 p.gs.length c1, .int .i64 p.gl, .slice T2 p.at'.length ct2, .slice (some ⟨g, 0, none⟩) p.ch.length cc]) (Rk.swP p a b) := ⟨_, _, _, rfl, HP7.out.parts.1, hr1, hr2⟩
                  have HM7 := Lib.hid hrm
                  have CM7 := Lib.hid hcn
                  have HSC := Lib.hid hsc
                  have HLO := Lib.hid hlo
                  have HLE := Lib.hid hle
                  have HCM := Lib.hid hcm
                  clear hN2 hx2 hok hr1 hr2 hcn hrm hsc hlo hle hcm hO2
                  have b3 : wr.cell? ⟨w.heap.size, 3, none⟩ = some (.slice A2 p.at'.length c2) := CP7.out 3 _ rfl
                  have b0 : wr.cell? ⟨w.heap.size, 0, none⟩ = some (.int .i64 p.d) := CP7.out 0 _ rfl
                  have b1 : wr.cell? ⟨w.heap.size, 1, none⟩ = some (.slice A1 p.gs.length c1) := CP7.out 1 _ rfl
                  have b2 : wr.cell? ⟨w.heap.size, 2, none⟩ = some (.int .i64 p.gl) := CP7.out 2 _ rfl
                  have b4 : wr.cell? ⟨w.heap.size, 4, none⟩ = some (.slice (some ad3) p.ch.length c3) := CP7.out 4 _ rfl
                  go_wp2_with fail
                  clear b0 b1 b2 b3 b4
                  refine (kLoss_any p _ _ (HT.out.ext HX7.out) HP7.out).mono ?_
                  rintro e w8 ⟨rfl, hx⟩
                  rw [HCK.out]
                  have HX8 := Lib.hid (HX7.out.trans hx)
                  have HP8 := Lib.hid (RP.ext _ _ _ _ hx HP7.out)
                  have HQ8 := Lib.hid (RP.ext _ _ _ _ hx HQ7.out)
                  have CP8 := Lib.hid (CP7.out.ext hx)
                  have CQ8 := Lib.hid (CQ7.out.ext hx)
                  have CT8 := Lib.hid (CT7.out.ext hx)
                  have HM8 := Lib.hid (RP.ext _ _ _ _ hx HM7.out)
                  have CM8 := Lib.hid (CM7.out.ext hx)
                  clear hx
                  obtain ⟨X, hX⟩ : ∃ X, Rk.lossOf p = X := ⟨_, rfl⟩
                  rw [hX]
                  have hX2 := HLO.out
                  rw [hX] at hX2
                  have HX2q := Lib.hid hX2
                  clear hX hX2
                  have n0 : w8.cell? ⟨B, 0, none⟩ = some (.int .i64 p.d) := CM8.out 0 _ rfl
                  have n1 : w8.cell? ⟨B, 1, none⟩ = some (.slice A1 p.gs.length c1) := CM8.out 1 _ rfl
                  have n2 : w8.cell? ⟨B, 2, none⟩ = some (.int .i64 p.gl) := CM8.out 2 _ rfl
                  have n3 : w8.cell? ⟨B, 3, none⟩ = some (.slice T2 p.at'.length ct2) := CM8.out 3 _ rfl
                  have n4 : w8.cell? ⟨B, 4, none⟩ = some (.slice (some ⟨g, 0, none⟩) p.ch.length cc) := CM8.out 4 _ rfl
                  go_wp2_with fail
                  clear n0 n1 n2 n3 n4
                  refine (kLoss_any (Rk.swP p a b) _ _ (HT.out.ext HX8.out) HM8.out).mono ?_
                  rintro e w9 ⟨rfl, hx⟩
                  rw [HX2q.out, HSC.out]
                  have HX9 := Lib.hid (HX8.out.trans hx)
                  have HP9 := Lib.hid (RP.ext _ _ _ _ hx HP8.out)
                  have HQ9 := Lib.hid (RP.ext _ _ _ _ hx HQ8.out)
                  have CP9 := Lib.hid (CP8.out.ext hx)
                  have CQ9 := Lib.hid (CQ8.out.ext hx)
                  have CT9 := Lib.hid (CT8.out.ext hx)
                  have HM9 := Lib.hid (RP.ext _ _ _ _ hx HM8.out)
                  have CM9 := Lib.hid (CM8.out.ext hx)
                  clear hx
                  have b0 : w9.cell? ⟨w.heap.size, 0, none⟩ = some (.int .i64 p.d) := CP9.out 0 _ rfl
                  have b1 : w9.cell? ⟨w.heap.size, 1, none⟩ = some (.slice A1 p.gs.length c1) := CP9.out 1 _ rfl
                  have b2 : w9.cell? ⟨w.heap.size, 2, none⟩ = some (.int .i64 p.gl) := CP9.out 2 _ rfl
                  have b3 : w9.cell? ⟨w.heap.size, 3, none⟩ = some (.slice A2 p.at'.length c2) := CP9.out 3 _ rfl
                  have b4 : w9.cell? ⟨w.heap.size, 4, none⟩ = some (.slice (some ad3) p.ch.length c3) := CP9.out 4 _ rfl
                  go_wp2_with fail
                  clear b0 b1 b2 b3 b4
                  refine (kLeast_any p _ _ (HT.out.ext HX9.out) HP9.out).mono ?_
                  rintro e w10 ⟨rfl, hx⟩
                  rw [HCK.out]
                  have HX10 := Lib.hid (HX9.out.trans hx)
                  have HP10 := Lib.hid (RP.ext _ _ _ _ hx HP9.out)
                  have HQ10 := Lib.hid (RP.ext _ _ _ _ hx HQ9.out)
                  have CP10 := Lib.hid (CP9.out.ext hx)
                  have CQ10 := Lib.hid (CQ9.out.ext hx)
                  have CT10 := Lib.hid (CT9.out.ext hx)
                  have HM10 := Lib.hid (RP.ext _ _ _ _ hx HM9.out)
                  have CM10 := Lib.hid (CM9.out.ext hx)
                  clear hx
                  have n0 : w10.cell? ⟨B, 0, none⟩ = some (.int .i64 p.d) := CM10.out 0 _ rfl
                  have n1 : w10.cell? ⟨B, 1, none⟩ = some (.slice A1 p.gs.length c1) := CM10.out 1 _ rfl
                  have n2 : w10.cell? ⟨B, 2, none⟩ = some (.int .i64 p.gl) := CM10.out 2 _ rfl
                  have n3 : w10.cell? ⟨B, 3, none⟩ = some (.slice T2 p.at'.length ct2) := CM10.out 3 _ rfl
                  have n4 : w10.cell? ⟨B, 4, none⟩ = some (.slice (some ⟨g, 0, none⟩) p.ch.length cc) := CM10.out 4 _ rfl
                  go_wp2_with fail
                  clear n0 n1 n2 n3 n4
                  refine (kLeast_any (Rk.swP p a b) _ _ (HT.out.ext HX10.out) HM10.out).mono ?_
                  rintro e w11 ⟨rfl, hx⟩
                  rw [HSC.out]
                  have HX11 := Lib.hid (HX10.out.trans hx)
                  have HP11 := Lib.hid (RP.ext _ _ _ _ hx HP10.out)
                  have HQ11 := Lib.hid (RP.ext _ _ _ _ hx HQ10.out)
                  have CP11 := Lib.hid (CP10.out.ext hx)
                  have CQ11 := Lib.hid (CQ10.out.ext hx)
                  have CT11 := Lib.hid (CT10.out.ext hx)
                  have HM11 := Lib.hid (RP.ext _ _ _ _ hx HM10.out)
                  have CM11 := Lib.hid (CM10.out.ext hx)
                  clear hx
                  have b0 : w11.cell? ⟨w.heap.size, 0, none⟩ = some (.int .i64 p.d) := CP11.out 0 _ rfl
                  have b1 : w11.cell? ⟨w.heap.size, 1, none⟩ = some (.slice A1 p.gs.length c1) := CP11.out 1 _ rfl
                  have b2 : w11.cell? ⟨w.heap.size, 2, none⟩ = some (.int .i64 p.gl) := CP11.out 2 _ rfl
                  have b3 : w11.cell? ⟨w.heap.size, 3, none⟩ = some (.slice A2 p.at'.length c2) := CP11.out 3 _ rfl
                  have b4 : w11.cell? ⟨w.heap.size, 4, none⟩ = some (.slice (some ad3) p.ch.length c3) := CP11.out 4 _ rfl
                  have n0 : w11.cell? ⟨B, 0, none⟩ = some (.int .i64 p.d) := CM11.out 0 _ rfl
                  have n1 : w11.cell? ⟨B, 1, none⟩ = some (.slice A1 p.gs.length c1) := CM11.out 1 _ rfl
                  have n2 : w11.cell? ⟨B, 2, none⟩ = some (.int .i64 p.gl) := CM11.out 2 _ rfl
                  have n3 : w11.cell? ⟨B, 3, none⟩ = some (.slice T2 p.at'.length ct2) := CM11.out 3 _ rfl
                  have n4 : w11.cell? ⟨B, 4, none⟩ = some (.slice (some ⟨g, 0, none⟩) p.ch.length cc) := CM11.out 4 _ rfl
                  go_wp2_with fail
                  clear n0 n1 n2 n3 n4 b0 b1 b2 b3 b4
                  refine (kCmp_any p (Rk.swP p a b) _ _ _ (HT.out.ext HX11.out) HP11.out HM11.out).mono ?_
                  rintro e w12 ⟨rfl, hx⟩
                  rw [HCM.out]
                  have HX12 := Lib.hid (HX11.out.trans hx)
                  have HP12 := Lib.hid (RP.ext _ _ _ _ hx HP11.out)
                  have HQ12 := Lib.hid (RP.ext _ _ _ _ hx HQ11.out)
                  have CP12 := Lib.hid (CP11.out.ext hx)
                  have CQ12 := Lib.hid (CQ11.out.ext hx)
                  have CT12 := Lib.hid (CT11.out.ext hx)
                  have HM12 := Lib.hid (RP.ext _ _ _ _ hx HM11.out)
                  have CM12 := Lib.hid (CM11.out.ext hx)
                  clear hx
                  obtain ⟨L1, hL1⟩ : ∃ L1, Rk.least firstB p = L1 := ⟨_, rfl⟩
                  obtain ⟨L2, hL2⟩ : ∃ L2, Rk.least firstB (Rk.swP p a b) = L2 := ⟨_, rfl⟩
                  have hle := HLE.out
                  rw [hL1, hL2] at hle ⊢
                  rw [hL1] at hl1
                  rw [hL2] at hl2
                  have k1 := fun w => count_any L1 w (by omega)
                  have k2 := fun w => count_any L2 w (by omega)
                  obtain ⟨y1, hy1⟩ : ∃ y, Rk.cnt L1 = y := ⟨_, rfl⟩
                  rw [hle] at k2
                  rw [hy1] at k1 k2
                  have K1 := Lib.hid k1
                  have K2 := Lib.hid k2
                  clear k1 k2 hle hy1 hL1 hL2
                  go_wp2_with fail
                  refine (K1.out _).mono ?_
                  rintro e w' ⟨rfl, rfl⟩
                  go_wp2_with fail
                  refine (K2.out _).mono ?_
                  rintro e w' ⟨rfl, rfl⟩
                  have b0 : w12.cell? ⟨w.heap.size, 0, none⟩ = some (.int .i64 p.d) := CP12.out 0 _ rfl
                  have b1 : w12.cell? ⟨w.heap.size, 1, none⟩ = some (.slice A1 p.gs.length c1) := CP12.out 1 _ rfl
                  have b2 : w12.cell? ⟨w.heap.size, 2, none⟩ = some (.int .i64 p.gl) := CP12.out 2 _ rfl
                  have b3 : w12.cell? ⟨w.heap.size, 3, none⟩ = some (.slice A2 p.at'.length c2) := CP12.out 3 _ rfl
                  have b4 : w12.cell? ⟨w.heap.size, 4, none⟩ = some (.slice (some ad3) p.ch.length c3) := CP12.out 4 _ rfl
                  have n0 : w12.cell? ⟨w.heap.size + 1, 0, none⟩ = some (.int .i64 q.d) := CQ12.out 0 _ rfl
                  have n1 : w12.cell? ⟨w.heap.size + 1, 1, none⟩ = some (.slice B1 q.gs.length d1) := CQ12.out 1 _ rfl
                  have n2 : w12.cell? ⟨w.heap.size + 1, 2, none⟩ = some (.int .i64 q.gl) := CQ12.out 2 _ rfl
                  have n3 : w12.cell? ⟨w.heap.size + 1, 3, none⟩ = some (.slice B2 q.at'.length d2) := CQ12.out 3 _ rfl
                  have n4 : w12.cell? ⟨w.heap.size + 1, 4, none⟩ = some (.slice B3 q.ch.length d3) := CQ12.out 4 _ rfl
                  go_wp2_with fail
                  clear n0 n1 n2 n3 n4 b0 b1 b2 b3 b4
                  refine (kCmp_any p q _ _ _ (HT.out.ext HX12.out) HP12.out HQ12.out).mono ?_
                  rintro e w13 ⟨rfl, hx⟩
                  have HX13 := Lib.hid (HX12.out.trans hx)
                  have HP13 := Lib.hid (RP.ext _ _ _ _ hx HP12.out)
                  have HQ13 := Lib.hid (RP.ext _ _ _ _ hx HQ12.out)
                  have CP13 := Lib.hid (CP12.out.ext hx)
                  have CQ13 := Lib.hid (CQ12.out.ext hx)
                  have CT13 := Lib.hid (CT12.out.ext hx)
                  have HM13 := Lib.hid (RP.ext _ _ _ _ hx HM12.out)
                  have CM13 := Lib.hid (CM12.out.ext hx)
                  clear hx
                  have htu := Rk.cmp_turn (q := q) HCK.out
                  obtain ⟨h1', h2', h3', h4'⟩ := htu
                  obtain ⟨k, hk⟩ : ∃ k, (Rk.cmp p q).1 = k := ⟨_, rfl⟩
                  obtain ⟨j, hj⟩ : ∃ j, (Rk.cmp p q).2 = j := ⟨_, rfl⟩
                  rw [hk, hj]
                  rw [hk] at h2' h3' h4'
                  rw [hj] at h1'
                  have H12 := Lib.hid (And.intro h1' h2')
                  clear h1' h2' hk hj
                  have b0 : w13.cell? ⟨w.heap.size, 0, none⟩ = some (.int .i64 p.d) := CP13.out 0 _ rfl
                  have b1 : w13.cell? ⟨w.heap.size, 1, none⟩ = some (.slice A1 p.gs.length c1) := CP13.out 1 _ rfl
                  have b2 : w13.cell? ⟨w.heap.size, 2, none⟩ = some (.int .i64 p.gl) := CP13.out 2 _ rfl
                  have b3 : w13.cell? ⟨w.heap.size, 3, none⟩ = some (.slice A2 p.at'.length c2) := CP13.out 3 _ rfl
                  have b4 : w13.cell? ⟨w.heap.size, 4, none⟩ = some (.slice (some ad3) p.ch.length c3) := CP13.out 4 _ rfl
                  have n0 : w13.cell? ⟨w.heap.size + 1, 0, none⟩ = some (.int .i64 q.d) := CQ13.out 0 _ rfl
                  have n1 : w13.cell? ⟨w.heap.size + 1, 1, none⟩ = some (.slice B1 q.gs.length d1) := CQ13.out 1 _ rfl
                  have n2 : w13.cell? ⟨w.heap.size + 1, 2, none⟩ = some (.int .i64 q.gl) := CQ13.out 2 _ rfl
                  have n3 : w13.cell? ⟨w.heap.size + 1, 3, none⟩ = some (.slice B2 q.at'.length d2) := CQ13.out 3 _ rfl
                  have n4 : w13.cell? ⟨w.heap.size + 1, 4, none⟩ = some (.slice B3 q.ch.length d3) := CQ13.out 4 _ rfl
                  go_wp2_with fail
                  clear n0 n1 n2 n3 n4 b0 b1 b2 b3 b4
                  refine (kCmp_any q p _ _ _ (HT.out.ext HX13.out) HQ13.out HP13.out).mono ?_
                  rintro e w14 ⟨rfl, hx⟩
                  rw [H12.out.1, H12.out.2]
                  have HX14 := Lib.hid (HX13.out.trans hx)
                  have HP14 := Lib.hid (RP.ext _ _ _ _ hx HP13.out)
                  have HQ14 := Lib.hid (RP.ext _ _ _ _ hx HQ13.out)
                  have CP14 := Lib.hid (CP13.out.ext hx)
                  have CQ14 := Lib.hid (CQ13.out.ext hx)
                  have CT14 := Lib.hid (CT13.out.ext hx)
                  have HM14 := Lib.hid (RP.ext _ _ _ _ hx HM13.out)
                  have CM14 := Lib.hid (CM13.out.ext hx)
                  clear hx
                  go_wp2_with fail
                  refine (sanity_any _ (HT.out.ext HX14.out)).mono ?_
                  rintro e w15 ⟨rfl, hx⟩
                  have HX15 := Lib.hid (HX14.out.trans hx)
                  clear hx
                  go_wp2_with fail
                  go_ret
                  exact ⟨rfl, HX15.out⟩
      · have e1 : (Rk.check p != 0) = true := by rw [bne_iff_ne]; exact hck
        go_wp2_with fail
        refine (sanity_any _ (HT.out.ext HX3.out)).mono ?_
        rintro e ws ⟨rfl, hx⟩
        have HXs := Lib.hid (HX3.out.trans hx)
        clear hx
        go_wp2_with fail
        go_ret
        exact ⟨rfl, HXs.out⟩
end Go.Proofs.YtaemjkfmbnhaoaaDoor
