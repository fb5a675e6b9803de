/- THE LAW RiskIsMonotone: its walk, for a peril without domains. -/
import Derived.Test.YtaemjkfmbnhaoaaDoorRiskW
namespace Go.Proofs.YtaemjkfmbnhaoaaDoor
open Go.RowKit
set_option maxRecDepth 100000 in
set_option maxHeartbeats 32000000 in
theorem mono_no (p : Rk.Pe) (a0 a1 a2 s0 s1 : Nat) (v : Value) (w : World) (hT : Tab w) (hv : RP w v p) (ha2 : a2 < 256) (hs0 : s0 < 65536) (hs1 : s1 < 65536) (hn : p.ch.length = 0) :
    Calls Tryd.prog 5 #[v, .agg #[.int .u8 a0, .int .u8 a1, .int .u8 a2], .agg #[.int .u16 s0, .int .u16 s1]] w fun e w' => e = .returned (.bool true) ∧ Ext w w' := by
  have HN := Lib.hid hn
  clear hn
  obtain ⟨A1, A2, A3, c1, c2, c3, rfl⟩ := hv.slices
  have hsz : ∀ (x : World) (o : Obj), (x.alloc o).heap.size = x.heap.size + 1 := fun x o => by simp
  have q1 := cells_new w #[.int .i64 p.d, .slice A1 p.gs.length c1, .int .i64 p.gl, .slice A2 p.at'.length c2, .slice A3 p.ch.length c3] 27
  have q2 := cells_new (w.alloc (.cells #[.int .i64 p.d, .slice A1 p.gs.length c1, .int .i64 p.gl, .slice A2 p.at'.length c2, .slice A3 p.ch.length c3] 27)) #[.int .u8 a0, .int .u8 a1, .int .u8 a2] 47
  have q3 := cells_new ((w.alloc (.cells #[.int .i64 p.d, .slice A1 p.gs.length c1, .int .i64 p.gl, .slice A2 p.at'.length c2, .slice A3 p.ch.length c3] 27)).alloc (.cells #[.int .u8 a0, .int .u8 a1, .int .u8 a2] 47)) #[.int .u16 s0, .int .u16 s1] 49
  rw [hsz] at q2
  rw [hsz, hsz] at q3
  have x1 := (Ext.refl (w.alloc (.cells #[.int .i64 p.d, .slice A1 p.gs.length c1, .int .i64 p.gl, .slice A2 p.at'.length c2, .slice A3 p.ch.length c3] 27))).alloc (.cells #[.int .u8 a0, .int .u8 a1, .int .u8 a2] 47)
  have x2 := (Ext.refl ((w.alloc (.cells #[.int .i64 p.d, .slice A1 p.gs.length c1, .int .i64 p.gl, .slice A2 p.at'.length c2, .slice A3 p.ch.length c3] 27)).alloc (.cells #[.int .u8 a0, .int .u8 a1, .int .u8 a2] 47))).alloc (.cells #[.int .u16 s0, .int .u16 s1] 49)
  have hx0 := (((Ext.refl w).alloc (.cells #[.int .i64 p.d, .slice A1 p.gs.length c1, .int .i64 p.gl, .slice A2 p.at'.length c2, .slice A3 p.ch.length c3] 27)).alloc (.cells #[.int .u8 a0, .int .u8 a1, .int .u8 a2] 47)).alloc (.cells #[.int .u16 s0, .int .u16 s1] 49)
  have HR0 := Lib.hid (RP.ext _ _ _ _ hx0 hv)
  have HX0 := Lib.hid hx0
  have HT := Lib.hid hT
  have HCb0 := Lib.hid (q1.ext (x1.trans x2))
  have HCt0 := Lib.hid (q2.ext x2)
  have HCe0 := Lib.hid q3
  clear hv hx0 hT hsz q1 q2 q3 x1 x2
  go_enter Tryd.func5, Tryd.ntmps5
  go_wp2_with fail
  refine (few_any p 9 _ _ HR0.out).mono ?_
  rintro e w1 ⟨b, rfl, hb, hx⟩
  have HFEW := Lib.hid hb
  have HX1 := Lib.hid (HX0.out.trans hx)
  have HR1 := Lib.hid (RP.ext _ _ _ _ hx HR0.out)
  have HCb1 := Lib.hid (HCb0.out.ext hx)
  have HCt1 := Lib.hid (HCt0.out.ext hx)
  have HCe1 := Lib.hid (HCe0.out.ext hx)
  clear hx hb
  cases b with
  | false =>
    go_wp2_with fail
    refine (sanity_any _ (HT.out.ext HX1.out)).mono ?_
    rintro e ws ⟨rfl, hx⟩
    have HXS := Lib.hid (HX1.out.trans hx)
    clear hx
    go_wp2_with fail
    go_ret
    exact ⟨rfl, HXS.out⟩
  | true =>
    have h9 := HFEW.out rfl
    have b0 : w1.cell? ⟨w.heap.size, 0, none⟩ = some (.int .i64 p.d) := HCb1.out 0 _ rfl
    have b1 : w1.cell? ⟨w.heap.size, 1, none⟩ = some (.slice A1 p.gs.length c1) := HCb1.out 1 _ rfl
    have b2 : w1.cell? ⟨w.heap.size, 2, none⟩ = some (.int .i64 p.gl) := HCb1.out 2 _ rfl
    have b3 : w1.cell? ⟨w.heap.size, 3, none⟩ = some (.slice A2 p.at'.length c2) := HCb1.out 3 _ rfl
    have b4 : w1.cell? ⟨w.heap.size, 4, none⟩ = some (.slice A3 p.ch.length c3) := HCb1.out 4 _ rfl
    go_wp2_with fail
    clear b0 b1 b2 b3 b4
    refine (kCheck_any p _ _ HR1.out).mono ?_
    rintro e w2 ⟨rfl, hx⟩
    have HX2 := Lib.hid (HX1.out.trans hx)
    have HR2 := Lib.hid (RP.ext _ _ _ _ hx HR1.out)
    have HCb2 := Lib.hid (HCb1.out.ext hx)
    have HCt2 := Lib.hid (HCt1.out.ext hx)
    have HCe2 := Lib.hid (HCe1.out.ext hx)
    clear hx
    by_cases h0 : Rk.check p = 0
    · have e1 : (Rk.check p != 0) = false := by rw [h0]; rfl
      have HM := mono_facts h0 h9
      obtain ⟨Xi, hXi⟩ : ∃ z : Int, ((Rk.lossOf p : Nat) : Int) = z := ⟨_, rfl⟩
      obtain ⟨Mi, hMi⟩ : ∃ z : Int, ((Rk.total p : Nat) : Int) = z := ⟨_, rfl⟩
      obtain ⟨mi, hmi⟩ : ∃ z : Int, ((Rk.mill p : Nat) : Int) = z := ⟨_, rfl⟩
      rw [hXi, hMi, hmi] at HM
      obtain ⟨m1, m2, m3, m4, m5, m6, ⟨Pi, m7, m8⟩, m9⟩ := HM
      have HZ := Lib.hid (And.intro h0 (And.intro hXi (And.intro hMi hmi)))
      have H9 := Lib.hid m9
      clear h0 hXi hMi hmi m9
      have b0 : w2.cell? ⟨w.heap.size, 0, none⟩ = some (.int .i64 p.d) := HCb2.out 0 _ rfl
      have b1 : w2.cell? ⟨w.heap.size, 1, none⟩ = some (.slice A1 p.gs.length c1) := HCb2.out 1 _ rfl
      have b2 : w2.cell? ⟨w.heap.size, 2, none⟩ = some (.int .i64 p.gl) := HCb2.out 2 _ rfl
      have b3 : w2.cell? ⟨w.heap.size, 3, none⟩ = some (.slice A2 p.at'.length c2) := HCb2.out 3 _ rfl
      have b4 : w2.cell? ⟨w.heap.size, 4, none⟩ = some (.slice A3 p.ch.length c3) := HCb2.out 4 _ rfl
      go_wp2_with fail
      clear b0 b1 b2 b3 b4
      refine (kLoss_any p _ _ (HT.out.ext HX2.out) HR2.out).mono ?_
      rintro e w3 ⟨rfl, hx⟩
      rw [HZ.out.2.1, HZ.out.1]
      have HX3 := Lib.hid (HX2.out.trans hx)
      have HR3 := Lib.hid (RP.ext _ _ _ _ hx HR2.out)
      have HCb3 := Lib.hid (HCb2.out.ext hx)
      have HCt3 := Lib.hid (HCt2.out.ext hx)
      have HCe3 := Lib.hid (HCe2.out.ext hx)
      clear hx
      have b0 : w3.cell? ⟨w.heap.size, 0, none⟩ = some (.int .i64 p.d) := HCb3.out 0 _ rfl
      have b1 : w3.cell? ⟨w.heap.size, 1, none⟩ = some (.slice A1 p.gs.length c1) := HCb3.out 1 _ rfl
      have b2 : w3.cell? ⟨w.heap.size, 2, none⟩ = some (.int .i64 p.gl) := HCb3.out 2 _ rfl
      have b3 : w3.cell? ⟨w.heap.size, 3, none⟩ = some (.slice A2 p.at'.length c2) := HCb3.out 3 _ rfl
      have b4 : w3.cell? ⟨w.heap.size, 4, none⟩ = some (.slice A3 p.ch.length c3) := HCb3.out 4 _ rfl
      go_wp2_with fail
      clear b0 b1 b2 b3 b4
      refine (kTotal_any p _ _ HR3.out).mono ?_
      rintro e w4 ⟨rfl, hx⟩
      rw [HZ.out.2.2.1, HZ.out.1]
      have HX4 := Lib.hid (HX3.out.trans hx)
      have HR4 := Lib.hid (RP.ext _ _ _ _ hx HR3.out)
      have HCb4 := Lib.hid (HCb3.out.ext hx)
      have HCt4 := Lib.hid (HCt3.out.ext hx)
      have HCe4 := Lib.hid (HCe3.out.ext hx)
      clear hx
      have b0 : w4.cell? ⟨w.heap.size, 0, none⟩ = some (.int .i64 p.d) := HCb4.out 0 _ rfl
      have b1 : w4.cell? ⟨w.heap.size, 1, none⟩ = some (.slice A1 p.gs.length c1) := HCb4.out 1 _ rfl
      have b2 : w4.cell? ⟨w.heap.size, 2, none⟩ = some (.int .i64 p.gl) := HCb4.out 2 _ rfl
      have b3 : w4.cell? ⟨w.heap.size, 3, none⟩ = some (.slice A2 p.at'.length c2) := HCb4.out 3 _ rfl
      have b4 : w4.cell? ⟨w.heap.size, 4, none⟩ = some (.slice A3 p.ch.length c3) := HCb4.out 4 _ rfl
      go_wp2_with fail
      clear b0 b1 b2 b3 b4
      refine (kMill_any p _ _ (HT.out.ext HX4.out) HR4.out).mono ?_
      rintro e w5 ⟨rfl, hx⟩
      rw [HZ.out.2.2.2, HZ.out.1]
      have HX5 := Lib.hid (HX4.out.trans hx)
      have HR5 := Lib.hid (RP.ext _ _ _ _ hx HR4.out)
      have HCb5 := Lib.hid (HCb4.out.ext hx)
      have HCt5 := Lib.hid (HCt4.out.ext hx)
      have HCe5 := Lib.hid (HCe4.out.ext hx)
      clear hx
      have hten : (Mi : Int) ≤ 68719476736 := m3
      have e3a : ¬ 0 < (p.ch.length : Int) := by have := HN.out; omega
      have e3b : ¬ 0 < p.ch.length := by have := HN.out; omega
      by_cases hm0 : 0 < mi
      · obtain ⟨Qi, r1, r2⟩ := H9.out hm0
        have b0 : w5.cell? ⟨w.heap.size, 0, none⟩ = some (.int .i64 p.d) := HCb5.out 0 _ rfl
        have b1 : w5.cell? ⟨w.heap.size, 1, none⟩ = some (.slice A1 p.gs.length c1) := HCb5.out 1 _ rfl
        have b2 : w5.cell? ⟨w.heap.size, 2, none⟩ = some (.int .i64 p.gl) := HCb5.out 2 _ rfl
        have b3 : w5.cell? ⟨w.heap.size, 3, none⟩ = some (.slice A2 p.at'.length c2) := HCb5.out 3 _ rfl
        have b4 : w5.cell? ⟨w.heap.size, 4, none⟩ = some (.slice A3 p.ch.length c3) := HCb5.out 4 _ rfl
        have t0 : w5.cell? ⟨w.heap.size + 1, 0, none⟩ = some (.int .u8 a0) := HCt5.out 0 _ rfl
        have t1 : w5.cell? ⟨w.heap.size + 1, 1, none⟩ = some (.int .u8 a1) := HCt5.out 1 _ rfl
        have t2 : w5.cell? ⟨w.heap.size + 1, 2, none⟩ = some (.int .u8 a2) := HCt5.out 2 _ rfl
        have e0 : w5.cell? ⟨w.heap.size + 1 + 1, 0, none⟩ = some (.int .u16 s0) := HCe5.out 0 _ rfl
        have e1 : w5.cell? ⟨w.heap.size + 1 + 1, 1, none⟩ = some (.int .u16 s1) := HCe5.out 1 _ rfl
        have hO10 : Owns w5 (w5.alloc (.cells #[.int .i64 p.d, .slice A1 p.gs.length c1, .int .i64 p.gl, .slice A2 p.at'.length c2, .slice A3 p.ch.length c3] 27)) [⟨.slice (some ⟨w5.heap.size, 0, none⟩) 5 5, 27, 1, 5, [.int .i64 p.d, .slice A1 p.gs.length c1, .int .i64 p.gl, .slice A2 p.at'.length c2, .slice A3 p.ch.length c3]⟩] := (Owns.start w5 (L := []) (by simp)).wider.new 0 #[.int .i64 p.d, .slice A1 p.gs.length c1, .int .i64 p.gl, .slice A2 p.at'.length c2, .slice A3 p.ch.length c3] 27 (by simp [maxLen])
        have esz : (w5.alloc (.cells #[.int .i64 p.d, .slice A1 p.gs.length c1, .int .i64 p.gl, .slice A2 p.at'.length c2, .slice A3 p.ch.length c3] 27)).heap.size = w5.heap.size + 1 := by simp
        have hO11 : Owns w5 ((w5.alloc (.cells #[.int .i64 p.d, .slice A1 p.gs.length c1, .int .i64 p.gl, .slice A2 p.at'.length c2, .slice A3 p.ch.length c3] 27)).alloc (.cells #[] 3)) [⟨.slice (some ⟨w5.heap.size, 0, none⟩) 5 5, 27, 1, 5, [.int .i64 p.d, .slice A1 p.gs.length c1, .int .i64 p.gl, .slice A2 p.at'.length c2, .slice A3 p.ch.length c3]⟩, ⟨.slice (some ⟨w5.heap.size + 1, 0, none⟩) 0 0, 3, 1, 0, []⟩] := by
          have h := hO10.wider.new 1 #[] 3 (by simp [maxLen])
          rw [esz] at h
          exact h
        have HO11 := Lib.hid hO11
        have hparts := HR5.out.parts
        have HRC := Lib.hid hparts.2.2.rdI
        have HRA := Lib.hid hparts.2.1.rdI
        have hone : ∀ (l : List Int), ∀ u ∈ l.map (Value.int .i64), u.oneCell' = true := by intro l u hu; rw [List.mem_map] at hu; obtain ⟨b, _, rfl⟩ := hu; rfl
        have HONE := Lib.hid hone
        have g4 : ((w5.alloc (.cells #[.int .i64 p.d, .slice A1 p.gs.length c1, .int .i64 p.gl, .slice A2 p.at'.length c2, .slice A3 p.ch.length c3] 27)).alloc (.cells #[] 3)).cell? ⟨w.heap.size, 4, none⟩ = some (.slice A3 p.ch.length c3) := HO11.out.ext.cell b4
        have hatl : p.at'.length ≤ 24 := (at_len HZ.out.1).2
        have hatp : 0 < p.at'.length := (at_len HZ.out.1).1
        clear hO10 esz hO11 hparts hone
        have hkl := Nat.mod_lt a2 hatp
        have hremk := rem_nat (o := a2) (n := p.at'.length)
        obtain ⟨k, hkk⟩ : ∃ k, a2 % p.at'.length = k := ⟨_, rfl⟩
        rw [hkk] at hkl hremk
        have hmk : (p.at'.map (Value.int .i64))[k]? = some (.int .i64 p.at'[k]) := by rw [List.getElem?_map, List.getElem?_eq_getElem hkl]; rfl
        obtain ⟨x, hxx⟩ : ∃ x, p.at'[k] = x := ⟨_, rfl⟩
        rw [hxx] at hmk
        clear hkk hxx
        go_wp2_with (first | (refine wpl_append_copy 25 3 rfl (.tmp 106) (.tmp 108) rfl Tryd.underlying25 info_int rfl HO11.out 1 rfl rfl rfl (List.length_map _) (HRC.out.ext HO11.out.ext) (HONE.out _) (by omega) (by decide) ?_; intro g1 cg1 w12 hO12; have k4 : w12.cell? ⟨w5.heap.size, 4, none⟩ = some (.slice A3 p.ch.length c3) := hO12.cell 0 rfl 4 rfl; have f4 : w12.frozen? ⟨w5.heap.size, 4, none⟩ = false := hO12.frozen 0 rfl 4; have hO12s : Owns w5 (w12.setCell ⟨w5.heap.size, 4, none⟩ (.slice (some ⟨g1, 0, none⟩) p.ch.length cg1)) [⟨.slice (some ⟨w5.heap.size, 0, none⟩) 5 5, 27, 1, 5, [.int .i64 p.d, .slice A1 p.gs.length c1, .int .i64 p.gl, .slice A2 p.at'.length c2, .slice (some ⟨g1, 0, none⟩) p.ch.length cg1]⟩, ⟨.slice (some ⟨g1, 0, none⟩) p.ch.length cg1, 3, 1, p.ch.length, p.ch.map (.int .i64)⟩] := hO12.store 0 rfl 4 (.slice (some ⟨g1, 0, none⟩) p.ch.length cg1); have esz2 : (w12.setCell ⟨w5.heap.size, 4, none⟩ (.slice (some ⟨g1, 0, none⟩) p.ch.length cg1)).heap.size = w12.heap.size := (by simp); have hO12b : Owns w5 ((w12.setCell ⟨w5.heap.size, 4, none⟩ (.slice (some ⟨g1, 0, none⟩) p.ch.length cg1)).alloc (.cells #[] 3)) [⟨.slice (some ⟨w5.heap.size, 0, none⟩) 5 5, 27, 1, 5, [.int .i64 p.d, .slice A1 p.gs.length c1, .int .i64 p.gl, .slice A2 p.at'.length c2, .slice (some ⟨g1, 0, none⟩) p.ch.length cg1]⟩, ⟨.slice (some ⟨g1, 0, none⟩) p.ch.length cg1, 3, 1, p.ch.length, p.ch.map (.int .i64)⟩, ⟨.slice (some ⟨w12.heap.size, 0, none⟩) 0 0, 3, 1, 0, []⟩] := (by have h := hO12s.wider.new 2 #[] 3 (by simp [maxLen]); rw [esz2] at h; exact h); have g3 : ((w12.setCell ⟨w5.heap.size, 4, none⟩ (.slice (some ⟨g1, 0, none⟩) p.ch.length cg1)).alloc (.cells #[] 3)).cell? ⟨w.heap.size, 3, none⟩ = some (.slice A2 p.at'.length c2) := hO12b.ext.cell b3; have HO12b := Lib.hid hO12b; clear hO12 hO12s esz2 hO12b) | (refine wpl_append_copy 25 3 rfl (.tmp 111) (.tmp 113) rfl Tryd.underlying25 info_int rfl HO12b.out 2 rfl rfl rfl (List.length_map _) (HRA.out.ext HO12b.out.ext) (HONE.out _) (by omega) (by decide) ?_; intro g2 cg2 w13 hO13; have k3 : w13.cell? ⟨w5.heap.size, 3, none⟩ = some (.slice A2 p.at'.length c2) := hO13.cell 0 rfl 3 rfl; have f3 : w13.frozen? ⟨w5.heap.size, 3, none⟩ = false := hO13.frozen 0 rfl 3; have hO13s : Owns w5 (w13.setCell ⟨w5.heap.size, 3, none⟩ (.slice (some ⟨g2, 0, none⟩) p.at'.length cg2)) [⟨.slice (some ⟨w5.heap.size, 0, none⟩) 5 5, 27, 1, 5, [.int .i64 p.d, .slice A1 p.gs.length c1, .int .i64 p.gl, .slice (some ⟨g2, 0, none⟩) p.at'.length cg2, .slice (some ⟨g1, 0, none⟩) p.ch.length cg1]⟩, ⟨.slice (some ⟨g1, 0, none⟩) p.ch.length cg1, 3, 1, p.ch.length, p.ch.map (.int .i64)⟩, ⟨.slice (some ⟨g2, 0, none⟩) p.at'.length cg2, 3, 1, p.at'.length, p.at'.map (.int .i64)⟩] := hO13.store 0 rfl 3 (.slice (some ⟨g2, 0, none⟩) p.at'.length cg2); have v3 : (w13.setCell ⟨w5.heap.size, 3, none⟩ (.slice (some ⟨g2, 0, none⟩) p.at'.length cg2)).cell? ⟨w5.heap.size, 3, none⟩ = some (.slice (some ⟨g2, 0, none⟩) p.at'.length cg2) := hO13s.cell 0 rfl 3 rfl; have v4 : (w13.setCell ⟨w5.heap.size, 3, none⟩ (.slice (some ⟨g2, 0, none⟩) p.at'.length cg2)).cell? ⟨w5.heap.size, 4, none⟩ = some (.slice (some ⟨g1, 0, none⟩) p.ch.length cg1) := hO13s.cell 0 rfl 4 rfl; have vk : (w13.setCell ⟨w5.heap.size, 3, none⟩ (.slice (some ⟨g2, 0, none⟩) p.at'.length cg2)).cell? ⟨g2, k, none⟩ = some (.int .i64 x) := hO13s.cell 2 rfl k hmk; have vkf : (w13.setCell ⟨w5.heap.size, 3, none⟩ (.slice (some ⟨g2, 0, none⟩) p.at'.length cg2)).frozen? ⟨g2, k, none⟩ = false := hO13s.frozen 2 rfl k; have vt0 : (w13.setCell ⟨w5.heap.size, 3, none⟩ (.slice (some ⟨g2, 0, none⟩) p.at'.length cg2)).cell? ⟨w.heap.size + 1, 0, none⟩ = some (.int .u8 a0) := hO13s.ext.cell t0; have vt1 : (w13.setCell ⟨w5.heap.size, 3, none⟩ (.slice (some ⟨g2, 0, none⟩) p.at'.length cg2)).cell? ⟨w.heap.size + 1, 1, none⟩ = some (.int .u8 a1) := hO13s.ext.cell t1; have vt2 : (w13.setCell ⟨w5.heap.size, 3, none⟩ (.slice (some ⟨g2, 0, none⟩) p.at'.length cg2)).cell? ⟨w.heap.size + 1, 2, none⟩ = some (.int .u8 a2) := hO13s.ext.cell t2; have ve0 : (w13.setCell ⟨w5.heap.size, 3, none⟩ (.slice (some ⟨g2, 0, none⟩) p.at'.length cg2)).cell? ⟨w.heap.size + 1 + 1, 0, none⟩ = some (.int .u16 s0) := hO13s.ext.cell e0; have ve1 : (w13.setCell ⟨w5.heap.size, 3, none⟩ (.slice (some ⟨g2, 0, none⟩) p.at'.length cg2)).cell? ⟨w.heap.size + 1 + 1, 1, none⟩ = some (.int .u16 s1) := hO13s.ext.cell e1; have HO13 := Lib.hid hO13s; clear hO13 hO13s))
        obtain ⟨wy, hwy⟩ : ∃ wy, (w13.setCell ⟨w5.heap.size, 3, none⟩ (.slice (some ⟨g2, 0, none⟩) p.at'.length cg2)) = wy := ⟨_, rfl⟩
        have HO17 := HO13
        rw [hwy] at HO17
        rw [hwy]
        clear hwy HO13 v3 v4 vk vkf vt0 vt1 vt2 ve0 ve1 g3 g4 k3 k4 f3 f4
        clear b0 b1 b2 b3 b4
        clear t0 t1 t2
        clear e0 e1
        have y3 : wy.cell? ⟨w5.heap.size, 3, none⟩ = some (.slice (some ⟨g2, 0, none⟩) p.at'.length cg2) := HO17.out.cell 0 rfl 3 rfl
        have yk : wy.cell? ⟨g2, k, none⟩ = some (.int .i64 x) := HO17.out.cell 2 rfl k hmk
        have ykf : wy.frozen? ⟨g2, k, none⟩ = false := HO17.out.frozen 2 rfl k
        have HCty := Lib.hid (HCt5.out.ext HO17.out.ext)
        have t2 : wy.cell? ⟨w.heap.size + 1, 2, none⟩ = some (.int .u8 a2) := HCty.out 2 _ rfl
        have u6 : IntKind.i64.wrap (a2 : Int) = (a2 : Int) := wrap_small _ (by omega) (by omega)
        have u7 : IntKind.i64.wrap (k : Int) = (k : Int) := wrap_small _ (by omega) (by omega)
        have u8 : ((p.at'.length : Int) = 0) = False := eq_false (by omega)
        have u8b : (p.at' = []) = False := eq_false (fun h => by rw [h] at hatp; simp at hatp)
        have u8c : (p.at'.length = 0) = False := eq_false (by omega)
        have u8d : ((p.at'.length : Int)) ≠ 0 := by omega
        have hO18 := HO17.out.store 2 rfl k (.int .i64 (-1))
        have HO18 := Lib.hid hO18.drew
        have z0 : (wy.setCell ⟨g2, k, none⟩ (.int .i64 (-1))).cell? ⟨w5.heap.size, 0, none⟩ = some (.int .i64 p.d) := hO18.cell 0 rfl 0 rfl
        have z1 : (wy.setCell ⟨g2, k, none⟩ (.int .i64 (-1))).cell? ⟨w5.heap.size, 1, none⟩ = some (.slice A1 p.gs.length c1) := hO18.cell 0 rfl 1 rfl
        have z2 : (wy.setCell ⟨g2, k, none⟩ (.int .i64 (-1))).cell? ⟨w5.heap.size, 2, none⟩ = some (.int .i64 p.gl) := hO18.cell 0 rfl 2 rfl
        have z3 : (wy.setCell ⟨g2, k, none⟩ (.int .i64 (-1))).cell? ⟨w5.heap.size, 3, none⟩ = some (.slice (some ⟨g2, 0, none⟩) p.at'.length cg2) := hO18.cell 0 rfl 3 rfl
        have z4 : (wy.setCell ⟨g2, k, none⟩ (.int .i64 (-1))).cell? ⟨w5.heap.size, 4, none⟩ = some (.slice (some ⟨g1, 0, none⟩) p.ch.length cg1) := hO18.cell 0 rfl 4 rfl
        clear hO18
        go_still_tail 10, (by kernel_rfl)
        go_wp2_with fail
        clear y3 yk ykf t2 u6 u7 u8 u8b u8c u8d z0 z1 z2 z3 z4
        have hq : Rk.check (Rk.placed p (p.at'.set k (-1))) = 0 := Rk.place_check HZ.out.1 k
        have hl1 : Rk.loss p ≤ Rk.loss p := Nat.le_refl _
        have hl2 : Rk.loss p ≤ Rk.loss (Rk.placed p (p.at'.set k (-1))) := Rk.place_mono HZ.out.1 (at' := p.at'.set k (-1)) List.length_set (fun i _ => set_or i)
        have hlen : (Rk.placed p (p.at'.set k (-1))).ch.length = p.ch.length := rfl
        have hml : Rk.mill p ≤ Rk.mill (Rk.placed p (p.at'.set k (-1))) := Rk.mill_mono HZ.out.1 hq hlen (Nat.le_trans hl1 hl2)
        have hll : Rk.lossOf p ≤ Rk.lossOf (Rk.placed p (p.at'.set k (-1))) := by rw [Rk.lossOf_ok HZ.out.1, Rk.lossOf_ok hq]; exact Nat.le_trans hl1 hl2
        obtain ⟨Xq, hXq⟩ : ∃ z : Int, ((Rk.lossOf (Rk.placed p (p.at'.set k (-1))) : Nat) : Int) = z := ⟨_, rfl⟩
        obtain ⟨mq, hmq⟩ : ∃ z : Int, ((Rk.mill (Rk.placed p (p.at'.set k (-1))) : Nat) : Int) = z := ⟨_, rfl⟩
        have l1 : Xi ≤ Xq := by rw [← HZ.out.2.1, ← hXq]; exact Int.ofNat_le.2 hll
        have l2 : mi ≤ mq := by rw [← HZ.out.2.2.2, ← hmq]; exact Int.ofNat_le.2 hml
        have hx18 := HO18.out.ext
        have hcr := HO18.out.rd (A := some ⟨g1, 0, none⟩) 1 rfl
        have har := HO18.out.rd (A := some ⟨g2, 0, none⟩) 2 rfl
        skip
        rw [← List.map_set] at har
        have hrq : RP (wy.setCell ⟨g2, k, none⟩ (.int .i64 (-1))).drew (.agg #[.int .i64 p.d, .slice A1 p.gs.length c1, .int .i64 p.gl, .slice (some ⟨g2, 0, none⟩) p.at'.length cg2, .slice (some ⟨g1, 0, none⟩) p.ch.length cg1]) (Rk.placed p (p.at'.set k (-1))) := ⟨_, _, _, rfl, Rs.ext (Rs.ext RI.ext) _ _ _ _ hx18 HR5.out.parts.1, Rs.of_rdI (l := p.at'.set k (-1)) har List.length_set.symm (by rw [List.length_set]; omega) (at_set HZ.out.1 k), Rs.of_rdI (l := p.ch) hcr rfl (by omega) (ch_ok HZ.out.1)⟩
        have HRQ18 := Lib.hid hrq
        have HCn18 : Hid (Cells (wy.setCell ⟨g2, k, none⟩ (.int .i64 (-1))).drew w5.heap.size [.int .i64 p.d, .slice A1 p.gs.length c1, .int .i64 p.gl, .slice (some ⟨g2, 0, none⟩) p.at'.length cg2, .slice (some ⟨g1, 0, none⟩) p.ch.length cg1]) := Lib.hid (HO18.out.cells 0 rfl)
        have HQ := Lib.hid (And.intro hq (And.intro hXq hmq))
        have HX18 := Lib.hid (HX5.out.trans hx18)
        have HR18 := Lib.hid (RP.ext _ _ _ _ hx18 HR5.out)
        have HCb18 := Lib.hid (HCb5.out.ext hx18)
        have HCt18 := Lib.hid (HCt5.out.ext hx18)
        have HCe18 := Lib.hid (HCe5.out.ext hx18)
        clear hq hl1 hl2 hlen hml hll hXq hmq hx18 hcr har hrq
        refine (kLoss_any (Rk.placed p (p.at'.set k (-1))) _ _ (HT.out.ext HX18.out) HRQ18.out).mono ?_
        rintro e w19 ⟨rfl, hx⟩
        rw [HQ.out.2.1, HQ.out.1]
        have HX19 := Lib.hid (HX18.out.trans hx)
        have HR19 := Lib.hid (RP.ext _ _ _ _ hx HR18.out)
        have HCb19 := Lib.hid (HCb18.out.ext hx)
        have HCt19 := Lib.hid (HCt18.out.ext hx)
        have HCe19 := Lib.hid (HCe18.out.ext hx)
        have HCn19 := Lib.hid (HCn18.out.ext hx)
        have HRQ19 := Lib.hid (RP.ext _ _ _ _ hx HRQ18.out)
        clear hx
        have b0 : w19.cell? ⟨w.heap.size, 0, none⟩ = some (.int .i64 p.d) := HCb19.out 0 _ rfl
        have b1 : w19.cell? ⟨w.heap.size, 1, none⟩ = some (.slice A1 p.gs.length c1) := HCb19.out 1 _ rfl
        have b2 : w19.cell? ⟨w.heap.size, 2, none⟩ = some (.int .i64 p.gl) := HCb19.out 2 _ rfl
        have b3 : w19.cell? ⟨w.heap.size, 3, none⟩ = some (.slice A2 p.at'.length c2) := HCb19.out 3 _ rfl
        have b4 : w19.cell? ⟨w.heap.size, 4, none⟩ = some (.slice A3 p.ch.length c3) := HCb19.out 4 _ rfl
        have t0 : w19.cell? ⟨w.heap.size + 1, 0, none⟩ = some (.int .u8 a0) := HCt19.out 0 _ rfl
        have t1 : w19.cell? ⟨w.heap.size + 1, 1, none⟩ = some (.int .u8 a1) := HCt19.out 1 _ rfl
        have t2 : w19.cell? ⟨w.heap.size + 1, 2, none⟩ = some (.int .u8 a2) := HCt19.out 2 _ rfl
        have e0 : w19.cell? ⟨w.heap.size + 1 + 1, 0, none⟩ = some (.int .u16 s0) := HCe19.out 0 _ rfl
        have e1 : w19.cell? ⟨w.heap.size + 1 + 1, 1, none⟩ = some (.int .u16 s1) := HCe19.out 1 _ rfl
        have n0 : w19.cell? ⟨w5.heap.size, 0, none⟩ = some (.int .i64 p.d) := HCn19.out 0 _ rfl
        have n1 : w19.cell? ⟨w5.heap.size, 1, none⟩ = some (.slice A1 p.gs.length c1) := HCn19.out 1 _ rfl
        have n2 : w19.cell? ⟨w5.heap.size, 2, none⟩ = some (.int .i64 p.gl) := HCn19.out 2 _ rfl
        have n3 : w19.cell? ⟨w5.heap.size, 3, none⟩ = some (.slice (some ⟨g2, 0, none⟩) p.at'.length cg2) := HCn19.out 3 _ rfl
        have n4 : w19.cell? ⟨w5.heap.size, 4, none⟩ = some (.slice (some ⟨g1, 0, none⟩) p.ch.length cg1) := HCn19.out 4 _ rfl
        go_wp2_with fail
        clear b0 b1 b2 b3 b4
        clear t0 t1 t2
        clear e0 e1
        clear n0 n1 n2 n3 n4
        refine (kMill_any (Rk.placed p (p.at'.set k (-1))) _ _ (HT.out.ext HX19.out) HRQ19.out).mono ?_
        rintro e w20 ⟨rfl, hx⟩
        rw [HQ.out.2.2, HQ.out.1]
        have HX20 := Lib.hid (HX19.out.trans hx)
        have HR20 := Lib.hid (RP.ext _ _ _ _ hx HR19.out)
        have HCb20 := Lib.hid (HCb19.out.ext hx)
        have HCt20 := Lib.hid (HCt19.out.ext hx)
        have HCe20 := Lib.hid (HCe19.out.ext hx)
        have HCn20 := Lib.hid (HCn19.out.ext hx)
        have HRQ20 := Lib.hid (RP.ext _ _ _ _ hx HRQ19.out)
        clear hx
        have b0 : w20.cell? ⟨w.heap.size, 0, none⟩ = some (.int .i64 p.d) := HCb20.out 0 _ rfl
        have b1 : w20.cell? ⟨w.heap.size, 1, none⟩ = some (.slice A1 p.gs.length c1) := HCb20.out 1 _ rfl
        have b2 : w20.cell? ⟨w.heap.size, 2, none⟩ = some (.int .i64 p.gl) := HCb20.out 2 _ rfl
        have b3 : w20.cell? ⟨w.heap.size, 3, none⟩ = some (.slice A2 p.at'.length c2) := HCb20.out 3 _ rfl
        have b4 : w20.cell? ⟨w.heap.size, 4, none⟩ = some (.slice A3 p.ch.length c3) := HCb20.out 4 _ rfl
        have t0 : w20.cell? ⟨w.heap.size + 1, 0, none⟩ = some (.int .u8 a0) := HCt20.out 0 _ rfl
        have t1 : w20.cell? ⟨w.heap.size + 1, 1, none⟩ = some (.int .u8 a1) := HCt20.out 1 _ rfl
        have t2 : w20.cell? ⟨w.heap.size + 1, 2, none⟩ = some (.int .u8 a2) := HCt20.out 2 _ rfl
        have e0 : w20.cell? ⟨w.heap.size + 1 + 1, 0, none⟩ = some (.int .u16 s0) := HCe20.out 0 _ rfl
        have e1 : w20.cell? ⟨w.heap.size + 1 + 1, 1, none⟩ = some (.int .u16 s1) := HCe20.out 1 _ rfl
        have n0 : w20.cell? ⟨w5.heap.size, 0, none⟩ = some (.int .i64 p.d) := HCn20.out 0 _ rfl
        have n1 : w20.cell? ⟨w5.heap.size, 1, none⟩ = some (.slice A1 p.gs.length c1) := HCn20.out 1 _ rfl
        have n2 : w20.cell? ⟨w5.heap.size, 2, none⟩ = some (.int .i64 p.gl) := HCn20.out 2 _ rfl
        have n3 : w20.cell? ⟨w5.heap.size, 3, none⟩ = some (.slice (some ⟨g2, 0, none⟩) p.at'.length cg2) := HCn20.out 3 _ rfl
        have n4 : w20.cell? ⟨w5.heap.size, 4, none⟩ = some (.slice (some ⟨g1, 0, none⟩) p.ch.length cg1) := HCn20.out 4 _ rfl
        have hNp := Nat.two_pow_pos p.ch.length
        have hN9 : 2 ^ p.ch.length ≤ 2 ^ 9 := Nat.pow_le_pow_right (by omega) h9
        have hlk := fun j hj => Rk.lost_ok (p := p) (f := j) HZ.out.1 hj
        have k1 := and_mask s0 p.ch.length hs0 (by omega)
        have k2 := and_mask s1 p.ch.length hs1 (by omega)
        have ka := Nat.mod_lt s0 hNp
        have kb := Nat.mod_lt s1 hNp
        have kor : s0 % 2 ^ p.ch.length ||| s1 % 2 ^ p.ch.length < 2 ^ p.ch.length := Nat.or_lt_two_pow ka kb
        have u11 := wrap_two p.ch.length (by omega)
        obtain ⟨N, hN⟩ : ∃ N, 2 ^ p.ch.length = N := ⟨_, rfl⟩
        rw [hN] at hNp hN9 hlk k1 k2 ka kb kor u11
        obtain ⟨Sa, hSa⟩ : ∃ S, s0 % N = S := ⟨_, rfl⟩
        obtain ⟨Sb, hSb⟩ : ∃ S, s1 % N = S := ⟨_, rfl⟩
        rw [hSa] at k1 ka kor
        rw [hSb] at k2 kb kor
        have hN512 : N ≤ 512 := hN9
        have k3 := or64 Sa Sb (by omega) (by omega)
        obtain ⟨So, hSo⟩ : ∃ S, Sa ||| Sb = S := ⟨_, rfl⟩
        rw [hSo] at k3 kor
        have u9 : IntKind.i64.wrap ((N : Int) - 1) = (N : Int) - 1 := wrap_small _ (by omega) (by omega)
        have u10 : IntKind.i64.wrap (s0 : Int) = (s0 : Int) := wrap_small _ (by omega) (by omega)
        have u12 : IntKind.i64.wrap (s1 : Int) = (s1 : Int) := wrap_small _ (by omega) (by omega)
        have hsub : Rk.loses p Sa = true → Rk.loses p So = true := fun h => Rk.loses_mono (q := p) (Rk.ok_of HZ.out.1) ⟨rfl, rfl, rfl⟩ rfl (fun _ _ => .inl rfl) (by rw [← hSo]; exact Rk.sub_or Sa Sb) h
        have hla := hlk Sa ka
        have hlo := hlk So kor
        have HL := Lib.hid (And.intro hla (And.intro hlo hsub))
        clear hN9 hlk hN hSa hSb hSo hsub hla hlo
        go_wp2_with fail
        go_quiet (fail)
        clear b0 b1 b2 b3 b4
        clear t0 t1 t2
        clear e0 e1
        clear n0 n1 n2 n3 n4
        have hxq := (Ext.refl w20).drewN nq
        have HX21 := Lib.hid (HX20.out.trans hxq)
        have HR21 := Lib.hid (RP.ext _ _ _ _ hxq HR20.out)
        have HCb21 := Lib.hid (HCb20.out.ext hxq)
        have HCt21 := Lib.hid (HCt20.out.ext hxq)
        have HCe21 := Lib.hid (HCe20.out.ext hxq)
        have HCn21 := Lib.hid (HCn20.out.ext hxq)
        obtain ⟨w21, hwq⟩ : ∃ wq, w20.drewN nq = wq := ⟨_, rfl⟩
        rw [hwq] at HX21 HR21 HCb21 HCt21 HCe21 HCn21
        rw [hwq]
        clear hwq hxq
        have b0 : w21.cell? ⟨w.heap.size, 0, none⟩ = some (.int .i64 p.d) := HCb21.out 0 _ rfl
        have b1 : w21.cell? ⟨w.heap.size, 1, none⟩ = some (.slice A1 p.gs.length c1) := HCb21.out 1 _ rfl
        have b2 : w21.cell? ⟨w.heap.size, 2, none⟩ = some (.int .i64 p.gl) := HCb21.out 2 _ rfl
        have b3 : w21.cell? ⟨w.heap.size, 3, none⟩ = some (.slice A2 p.at'.length c2) := HCb21.out 3 _ rfl
        have b4 : w21.cell? ⟨w.heap.size, 4, none⟩ = some (.slice A3 p.ch.length c3) := HCb21.out 4 _ rfl
        have t0 : w21.cell? ⟨w.heap.size + 1, 0, none⟩ = some (.int .u8 a0) := HCt21.out 0 _ rfl
        have t1 : w21.cell? ⟨w.heap.size + 1, 1, none⟩ = some (.int .u8 a1) := HCt21.out 1 _ rfl
        have t2 : w21.cell? ⟨w.heap.size + 1, 2, none⟩ = some (.int .u8 a2) := HCt21.out 2 _ rfl
        have e0 : w21.cell? ⟨w.heap.size + 1 + 1, 0, none⟩ = some (.int .u16 s0) := HCe21.out 0 _ rfl
        have e1 : w21.cell? ⟨w.heap.size + 1 + 1, 1, none⟩ = some (.int .u16 s1) := HCe21.out 1 _ rfl
        have n0 : w21.cell? ⟨w5.heap.size, 0, none⟩ = some (.int .i64 p.d) := HCn21.out 0 _ rfl
        have n1 : w21.cell? ⟨w5.heap.size, 1, none⟩ = some (.slice A1 p.gs.length c1) := HCn21.out 1 _ rfl
        have n2 : w21.cell? ⟨w5.heap.size, 2, none⟩ = some (.int .i64 p.gl) := HCn21.out 2 _ rfl
        have n3 : w21.cell? ⟨w5.heap.size, 3, none⟩ = some (.slice (some ⟨g2, 0, none⟩) p.at'.length cg2) := HCn21.out 3 _ rfl
        have n4 : w21.cell? ⟨w5.heap.size, 4, none⟩ = some (.slice (some ⟨g1, 0, none⟩) p.ch.length cg1) := HCn21.out 4 _ rfl
        go_wp2_with fail
        go_quiet (fail)
        clear b0 b1 b2 b3 b4
        clear t0 t1 t2
        clear e0 e1
        clear n0 n1 n2 n3 n4
        have hxq := (Ext.refl w21).drewN nq
        have HX22 := Lib.hid (HX21.out.trans hxq)
        have HR22 := Lib.hid (RP.ext _ _ _ _ hxq HR21.out)
        have HCb22 := Lib.hid (HCb21.out.ext hxq)
        have HCt22 := Lib.hid (HCt21.out.ext hxq)
        have HCe22 := Lib.hid (HCe21.out.ext hxq)
        have HCn22 := Lib.hid (HCn21.out.ext hxq)
        obtain ⟨w22, hwq⟩ : ∃ wq, w21.drewN nq = wq := ⟨_, rfl⟩
        rw [hwq] at HX22 HR22 HCb22 HCt22 HCe22 HCn22
        rw [hwq]
        clear hwq hxq
        have b0 : w22.cell? ⟨w.heap.size, 0, none⟩ = some (.int .i64 p.d) := HCb22.out 0 _ rfl
        have b1 : w22.cell? ⟨w.heap.size, 1, none⟩ = some (.slice A1 p.gs.length c1) := HCb22.out 1 _ rfl
        have b2 : w22.cell? ⟨w.heap.size, 2, none⟩ = some (.int .i64 p.gl) := HCb22.out 2 _ rfl
        have b3 : w22.cell? ⟨w.heap.size, 3, none⟩ = some (.slice A2 p.at'.length c2) := HCb22.out 3 _ rfl
        have b4 : w22.cell? ⟨w.heap.size, 4, none⟩ = some (.slice A3 p.ch.length c3) := HCb22.out 4 _ rfl
        have t0 : w22.cell? ⟨w.heap.size + 1, 0, none⟩ = some (.int .u8 a0) := HCt22.out 0 _ rfl
        have t1 : w22.cell? ⟨w.heap.size + 1, 1, none⟩ = some (.int .u8 a1) := HCt22.out 1 _ rfl
        have t2 : w22.cell? ⟨w.heap.size + 1, 2, none⟩ = some (.int .u8 a2) := HCt22.out 2 _ rfl
        have e0 : w22.cell? ⟨w.heap.size + 1 + 1, 0, none⟩ = some (.int .u16 s0) := HCe22.out 0 _ rfl
        have e1 : w22.cell? ⟨w.heap.size + 1 + 1, 1, none⟩ = some (.int .u16 s1) := HCe22.out 1 _ rfl
        have n0 : w22.cell? ⟨w5.heap.size, 0, none⟩ = some (.int .i64 p.d) := HCn22.out 0 _ rfl
        have n1 : w22.cell? ⟨w5.heap.size, 1, none⟩ = some (.slice A1 p.gs.length c1) := HCn22.out 1 _ rfl
        have n2 : w22.cell? ⟨w5.heap.size, 2, none⟩ = some (.int .i64 p.gl) := HCn22.out 2 _ rfl
        have n3 : w22.cell? ⟨w5.heap.size, 3, none⟩ = some (.slice (some ⟨g2, 0, none⟩) p.at'.length cg2) := HCn22.out 3 _ rfl
        have n4 : w22.cell? ⟨w5.heap.size, 4, none⟩ = some (.slice (some ⟨g1, 0, none⟩) p.ch.length cg1) := HCn22.out 4 _ rfl
        go_wp2_with fail
        clear b0 b1 b2 b3 b4
        clear t0 t1 t2
        clear e0 e1
        clear n0 n1 n2 n3 n4
        clear k1 k2 k3 u9 u10 u11 u12
        refine (kLost_any p (Sa : Int) _ _ (HT.out.ext HX22.out) HR22.out).mono ?_
        rintro e w23 ⟨rfl, hx⟩
        rw [HL.out.1]
        have HX23 := Lib.hid (HX22.out.trans hx)
        have HR23 := Lib.hid (RP.ext _ _ _ _ hx HR22.out)
        have HCb23 := Lib.hid (HCb22.out.ext hx)
        have HCt23 := Lib.hid (HCt22.out.ext hx)
        have HCe23 := Lib.hid (HCe22.out.ext hx)
        have HCn23 := Lib.hid (HCn22.out.ext hx)
        clear hx
        have b0 : w23.cell? ⟨w.heap.size, 0, none⟩ = some (.int .i64 p.d) := HCb23.out 0 _ rfl
        have b1 : w23.cell? ⟨w.heap.size, 1, none⟩ = some (.slice A1 p.gs.length c1) := HCb23.out 1 _ rfl
        have b2 : w23.cell? ⟨w.heap.size, 2, none⟩ = some (.int .i64 p.gl) := HCb23.out 2 _ rfl
        have b3 : w23.cell? ⟨w.heap.size, 3, none⟩ = some (.slice A2 p.at'.length c2) := HCb23.out 3 _ rfl
        have b4 : w23.cell? ⟨w.heap.size, 4, none⟩ = some (.slice A3 p.ch.length c3) := HCb23.out 4 _ rfl
        go_wp2_with fail
        clear b0 b1 b2 b3 b4
        refine (kLost_any p (So : Int) _ _ (HT.out.ext HX23.out) HR23.out).mono ?_
        rintro e w24 ⟨rfl, hx⟩
        rw [HL.out.2.1]
        have HX24 := Lib.hid (HX23.out.trans hx)
        have HR24 := Lib.hid (RP.ext _ _ _ _ hx HR23.out)
        have HCb24 := Lib.hid (HCb23.out.ext hx)
        have HCt24 := Lib.hid (HCt23.out.ext hx)
        have HCe24 := Lib.hid (HCe23.out.ext hx)
        have HCn24 := Lib.hid (HCn23.out.ext hx)
        clear hx
        have b0 : w24.cell? ⟨w.heap.size, 0, none⟩ = some (.int .i64 p.d) := HCb24.out 0 _ rfl
        have b1 : w24.cell? ⟨w.heap.size, 1, none⟩ = some (.slice A1 p.gs.length c1) := HCb24.out 1 _ rfl
        have b2 : w24.cell? ⟨w.heap.size, 2, none⟩ = some (.int .i64 p.gl) := HCb24.out 2 _ rfl
        have b3 : w24.cell? ⟨w.heap.size, 3, none⟩ = some (.slice A2 p.at'.length c2) := HCb24.out 3 _ rfl
        have b4 : w24.cell? ⟨w.heap.size, 4, none⟩ = some (.slice A3 p.ch.length c3) := HCb24.out 4 _ rfl
        go_wp2_with fail
        clear b0 b1 b2 b3 b4
        refine (sanity_any _ (HT.out.ext HX24.out)).mono ?_
        rintro e w25 ⟨rfl, hx⟩
        have HX25 := Lib.hid (HX24.out.trans hx)
        clear hx
        cases hA : Rk.loses p Sa with
        | false =>
          go_wp2_with fail
          go_ret
          exact ⟨rfl, HX25.out⟩
        | true =>
          rw [HL.out.2.2 hA]
          go_wp2_with fail
          go_ret
          exact ⟨rfl, HX25.out⟩
      · have hm1 : mi ≤ 0 := by omega
        have b0 : w5.cell? ⟨w.heap.size, 0, none⟩ = some (.int .i64 p.d) := HCb5.out 0 _ rfl
        have b1 : w5.cell? ⟨w.heap.size, 1, none⟩ = some (.slice A1 p.gs.length c1) := HCb5.out 1 _ rfl
        have b2 : w5.cell? ⟨w.heap.size, 2, none⟩ = some (.int .i64 p.gl) := HCb5.out 2 _ rfl
        have b3 : w5.cell? ⟨w.heap.size, 3, none⟩ = some (.slice A2 p.at'.length c2) := HCb5.out 3 _ rfl
        have b4 : w5.cell? ⟨w.heap.size, 4, none⟩ = some (.slice A3 p.ch.length c3) := HCb5.out 4 _ rfl
        have t0 : w5.cell? ⟨w.heap.size + 1, 0, none⟩ = some (.int .u8 a0) := HCt5.out 0 _ rfl
        have t1 : w5.cell? ⟨w.heap.size + 1, 1, none⟩ = some (.int .u8 a1) := HCt5.out 1 _ rfl
        have t2 : w5.cell? ⟨w.heap.size + 1, 2, none⟩ = some (.int .u8 a2) := HCt5.out 2 _ rfl
        have e0 : w5.cell? ⟨w.heap.size + 1 + 1, 0, none⟩ = some (.int .u16 s0) := HCe5.out 0 _ rfl
        have e1 : w5.cell? ⟨w.heap.size + 1 + 1, 1, none⟩ = some (.int .u16 s1) := HCe5.out 1 _ rfl
        have hO10 : Owns w5 (w5.alloc (.cells #[.int .i64 p.d, .slice A1 p.gs.length c1, .int .i64 p.gl, .slice A2 p.at'.length c2, .slice A3 p.ch.length c3] 27)) [⟨.slice (some ⟨w5.heap.size, 0, none⟩) 5 5, 27, 1, 5, [.int .i64 p.d, .slice A1 p.gs.length c1, .int .i64 p.gl, .slice A2 p.at'.length c2, .slice A3 p.ch.length c3]⟩] := (Owns.start w5 (L := []) (by simp)).wider.new 0 #[.int .i64 p.d, .slice A1 p.gs.length c1, .int .i64 p.gl, .slice A2 p.at'.length c2, .slice A3 p.ch.length c3] 27 (by simp [maxLen])
        have esz : (w5.alloc (.cells #[.int .i64 p.d, .slice A1 p.gs.length c1, .int .i64 p.gl, .slice A2 p.at'.length c2, .slice A3 p.ch.length c3] 27)).heap.size = w5.heap.size + 1 := by simp
        have hO11 : Owns w5 ((w5.alloc (.cells #[.int .i64 p.d, .slice A1 p.gs.length c1, .int .i64 p.gl, .slice A2 p.at'.length c2, .slice A3 p.ch.length c3] 27)).alloc (.cells #[] 3)) [⟨.slice (some ⟨w5.heap.size, 0, none⟩) 5 5, 27, 1, 5, [.int .i64 p.d, .slice A1 p.gs.length c1, .int .i64 p.gl, .slice A2 p.at'.length c2, .slice A3 p.ch.length c3]⟩, ⟨.slice (some ⟨w5.heap.size + 1, 0, none⟩) 0 0, 3, 1, 0, []⟩] := by
          have h := hO10.wider.new 1 #[] 3 (by simp [maxLen])
          rw [esz] at h
          exact h
        have HO11 := Lib.hid hO11
        have hparts := HR5.out.parts
        have HRC := Lib.hid hparts.2.2.rdI
        have HRA := Lib.hid hparts.2.1.rdI
        have hone : ∀ (l : List Int), ∀ u ∈ l.map (Value.int .i64), u.oneCell' = true := by intro l u hu; rw [List.mem_map] at hu; obtain ⟨b, _, rfl⟩ := hu; rfl
        have HONE := Lib.hid hone
        have g4 : ((w5.alloc (.cells #[.int .i64 p.d, .slice A1 p.gs.length c1, .int .i64 p.gl, .slice A2 p.at'.length c2, .slice A3 p.ch.length c3] 27)).alloc (.cells #[] 3)).cell? ⟨w.heap.size, 4, none⟩ = some (.slice A3 p.ch.length c3) := HO11.out.ext.cell b4
        have hatl : p.at'.length ≤ 24 := (at_len HZ.out.1).2
        have hatp : 0 < p.at'.length := (at_len HZ.out.1).1
        clear hO10 esz hO11 hparts hone
        have hkl := Nat.mod_lt a2 hatp
        have hremk := rem_nat (o := a2) (n := p.at'.length)
        obtain ⟨k, hkk⟩ : ∃ k, a2 % p.at'.length = k := ⟨_, rfl⟩
        rw [hkk] at hkl hremk
        have hmk : (p.at'.map (Value.int .i64))[k]? = some (.int .i64 p.at'[k]) := by rw [List.getElem?_map, List.getElem?_eq_getElem hkl]; rfl
        obtain ⟨x, hxx⟩ : ∃ x, p.at'[k] = x := ⟨_, rfl⟩
        rw [hxx] at hmk
        clear hkk hxx
        go_wp2_with (first | (refine wpl_append_copy 25 3 rfl (.tmp 106) (.tmp 108) rfl Tryd.underlying25 info_int rfl HO11.out 1 rfl rfl rfl (List.length_map _) (HRC.out.ext HO11.out.ext) (HONE.out _) (by omega) (by decide) ?_; intro g1 cg1 w12 hO12; have k4 : w12.cell? ⟨w5.heap.size, 4, none⟩ = some (.slice A3 p.ch.length c3) := hO12.cell 0 rfl 4 rfl; have f4 : w12.frozen? ⟨w5.heap.size, 4, none⟩ = false := hO12.frozen 0 rfl 4; have hO12s : Owns w5 (w12.setCell ⟨w5.heap.size, 4, none⟩ (.slice (some ⟨g1, 0, none⟩) p.ch.length cg1)) [⟨.slice (some ⟨w5.heap.size, 0, none⟩) 5 5, 27, 1, 5, [.int .i64 p.d, .slice A1 p.gs.length c1, .int .i64 p.gl, .slice A2 p.at'.length c2, .slice (some ⟨g1, 0, none⟩) p.ch.length cg1]⟩, ⟨.slice (some ⟨g1, 0, none⟩) p.ch.length cg1, 3, 1, p.ch.length, p.ch.map (.int .i64)⟩] := hO12.store 0 rfl 4 (.slice (some ⟨g1, 0, none⟩) p.ch.length cg1); have esz2 : (w12.setCell ⟨w5.heap.size, 4, none⟩ (.slice (some ⟨g1, 0, none⟩) p.ch.length cg1)).heap.size = w12.heap.size := (by simp); have hO12b : Owns w5 ((w12.setCell ⟨w5.heap.size, 4, none⟩ (.slice (some ⟨g1, 0, none⟩) p.ch.length cg1)).alloc (.cells #[] 3)) [⟨.slice (some ⟨w5.heap.size, 0, none⟩) 5 5, 27, 1, 5, [.int .i64 p.d, .slice A1 p.gs.length c1, .int .i64 p.gl, .slice A2 p.at'.length c2, .slice (some ⟨g1, 0, none⟩) p.ch.length cg1]⟩, ⟨.slice (some ⟨g1, 0, none⟩) p.ch.length cg1, 3, 1, p.ch.length, p.ch.map (.int .i64)⟩, ⟨.slice (some ⟨w12.heap.size, 0, none⟩) 0 0, 3, 1, 0, []⟩] := (by have h := hO12s.wider.new 2 #[] 3 (by simp [maxLen]); rw [esz2] at h; exact h); have g3 : ((w12.setCell ⟨w5.heap.size, 4, none⟩ (.slice (some ⟨g1, 0, none⟩) p.ch.length cg1)).alloc (.cells #[] 3)).cell? ⟨w.heap.size, 3, none⟩ = some (.slice A2 p.at'.length c2) := hO12b.ext.cell b3; have HO12b := Lib.hid hO12b; clear hO12 hO12s esz2 hO12b) | (refine wpl_append_copy 25 3 rfl (.tmp 111) (.tmp 113) rfl Tryd.underlying25 info_int rfl HO12b.out 2 rfl rfl rfl (List.length_map _) (HRA.out.ext HO12b.out.ext) (HONE.out _) (by omega) (by decide) ?_; intro g2 cg2 w13 hO13; have k3 : w13.cell? ⟨w5.heap.size, 3, none⟩ = some (.slice A2 p.at'.length c2) := hO13.cell 0 rfl 3 rfl; have f3 : w13.frozen? ⟨w5.heap.size, 3, none⟩ = false := hO13.frozen 0 rfl 3; have hO13s : Owns w5 (w13.setCell ⟨w5.heap.size, 3, none⟩ (.slice (some ⟨g2, 0, none⟩) p.at'.length cg2)) [⟨.slice (some ⟨w5.heap.size, 0, none⟩) 5 5, 27, 1, 5, [.int .i64 p.d, .slice A1 p.gs.length c1, .int .i64 p.gl, .slice (some ⟨g2, 0, none⟩) p.at'.length cg2, .slice (some ⟨g1, 0, none⟩) p.ch.length cg1]⟩, ⟨.slice (some ⟨g1, 0, none⟩) p.ch.length cg1, 3, 1, p.ch.length, p.ch.map (.int .i64)⟩, ⟨.slice (some ⟨g2, 0, none⟩) p.at'.length cg2, 3, 1, p.at'.length, p.at'.map (.int .i64)⟩] := hO13.store 0 rfl 3 (.slice (some ⟨g2, 0, none⟩) p.at'.length cg2); have v3 : (w13.setCell ⟨w5.heap.size, 3, none⟩ (.slice (some ⟨g2, 0, none⟩) p.at'.length cg2)).cell? ⟨w5.heap.size, 3, none⟩ = some (.slice (some ⟨g2, 0, none⟩) p.at'.length cg2) := hO13s.cell 0 rfl 3 rfl; have v4 : (w13.setCell ⟨w5.heap.size, 3, none⟩ (.slice (some ⟨g2, 0, none⟩) p.at'.length cg2)).cell? ⟨w5.heap.size, 4, none⟩ = some (.slice (some ⟨g1, 0, none⟩) p.ch.length cg1) := hO13s.cell 0 rfl 4 rfl; have vk : (w13.setCell ⟨w5.heap.size, 3, none⟩ (.slice (some ⟨g2, 0, none⟩) p.at'.length cg2)).cell? ⟨g2, k, none⟩ = some (.int .i64 x) := hO13s.cell 2 rfl k hmk; have vkf : (w13.setCell ⟨w5.heap.size, 3, none⟩ (.slice (some ⟨g2, 0, none⟩) p.at'.length cg2)).frozen? ⟨g2, k, none⟩ = false := hO13s.frozen 2 rfl k; have vt0 : (w13.setCell ⟨w5.heap.size, 3, none⟩ (.slice (some ⟨g2, 0, none⟩) p.at'.length cg2)).cell? ⟨w.heap.size + 1, 0, none⟩ = some (.int .u8 a0) := hO13s.ext.cell t0; have vt1 : (w13.setCell ⟨w5.heap.size, 3, none⟩ (.slice (some ⟨g2, 0, none⟩) p.at'.length cg2)).cell? ⟨w.heap.size + 1, 1, none⟩ = some (.int .u8 a1) := hO13s.ext.cell t1; have vt2 : (w13.setCell ⟨w5.heap.size, 3, none⟩ (.slice (some ⟨g2, 0, none⟩) p.at'.length cg2)).cell? ⟨w.heap.size + 1, 2, none⟩ = some (.int .u8 a2) := hO13s.ext.cell t2; have ve0 : (w13.setCell ⟨w5.heap.size, 3, none⟩ (.slice (some ⟨g2, 0, none⟩) p.at'.length cg2)).cell? ⟨w.heap.size + 1 + 1, 0, none⟩ = some (.int .u16 s0) := hO13s.ext.cell e0; have ve1 : (w13.setCell ⟨w5.heap.size, 3, none⟩ (.slice (some ⟨g2, 0, none⟩) p.at'.length cg2)).cell? ⟨w.heap.size + 1 + 1, 1, none⟩ = some (.int .u16 s1) := hO13s.ext.cell e1; have HO13 := Lib.hid hO13s; clear hO13 hO13s))
        obtain ⟨wy, hwy⟩ : ∃ wy, (w13.setCell ⟨w5.heap.size, 3, none⟩ (.slice (some ⟨g2, 0, none⟩) p.at'.length cg2)) = wy := ⟨_, rfl⟩
        have HO17 := HO13
        rw [hwy] at HO17
        rw [hwy]
        clear hwy HO13 v3 v4 vk vkf vt0 vt1 vt2 ve0 ve1 g3 g4 k3 k4 f3 f4
        clear b0 b1 b2 b3 b4
        clear t0 t1 t2
        clear e0 e1
        have y3 : wy.cell? ⟨w5.heap.size, 3, none⟩ = some (.slice (some ⟨g2, 0, none⟩) p.at'.length cg2) := HO17.out.cell 0 rfl 3 rfl
        have yk : wy.cell? ⟨g2, k, none⟩ = some (.int .i64 x) := HO17.out.cell 2 rfl k hmk
        have ykf : wy.frozen? ⟨g2, k, none⟩ = false := HO17.out.frozen 2 rfl k
        have HCty := Lib.hid (HCt5.out.ext HO17.out.ext)
        have t2 : wy.cell? ⟨w.heap.size + 1, 2, none⟩ = some (.int .u8 a2) := HCty.out 2 _ rfl
        have u6 : IntKind.i64.wrap (a2 : Int) = (a2 : Int) := wrap_small _ (by omega) (by omega)
        have u7 : IntKind.i64.wrap (k : Int) = (k : Int) := wrap_small _ (by omega) (by omega)
        have u8 : ((p.at'.length : Int) = 0) = False := eq_false (by omega)
        have u8b : (p.at' = []) = False := eq_false (fun h => by rw [h] at hatp; simp at hatp)
        have u8c : (p.at'.length = 0) = False := eq_false (by omega)
        have u8d : ((p.at'.length : Int)) ≠ 0 := by omega
        have hO18 := HO17.out.store 2 rfl k (.int .i64 (-1))
        have HO18 := Lib.hid hO18.drew
        have z0 : (wy.setCell ⟨g2, k, none⟩ (.int .i64 (-1))).cell? ⟨w5.heap.size, 0, none⟩ = some (.int .i64 p.d) := hO18.cell 0 rfl 0 rfl
        have z1 : (wy.setCell ⟨g2, k, none⟩ (.int .i64 (-1))).cell? ⟨w5.heap.size, 1, none⟩ = some (.slice A1 p.gs.length c1) := hO18.cell 0 rfl 1 rfl
        have z2 : (wy.setCell ⟨g2, k, none⟩ (.int .i64 (-1))).cell? ⟨w5.heap.size, 2, none⟩ = some (.int .i64 p.gl) := hO18.cell 0 rfl 2 rfl
        have z3 : (wy.setCell ⟨g2, k, none⟩ (.int .i64 (-1))).cell? ⟨w5.heap.size, 3, none⟩ = some (.slice (some ⟨g2, 0, none⟩) p.at'.length cg2) := hO18.cell 0 rfl 3 rfl
        have z4 : (wy.setCell ⟨g2, k, none⟩ (.int .i64 (-1))).cell? ⟨w5.heap.size, 4, none⟩ = some (.slice (some ⟨g1, 0, none⟩) p.ch.length cg1) := hO18.cell 0 rfl 4 rfl
        clear hO18
        go_still_tail 10, (by kernel_rfl)
        go_wp2_with fail
        clear y3 yk ykf t2 u6 u7 u8 u8b u8c u8d z0 z1 z2 z3 z4
        have hq : Rk.check (Rk.placed p (p.at'.set k (-1))) = 0 := Rk.place_check HZ.out.1 k
        have hl1 : Rk.loss p ≤ Rk.loss p := Nat.le_refl _
        have hl2 : Rk.loss p ≤ Rk.loss (Rk.placed p (p.at'.set k (-1))) := Rk.place_mono HZ.out.1 (at' := p.at'.set k (-1)) List.length_set (fun i _ => set_or i)
        have hlen : (Rk.placed p (p.at'.set k (-1))).ch.length = p.ch.length := rfl
        have hml : Rk.mill p ≤ Rk.mill (Rk.placed p (p.at'.set k (-1))) := Rk.mill_mono HZ.out.1 hq hlen (Nat.le_trans hl1 hl2)
        have hll : Rk.lossOf p ≤ Rk.lossOf (Rk.placed p (p.at'.set k (-1))) := by rw [Rk.lossOf_ok HZ.out.1, Rk.lossOf_ok hq]; exact Nat.le_trans hl1 hl2
        obtain ⟨Xq, hXq⟩ : ∃ z : Int, ((Rk.lossOf (Rk.placed p (p.at'.set k (-1))) : Nat) : Int) = z := ⟨_, rfl⟩
        obtain ⟨mq, hmq⟩ : ∃ z : Int, ((Rk.mill (Rk.placed p (p.at'.set k (-1))) : Nat) : Int) = z := ⟨_, rfl⟩
        have l1 : Xi ≤ Xq := by rw [← HZ.out.2.1, ← hXq]; exact Int.ofNat_le.2 hll
        have l2 : mi ≤ mq := by rw [← HZ.out.2.2.2, ← hmq]; exact Int.ofNat_le.2 hml
        have hx18 := HO18.out.ext
        have hcr := HO18.out.rd (A := some ⟨g1, 0, none⟩) 1 rfl
        have har := HO18.out.rd (A := some ⟨g2, 0, none⟩) 2 rfl
        skip
        rw [← List.map_set] at har
        have hrq : RP (wy.setCell ⟨g2, k, none⟩ (.int .i64 (-1))).drew (.agg #[.int .i64 p.d, .slice A1 p.gs.length c1, .int .i64 p.gl, .slice (some ⟨g2, 0, none⟩) p.at'.length cg2, .slice (some ⟨g1, 0, none⟩) p.ch.length cg1]) (Rk.placed p (p.at'.set k (-1))) := ⟨_, _, _, rfl, Rs.ext (Rs.ext RI.ext) _ _ _ _ hx18 HR5.out.parts.1, Rs.of_rdI (l := p.at'.set k (-1)) har List.length_set.symm (by rw [List.length_set]; omega) (at_set HZ.out.1 k), Rs.of_rdI (l := p.ch) hcr rfl (by omega) (ch_ok HZ.out.1)⟩
        have HRQ18 := Lib.hid hrq
        have HCn18 : Hid (Cells (wy.setCell ⟨g2, k, none⟩ (.int .i64 (-1))).drew w5.heap.size [.int .i64 p.d, .slice A1 p.gs.length c1, .int .i64 p.gl, .slice (some ⟨g2, 0, none⟩) p.at'.length cg2, .slice (some ⟨g1, 0, none⟩) p.ch.length cg1]) := Lib.hid (HO18.out.cells 0 rfl)
        have HQ := Lib.hid (And.intro hq (And.intro hXq hmq))
        have HX18 := Lib.hid (HX5.out.trans hx18)
        have HR18 := Lib.hid (RP.ext _ _ _ _ hx18 HR5.out)
        have HCb18 := Lib.hid (HCb5.out.ext hx18)
        have HCt18 := Lib.hid (HCt5.out.ext hx18)
        have HCe18 := Lib.hid (HCe5.out.ext hx18)
        clear hq hl1 hl2 hlen hml hll hXq hmq hx18 hcr har hrq
        refine (kLoss_any (Rk.placed p (p.at'.set k (-1))) _ _ (HT.out.ext HX18.out) HRQ18.out).mono ?_
        rintro e w19 ⟨rfl, hx⟩
        rw [HQ.out.2.1, HQ.out.1]
        have HX19 := Lib.hid (HX18.out.trans hx)
        have HR19 := Lib.hid (RP.ext _ _ _ _ hx HR18.out)
        have HCb19 := Lib.hid (HCb18.out.ext hx)
        have HCt19 := Lib.hid (HCt18.out.ext hx)
        have HCe19 := Lib.hid (HCe18.out.ext hx)
        have HCn19 := Lib.hid (HCn18.out.ext hx)
        have HRQ19 := Lib.hid (RP.ext _ _ _ _ hx HRQ18.out)
        clear hx
        have b0 : w19.cell? ⟨w.heap.size, 0, none⟩ = some (.int .i64 p.d) := HCb19.out 0 _ rfl
        have b1 : w19.cell? ⟨w.heap.size, 1, none⟩ = some (.slice A1 p.gs.length c1) := HCb19.out 1 _ rfl
        have b2 : w19.cell? ⟨w.heap.size, 2, none⟩ = some (.int .i64 p.gl) := HCb19.out 2 _ rfl
        have b3 : w19.cell? ⟨w.heap.size, 3, none⟩ = some (.slice A2 p.at'.length c2) := HCb19.out 3 _ rfl
        have b4 : w19.cell? ⟨w.heap.size, 4, none⟩ = some (.slice A3 p.ch.length c3) := HCb19.out 4 _ rfl
        have t0 : w19.cell? ⟨w.heap.size + 1, 0, none⟩ = some (.int .u8 a0) := HCt19.out 0 _ rfl
        have t1 : w19.cell? ⟨w.heap.size + 1, 1, none⟩ = some (.int .u8 a1) := HCt19.out 1 _ rfl
        have t2 : w19.cell? ⟨w.heap.size + 1, 2, none⟩ = some (.int .u8 a2) := HCt19.out 2 _ rfl
        have e0 : w19.cell? ⟨w.heap.size + 1 + 1, 0, none⟩ = some (.int .u16 s0) := HCe19.out 0 _ rfl
        have e1 : w19.cell? ⟨w.heap.size + 1 + 1, 1, none⟩ = some (.int .u16 s1) := HCe19.out 1 _ rfl
        have n0 : w19.cell? ⟨w5.heap.size, 0, none⟩ = some (.int .i64 p.d) := HCn19.out 0 _ rfl
        have n1 : w19.cell? ⟨w5.heap.size, 1, none⟩ = some (.slice A1 p.gs.length c1) := HCn19.out 1 _ rfl
        have n2 : w19.cell? ⟨w5.heap.size, 2, none⟩ = some (.int .i64 p.gl) := HCn19.out 2 _ rfl
        have n3 : w19.cell? ⟨w5.heap.size, 3, none⟩ = some (.slice (some ⟨g2, 0, none⟩) p.at'.length cg2) := HCn19.out 3 _ rfl
        have n4 : w19.cell? ⟨w5.heap.size, 4, none⟩ = some (.slice (some ⟨g1, 0, none⟩) p.ch.length cg1) := HCn19.out 4 _ rfl
        go_wp2_with fail
        clear b0 b1 b2 b3 b4
        clear t0 t1 t2
        clear e0 e1
        clear n0 n1 n2 n3 n4
        refine (kMill_any (Rk.placed p (p.at'.set k (-1))) _ _ (HT.out.ext HX19.out) HRQ19.out).mono ?_
        rintro e w20 ⟨rfl, hx⟩
        rw [HQ.out.2.2, HQ.out.1]
        have HX20 := Lib.hid (HX19.out.trans hx)
        have HR20 := Lib.hid (RP.ext _ _ _ _ hx HR19.out)
        have HCb20 := Lib.hid (HCb19.out.ext hx)
        have HCt20 := Lib.hid (HCt19.out.ext hx)
        have HCe20 := Lib.hid (HCe19.out.ext hx)
        have HCn20 := Lib.hid (HCn19.out.ext hx)
        have HRQ20 := Lib.hid (RP.ext _ _ _ _ hx HRQ19.out)
        clear hx
        have b0 : w20.cell? ⟨w.heap.size, 0, none⟩ = some (.int .i64 p.d) := HCb20.out 0 _ rfl
        have b1 : w20.cell? ⟨w.heap.size, 1, none⟩ = some (.slice A1 p.gs.length c1) := HCb20.out 1 _ rfl
        have b2 : w20.cell? ⟨w.heap.size, 2, none⟩ = some (.int .i64 p.gl) := HCb20.out 2 _ rfl
        have b3 : w20.cell? ⟨w.heap.size, 3, none⟩ = some (.slice A2 p.at'.length c2) := HCb20.out 3 _ rfl
        have b4 : w20.cell? ⟨w.heap.size, 4, none⟩ = some (.slice A3 p.ch.length c3) := HCb20.out 4 _ rfl
        have t0 : w20.cell? ⟨w.heap.size + 1, 0, none⟩ = some (.int .u8 a0) := HCt20.out 0 _ rfl
        have t1 : w20.cell? ⟨w.heap.size + 1, 1, none⟩ = some (.int .u8 a1) := HCt20.out 1 _ rfl
        have t2 : w20.cell? ⟨w.heap.size + 1, 2, none⟩ = some (.int .u8 a2) := HCt20.out 2 _ rfl
        have e0 : w20.cell? ⟨w.heap.size + 1 + 1, 0, none⟩ = some (.int .u16 s0) := HCe20.out 0 _ rfl
        have e1 : w20.cell? ⟨w.heap.size + 1 + 1, 1, none⟩ = some (.int .u16 s1) := HCe20.out 1 _ rfl
        have n0 : w20.cell? ⟨w5.heap.size, 0, none⟩ = some (.int .i64 p.d) := HCn20.out 0 _ rfl
        have n1 : w20.cell? ⟨w5.heap.size, 1, none⟩ = some (.slice A1 p.gs.length c1) := HCn20.out 1 _ rfl
        have n2 : w20.cell? ⟨w5.heap.size, 2, none⟩ = some (.int .i64 p.gl) := HCn20.out 2 _ rfl
        have n3 : w20.cell? ⟨w5.heap.size, 3, none⟩ = some (.slice (some ⟨g2, 0, none⟩) p.at'.length cg2) := HCn20.out 3 _ rfl
        have n4 : w20.cell? ⟨w5.heap.size, 4, none⟩ = some (.slice (some ⟨g1, 0, none⟩) p.ch.length cg1) := HCn20.out 4 _ rfl
        have hNp := Nat.two_pow_pos p.ch.length
        have hN9 : 2 ^ p.ch.length ≤ 2 ^ 9 := Nat.pow_le_pow_right (by omega) h9
        have hlk := fun j hj => Rk.lost_ok (p := p) (f := j) HZ.out.1 hj
        have k1 := and_mask s0 p.ch.length hs0 (by omega)
        have k2 := and_mask s1 p.ch.length hs1 (by omega)
        have ka := Nat.mod_lt s0 hNp
        have kb := Nat.mod_lt s1 hNp
        have kor : s0 % 2 ^ p.ch.length ||| s1 % 2 ^ p.ch.length < 2 ^ p.ch.length := Nat.or_lt_two_pow ka kb
        have u11 := wrap_two p.ch.length (by omega)
        obtain ⟨N, hN⟩ : ∃ N, 2 ^ p.ch.length = N := ⟨_, rfl⟩
        rw [hN] at hNp hN9 hlk k1 k2 ka kb kor u11
        obtain ⟨Sa, hSa⟩ : ∃ S, s0 % N = S := ⟨_, rfl⟩
        obtain ⟨Sb, hSb⟩ : ∃ S, s1 % N = S := ⟨_, rfl⟩
        rw [hSa] at k1 ka kor
        rw [hSb] at k2 kb kor
        have hN512 : N ≤ 512 := hN9
        have k3 := or64 Sa Sb (by omega) (by omega)
        obtain ⟨So, hSo⟩ : ∃ S, Sa ||| Sb = S := ⟨_, rfl⟩
        rw [hSo] at k3 kor
        have u9 : IntKind.i64.wrap ((N : Int) - 1) = (N : Int) - 1 := wrap_small _ (by omega) (by omega)
        have u10 : IntKind.i64.wrap (s0 : Int) = (s0 : Int) := wrap_small _ (by omega) (by omega)
        have u12 : IntKind.i64.wrap (s1 : Int) = (s1 : Int) := wrap_small _ (by omega) (by omega)
        have hsub : Rk.loses p Sa = true → Rk.loses p So = true := fun h => Rk.loses_mono (q := p) (Rk.ok_of HZ.out.1) ⟨rfl, rfl, rfl⟩ rfl (fun _ _ => .inl rfl) (by rw [← hSo]; exact Rk.sub_or Sa Sb) h
        have hla := hlk Sa ka
        have hlo := hlk So kor
        have HL := Lib.hid (And.intro hla (And.intro hlo hsub))
        clear hN9 hlk hN hSa hSb hSo hsub hla hlo
        go_wp2_with fail
        go_quiet (fail)
        clear b0 b1 b2 b3 b4
        clear t0 t1 t2
        clear e0 e1
        clear n0 n1 n2 n3 n4
        have hxq := (Ext.refl w20).drewN nq
        have HX21 := Lib.hid (HX20.out.trans hxq)
        have HR21 := Lib.hid (RP.ext _ _ _ _ hxq HR20.out)
        have HCb21 := Lib.hid (HCb20.out.ext hxq)
        have HCt21 := Lib.hid (HCt20.out.ext hxq)
        have HCe21 := Lib.hid (HCe20.out.ext hxq)
        have HCn21 := Lib.hid (HCn20.out.ext hxq)
        obtain ⟨w21, hwq⟩ : ∃ wq, w20.drewN nq = wq := ⟨_, rfl⟩
        rw [hwq] at HX21 HR21 HCb21 HCt21 HCe21 HCn21
        rw [hwq]
        clear hwq hxq
        have b0 : w21.cell? ⟨w.heap.size, 0, none⟩ = some (.int .i64 p.d) := HCb21.out 0 _ rfl
        have b1 : w21.cell? ⟨w.heap.size, 1, none⟩ = some (.slice A1 p.gs.length c1) := HCb21.out 1 _ rfl
        have b2 : w21.cell? ⟨w.heap.size, 2, none⟩ = some (.int .i64 p.gl) := HCb21.out 2 _ rfl
        have b3 : w21.cell? ⟨w.heap.size, 3, none⟩ = some (.slice A2 p.at'.length c2) := HCb21.out 3 _ rfl
        have b4 : w21.cell? ⟨w.heap.size, 4, none⟩ = some (.slice A3 p.ch.length c3) := HCb21.out 4 _ rfl
        have t0 : w21.cell? ⟨w.heap.size + 1, 0, none⟩ = some (.int .u8 a0) := HCt21.out 0 _ rfl
        have t1 : w21.cell? ⟨w.heap.size + 1, 1, none⟩ = some (.int .u8 a1) := HCt21.out 1 _ rfl
        have t2 : w21.cell? ⟨w.heap.size + 1, 2, none⟩ = some (.int .u8 a2) := HCt21.out 2 _ rfl
        have e0 : w21.cell? ⟨w.heap.size + 1 + 1, 0, none⟩ = some (.int .u16 s0) := HCe21.out 0 _ rfl
        have e1 : w21.cell? ⟨w.heap.size + 1 + 1, 1, none⟩ = some (.int .u16 s1) := HCe21.out 1 _ rfl
        have n0 : w21.cell? ⟨w5.heap.size, 0, none⟩ = some (.int .i64 p.d) := HCn21.out 0 _ rfl
        have n1 : w21.cell? ⟨w5.heap.size, 1, none⟩ = some (.slice A1 p.gs.length c1) := HCn21.out 1 _ rfl
        have n2 : w21.cell? ⟨w5.heap.size, 2, none⟩ = some (.int .i64 p.gl) := HCn21.out 2 _ rfl
        have n3 : w21.cell? ⟨w5.heap.size, 3, none⟩ = some (.slice (some ⟨g2, 0, none⟩) p.at'.length cg2) := HCn21.out 3 _ rfl
        have n4 : w21.cell? ⟨w5.heap.size, 4, none⟩ = some (.slice (some ⟨g1, 0, none⟩) p.ch.length cg1) := HCn21.out 4 _ rfl
        go_wp2_with fail
        go_quiet (fail)
        clear b0 b1 b2 b3 b4
        clear t0 t1 t2
        clear e0 e1
        clear n0 n1 n2 n3 n4
        have hxq := (Ext.refl w21).drewN nq
        have HX22 := Lib.hid (HX21.out.trans hxq)
        have HR22 := Lib.hid (RP.ext _ _ _ _ hxq HR21.out)
        have HCb22 := Lib.hid (HCb21.out.ext hxq)
        have HCt22 := Lib.hid (HCt21.out.ext hxq)
        have HCe22 := Lib.hid (HCe21.out.ext hxq)
        have HCn22 := Lib.hid (HCn21.out.ext hxq)
        obtain ⟨w22, hwq⟩ : ∃ wq, w21.drewN nq = wq := ⟨_, rfl⟩
        rw [hwq] at HX22 HR22 HCb22 HCt22 HCe22 HCn22
        rw [hwq]
        clear hwq hxq
        have b0 : w22.cell? ⟨w.heap.size, 0, none⟩ = some (.int .i64 p.d) := HCb22.out 0 _ rfl
        have b1 : w22.cell? ⟨w.heap.size, 1, none⟩ = some (.slice A1 p.gs.length c1) := HCb22.out 1 _ rfl
        have b2 : w22.cell? ⟨w.heap.size, 2, none⟩ = some (.int .i64 p.gl) := HCb22.out 2 _ rfl
        have b3 : w22.cell? ⟨w.heap.size, 3, none⟩ = some (.slice A2 p.at'.length c2) := HCb22.out 3 _ rfl
        have b4 : w22.cell? ⟨w.heap.size, 4, none⟩ = some (.slice A3 p.ch.length c3) := HCb22.out 4 _ rfl
        have t0 : w22.cell? ⟨w.heap.size + 1, 0, none⟩ = some (.int .u8 a0) := HCt22.out 0 _ rfl
        have t1 : w22.cell? ⟨w.heap.size + 1, 1, none⟩ = some (.int .u8 a1) := HCt22.out 1 _ rfl
        have t2 : w22.cell? ⟨w.heap.size + 1, 2, none⟩ = some (.int .u8 a2) := HCt22.out 2 _ rfl
        have e0 : w22.cell? ⟨w.heap.size + 1 + 1, 0, none⟩ = some (.int .u16 s0) := HCe22.out 0 _ rfl
        have e1 : w22.cell? ⟨w.heap.size + 1 + 1, 1, none⟩ = some (.int .u16 s1) := HCe22.out 1 _ rfl
        have n0 : w22.cell? ⟨w5.heap.size, 0, none⟩ = some (.int .i64 p.d) := HCn22.out 0 _ rfl
        have n1 : w22.cell? ⟨w5.heap.size, 1, none⟩ = some (.slice A1 p.gs.length c1) := HCn22.out 1 _ rfl
        have n2 : w22.cell? ⟨w5.heap.size, 2, none⟩ = some (.int .i64 p.gl) := HCn22.out 2 _ rfl
        have n3 : w22.cell? ⟨w5.heap.size, 3, none⟩ = some (.slice (some ⟨g2, 0, none⟩) p.at'.length cg2) := HCn22.out 3 _ rfl
        have n4 : w22.cell? ⟨w5.heap.size, 4, none⟩ = some (.slice (some ⟨g1, 0, none⟩) p.ch.length cg1) := HCn22.out 4 _ rfl
        go_wp2_with fail
        clear b0 b1 b2 b3 b4
        clear t0 t1 t2
        clear e0 e1
        clear n0 n1 n2 n3 n4
        clear k1 k2 k3 u9 u10 u11 u12
        refine (kLost_any p (Sa : Int) _ _ (HT.out.ext HX22.out) HR22.out).mono ?_
        rintro e w23 ⟨rfl, hx⟩
        rw [HL.out.1]
        have HX23 := Lib.hid (HX22.out.trans hx)
        have HR23 := Lib.hid (RP.ext _ _ _ _ hx HR22.out)
        have HCb23 := Lib.hid (HCb22.out.ext hx)
        have HCt23 := Lib.hid (HCt22.out.ext hx)
        have HCe23 := Lib.hid (HCe22.out.ext hx)
        have HCn23 := Lib.hid (HCn22.out.ext hx)
        clear hx
        have b0 : w23.cell? ⟨w.heap.size, 0, none⟩ = some (.int .i64 p.d) := HCb23.out 0 _ rfl
        have b1 : w23.cell? ⟨w.heap.size, 1, none⟩ = some (.slice A1 p.gs.length c1) := HCb23.out 1 _ rfl
        have b2 : w23.cell? ⟨w.heap.size, 2, none⟩ = some (.int .i64 p.gl) := HCb23.out 2 _ rfl
        have b3 : w23.cell? ⟨w.heap.size, 3, none⟩ = some (.slice A2 p.at'.length c2) := HCb23.out 3 _ rfl
        have b4 : w23.cell? ⟨w.heap.size, 4, none⟩ = some (.slice A3 p.ch.length c3) := HCb23.out 4 _ rfl
        go_wp2_with fail
        clear b0 b1 b2 b3 b4
        refine (kLost_any p (So : Int) _ _ (HT.out.ext HX23.out) HR23.out).mono ?_
        rintro e w24 ⟨rfl, hx⟩
        rw [HL.out.2.1]
        have HX24 := Lib.hid (HX23.out.trans hx)
        have HR24 := Lib.hid (RP.ext _ _ _ _ hx HR23.out)
        have HCb24 := Lib.hid (HCb23.out.ext hx)
        have HCt24 := Lib.hid (HCt23.out.ext hx)
        have HCe24 := Lib.hid (HCe23.out.ext hx)
        have HCn24 := Lib.hid (HCn23.out.ext hx)
        clear hx
        have b0 : w24.cell? ⟨w.heap.size, 0, none⟩ = some (.int .i64 p.d) := HCb24.out 0 _ rfl
        have b1 : w24.cell? ⟨w.heap.size, 1, none⟩ = some (.slice A1 p.gs.length c1) := HCb24.out 1 _ rfl
        have b2 : w24.cell? ⟨w.heap.size, 2, none⟩ = some (.int .i64 p.gl) := HCb24.out 2 _ rfl
        have b3 : w24.cell? ⟨w.heap.size, 3, none⟩ = some (.slice A2 p.at'.length c2) := HCb24.out 3 _ rfl
        have b4 : w24.cell? ⟨w.heap.size, 4, none⟩ = some (.slice A3 p.ch.length c3) := HCb24.out 4 _ rfl
        go_wp2_with fail
        clear b0 b1 b2 b3 b4
        refine (sanity_any _ (HT.out.ext HX24.out)).mono ?_
        rintro e w25 ⟨rfl, hx⟩
        have HX25 := Lib.hid (HX24.out.trans hx)
        clear hx
        cases hA : Rk.loses p Sa with
        | false =>
          go_wp2_with fail
          go_ret
          exact ⟨rfl, HX25.out⟩
        | true =>
          rw [HL.out.2.2 hA]
          go_wp2_with fail
          go_ret
          exact ⟨rfl, HX25.out⟩
    · have e1 : (Rk.check p != 0) = true := by rw [bne_iff_ne]; exact h0
      go_wp2_with fail
      refine (sanity_any _ (HT.out.ext HX2.out)).mono ?_
      rintro e ws ⟨rfl, hx⟩
      have HXS := Lib.hid (HX2.out.trans hx)
      clear hx
      go_wp2_with fail
      go_ret
      exact ⟨rfl, HXS.out⟩
end Go.Proofs.YtaemjkfmbnhaoaaDoor
