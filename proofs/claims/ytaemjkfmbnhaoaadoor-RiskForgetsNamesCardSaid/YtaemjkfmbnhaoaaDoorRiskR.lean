/- THE LAW RiskConditions: its walk. -/
import Derived.Test.YtaemjkfmbnhaoaaDoorRiskK
import Derived.Test.YtaemjkfmbnhaoaaDoorRiskQ
namespace Go.Proofs.YtaemjkfmbnhaoaaDoor
open Go.RowKit
theorem given_slices {w : World} {u : Value} {p : Rk.Pe} {k : Nat} {b : Bool} (h : RP w u (Rk.given p k b)) : ∃ A1 A2 A3 c1 c2 c3, u = .agg #[.int .i64 p.d, .slice A1 p.gs.length c1, .int .i64 p.gl, .slice A2 p.at'.length c2, .slice A3 p.ch.length c3] ∧ Rs RI w (.slice A3 p.ch.length c3) (p.ch.set k (if b then 16 else 0)) := by
  obtain ⟨G, T, C, rfl, hG, hTT, hC⟩ := h
  obtain ⟨A1, c1, rfl, _⟩ := hG.form
  obtain ⟨A2, c2, rfl, _⟩ := hTT.form
  obtain ⟨A3, c3, rfl, _⟩ := hC.form
  refine ⟨A1, A2, A3, c1, c2, c3, ?_, ?_⟩
  · rw [Rk.given_len]; rfl
  · rw [Rk.given_len] at hC; exact hC
/-- The cell at place k of a list in which it was set. -/
theorem set_cell {w : World} {A : Option Addr} {n c k : Nat} {l : List Int} {y : Int} (h : Rs RI w (.slice A n c) (l.set k y)) (hk : k < l.length) : ∃ ad, A = some ad ∧ w.cell? (ad.add k) = some (.int .i64 y) := by
  obtain ⟨ad, u, h1, h2, h3⟩ := h.at (i := k) (by rw [List.length_set]; exact hk)
  obtain ⟨rfl, _, _⟩ := h3
  rw [List.getElem_set_self] at h2
  exact ⟨ad, h1, h2⟩
theorem rem_nat {o n : Nat} : ((o : Int)).tmod (n : Int) = ((o % n : Nat) : Int) := (Int.ofNat_tmod o n).symm
theorem prod_wrap {c : Int} {Y : Nat} (h : 0 ≤ c ∧ c ≤ 16) (hY : Y ≤ 281474976710656) : wrap64 (c * (Y : Int)) = ((c.toNat * Y : Nat) : Int) ∧ c.toNat * Y ≤ 4503599627370496 := by
  obtain ⟨k, rfl⟩ : ∃ k : Nat, c = k := ⟨c.toNat, by omega⟩
  have h1 : k * Y ≤ 16 * 281474976710656 := Nat.mul_le_mul (by omega) hY
  rw [Int.toNat_natCast, ← Int.natCast_mul]
  exact ⟨wrap_nat _ (Nat.lt_of_le_of_lt h1 (by decide)), h1⟩
theorem loss_cap {p : Rk.Pe} (h : Rk.Ok p) : Rk.loss p ≤ 281474976710656 := by
  have h1 := Rk.loss_le h.ch_ok
  have h2 : 16 ^ p.ch.length ≤ 16 ^ 12 := Nat.pow_le_pow_right (by omega) h.few
  exact Nat.le_trans h1 h2
theorem own_far {w0 w : World} {a b n c m k e e' s s' : Nat} {xs ys : List Value} {L : List LRow} (h : Owns w0 w (⟨.slice (some ⟨a, 0, none⟩) n c, e, s, n, xs⟩ :: ⟨.slice (some ⟨b, 0, none⟩) m k, e', s', m, ys⟩ :: L)) : a ≠ b := by
  have h := h.far 0 1 _ _ (by decide) rfl rfl
  rcases h with h | h
  · cases h
  · intro he; subst he; exact h rfl
theorem RP.parts {w : World} {G T C : Value} {d gl : Value} {p : Rk.Pe} (h : RP w (.agg #[d, G, gl, T, C]) p) : Rs (Rs RI) w G p.gs ∧ Rs RI w T p.at' ∧ Rs RI w C p.ch := by
  obtain ⟨G', T', C', he, h1, h2, h3⟩ := h
  injection he with he
  simp at he
  obtain ⟨_, rfl, _, rfl, rfl⟩ := he
  exact ⟨h1, h2, h3⟩
theorem RP.chance {w : World} {G T C : Value} {d gl : Value} {p : Rk.Pe} (h : RP w (.agg #[d, G, gl, T, C]) p) : Rs RI w C p.ch := by
  obtain ⟨G', T', C', he, h1, h2, h3⟩ := h
  injection he with he
  simp at he
  obtain ⟨_, rfl, _, rfl, rfl⟩ := he
  exact h3
set_option maxRecDepth 100000 in
set_option maxHeartbeats 16000000 in
theorem cond_walk (p : Rk.Pe) (o : Nat) (v : Value) (w : World) (hT : Tab w) (hv : RP w v p) (ho : o < 256) :
    Calls Tryd.prog 4 #[v, .int .u8 o] w fun e w' => e = .returned (.bool true) ∧ Ext w w' := by
  obtain ⟨A1, A2, A3, c1, c2, c3, rfl⟩ := hv.slices
  have hx0 := (Ext.refl w).alloc (.cells #[.int .i64 p.d, .slice A1 p.gs.length c1, .int .i64 p.gl, .slice A2 p.at'.length c2, .slice A3 p.ch.length c3] 27)
  have HR0 := Lib.hid (RP.ext _ _ _ _ hx0 hv)
  have HX0 := Lib.hid hx0
  have HT := Lib.hid hT
  have HB0 := Lib.hid (cells_new w #[.int .i64 p.d, .slice A1 p.gs.length c1, .int .i64 p.gl, .slice A2 p.at'.length c2, .slice A3 p.ch.length c3] 27)
  clear hv hx0 hT
  go_enter Tryd.func4, Tryd.ntmps4
  go_wp2_with fail
  refine (few_any p 9 _ _ HR0.out).mono ?_
  rintro e w1 ⟨b, rfl, hb, hx⟩
  have HX1 := Lib.hid (HX0.out.trans hx)
  have HR1 := Lib.hid (RP.ext _ _ _ _ hx HR0.out)
  have HB1 := Lib.hid (HB0.out.ext hx)
  clear hx hb
  cases b with
  | false =>
    go_wp2_with fail
    refine (sanity_any _ (HT.out.ext HX1.out)).mono ?_
    rintro e ws ⟨rfl, hx⟩
    have HXS := Lib.hid (HX1.out.trans hx)
    clear hx
    go_wp2_with fail
    go_ret
    exact ⟨rfl, HXS.out⟩
  | true =>
    have b0 : w1.cell? ⟨w.heap.size, 0, none⟩ = some (.int .i64 p.d) := HB1.out 0 _ rfl
    have b1 : w1.cell? ⟨w.heap.size, 1, none⟩ = some (.slice A1 p.gs.length c1) := HB1.out 1 _ rfl
    have b2 : w1.cell? ⟨w.heap.size, 2, none⟩ = some (.int .i64 p.gl) := HB1.out 2 _ rfl
    have b3 : w1.cell? ⟨w.heap.size, 3, none⟩ = some (.slice A2 p.at'.length c2) := HB1.out 3 _ rfl
    have b4 : w1.cell? ⟨w.heap.size, 4, none⟩ = some (.slice A3 p.ch.length c3) := HB1.out 4 _ rfl
    go_wp2_with fail
    clear b0 b1 b2 b3 b4
    refine (kCheck_any p _ _ HR1.out).mono ?_
    rintro e w2 ⟨rfl, hx⟩
    have HX2 := Lib.hid (HX1.out.trans hx)
    have HR2 := Lib.hid (RP.ext _ _ _ _ hx HR1.out)
    have HB2 := Lib.hid (HB1.out.ext hx)
    clear hx
    by_cases h0 : Rk.check p = 0
    · have e1 : (Rk.check p != 0) = false := by rw [h0]; rfl
      have ho' := Rk.ok_of h0
      have hfew := ho'.few
      by_cases hn : p.ch.length = 0
      · have e2 : ((p.ch.length : Int) == 0) = true := by rw [hn]; rfl
        have b0 : w2.cell? ⟨w.heap.size, 0, none⟩ = some (.int .i64 p.d) := HB2.out 0 _ rfl
        have b1 : w2.cell? ⟨w.heap.size, 1, none⟩ = some (.slice A1 p.gs.length c1) := HB2.out 1 _ rfl
        have b2 : w2.cell? ⟨w.heap.size, 2, none⟩ = some (.int .i64 p.gl) := HB2.out 2 _ rfl
        have b3 : w2.cell? ⟨w.heap.size, 3, none⟩ = some (.slice A2 p.at'.length c2) := HB2.out 3 _ rfl
        have b4 : w2.cell? ⟨w.heap.size, 4, none⟩ = some (.slice A3 p.ch.length c3) := HB2.out 4 _ rfl
        go_wp2_with fail
        clear b0 b1 b2 b3 b4
        refine (sanity_any _ (HT.out.ext HX2.out)).mono ?_
        rintro e ws ⟨rfl, hx⟩
        have HXS := Lib.hid (HX2.out.trans hx)
        clear hx
        go_wp2_with fail
        go_ret
        exact ⟨rfl, HXS.out⟩
      · have e2 : ((p.ch.length : Int) == 0) = false := by rw [beq_eq_false_iff_ne]; omega
        have hd := Nat.mod_lt o (show 0 < p.ch.length by omega)
        have hrem := rem_nat (o := o) (n := p.ch.length)
        obtain ⟨d, hdd⟩ : ∃ d, o % p.ch.length = d := ⟨_, rfl⟩
        rw [hdd] at hd hrem
        have hcond := Rk.loss_cond (p := p) hd
        have hc16 := ho'.ch_ok _ (List.getElem_mem hd)
        have hg1 := Rk.given_check h0 d true
        have hg2 := Rk.given_check h0 d false
        have hlx := Rk.lossOf_ok h0
        have hly := Rk.lossOf_ok hg1
        have hlz := Rk.lossOf_ok hg2
        have hby := loss_cap (Rk.ok_of hg1)
        have hbz := loss_cap (Rk.ok_of hg2)
        have hbx := loss_cap ho'
        have hset : (p.ch.set d 16).set d p.ch[d] = p.ch := by rw [List.set_set, List.set_getElem_self]
        obtain ⟨c, hc⟩ : ∃ c, p.ch[d] = c := ⟨_, rfl⟩
        obtain ⟨X, hX⟩ : ∃ X, Rk.loss p = X := ⟨_, rfl⟩
        obtain ⟨Y, hY⟩ : ∃ Y, Rk.loss (Rk.given p d true) = Y := ⟨_, rfl⟩
        obtain ⟨Z, hZ⟩ : ∃ Z, Rk.loss (Rk.given p d false) = Z := ⟨_, rfl⟩
        rw [hX, hY, hZ, hc] at hcond
        rw [hc] at hset hc16
        rw [hX] at hlx hbx
        rw [hY] at hly hby
        rw [hZ] at hlz hbz
        have hp1 := prod_wrap hc16 hby
        have hp2 := prod_wrap (c := 16 - c) (by omega) hbz
        have hcn : (16 - c).toNat = 16 - c.toNat := by omega
        rw [hcn] at hp2
        obtain ⟨P1, hP1⟩ : ∃ P1, c.toNat * Y = P1 := ⟨_, rfl⟩
        obtain ⟨P2, hP2⟩ : ∃ P2, (16 - c.toNat) * Z = P2 := ⟨_, rfl⟩
        rw [hP1] at hp1 hcond
        rw [hP2] at hp2 hcond
        have q1 := hp1.1
        have q2 := hp2.1
        have r1 := hp1.2
        have r2 := hp2.2
        have HM := Lib.hid (And.intro h0 (And.intro hg1 (And.intro hg2 (And.intro hlx (And.intro hly (And.intro hlz (And.intro hset hc)))))))
        have hgd := hd
        clear hg1 hg2 hlx hly hlz hset hX hY hZ hP1 hP2 hp1 hp2 hcn hdd hby hbz ho'
        have b0 : w2.cell? ⟨w.heap.size, 0, none⟩ = some (.int .i64 p.d) := HB2.out 0 _ rfl
        have b1 : w2.cell? ⟨w.heap.size, 1, none⟩ = some (.slice A1 p.gs.length c1) := HB2.out 1 _ rfl
        have b2 : w2.cell? ⟨w.heap.size, 2, none⟩ = some (.int .i64 p.gl) := HB2.out 2 _ rfl
        have b3 : w2.cell? ⟨w.heap.size, 3, none⟩ = some (.slice A2 p.at'.length c2) := HB2.out 3 _ rfl
        have b4 : w2.cell? ⟨w.heap.size, 4, none⟩ = some (.slice A3 p.ch.length c3) := HB2.out 4 _ rfl
        go_wp2_with fail
        clear b0 b1 b2 b3 b4
        refine (kGiven_any p d true _ _ HR2.out HM.out.1 hd).mono ?_
        rintro e w3 ⟨u, rfl, hu, hx⟩
        have HX3 := Lib.hid (HX2.out.trans hx)
        have HR3 := Lib.hid (RP.ext _ _ _ _ hx HR2.out)
        have HB3 := Lib.hid (HB2.out.ext hx)
        clear hx
        obtain ⟨F1, F2, F3, kf1, kf2, kf3, rfl, hF0⟩ := given_slices hu
        have hF : Rs RI w3 (.slice F3 p.ch.length kf3) (p.ch.set d 16) := hF0
        clear hF0
        have hx := (Ext.refl w3).alloc (.cells #[.int .i64 p.d, .slice F1 p.gs.length kf1, .int .i64 p.gl, .slice F2 p.at'.length kf2, .slice F3 p.ch.length kf3] 27)
        have HX4 := Lib.hid (HX3.out.trans hx)
        have HR4 := Lib.hid (RP.ext _ _ _ _ hx HR3.out)
        have HB4 := Lib.hid (HB3.out.ext hx)
        have HF4 := Lib.hid (RP.ext _ _ _ _ hx hu)
        have HFS4 := Lib.hid (Rs.ext RI.ext _ _ _ _ hx hF)
        have HFB4 := Lib.hid (cells_new w3 #[.int .i64 p.d, .slice F1 p.gs.length kf1, .int .i64 p.gl, .slice F2 p.at'.length kf2, .slice F3 p.ch.length kf3] 27)
        clear hx hu hF
        have b0 : (w3.alloc (.cells #[.int .i64 p.d, .slice F1 p.gs.length kf1, .int .i64 p.gl, .slice F2 p.at'.length kf2, .slice F3 p.ch.length kf3] 27)).cell? ⟨w.heap.size, 0, none⟩ = some (.int .i64 p.d) := HB4.out 0 _ rfl
        have b1 : (w3.alloc (.cells #[.int .i64 p.d, .slice F1 p.gs.length kf1, .int .i64 p.gl, .slice F2 p.at'.length kf2, .slice F3 p.ch.length kf3] 27)).cell? ⟨w.heap.size, 1, none⟩ = some (.slice A1 p.gs.length c1) := HB4.out 1 _ rfl
        have b2 : (w3.alloc (.cells #[.int .i64 p.d, .slice F1 p.gs.length kf1, .int .i64 p.gl, .slice F2 p.at'.length kf2, .slice F3 p.ch.length kf3] 27)).cell? ⟨w.heap.size, 2, none⟩ = some (.int .i64 p.gl) := HB4.out 2 _ rfl
        have b3 : (w3.alloc (.cells #[.int .i64 p.d, .slice F1 p.gs.length kf1, .int .i64 p.gl, .slice F2 p.at'.length kf2, .slice F3 p.ch.length kf3] 27)).cell? ⟨w.heap.size, 3, none⟩ = some (.slice A2 p.at'.length c2) := HB4.out 3 _ rfl
        have b4 : (w3.alloc (.cells #[.int .i64 p.d, .slice F1 p.gs.length kf1, .int .i64 p.gl, .slice F2 p.at'.length kf2, .slice F3 p.ch.length kf3] 27)).cell? ⟨w.heap.size, 4, none⟩ = some (.slice A3 p.ch.length c3) := HB4.out 4 _ rfl
        have f0 : (w3.alloc (.cells #[.int .i64 p.d, .slice F1 p.gs.length kf1, .int .i64 p.gl, .slice F2 p.at'.length kf2, .slice F3 p.ch.length kf3] 27)).cell? ⟨w3.heap.size, 0, none⟩ = some (.int .i64 p.d) := HFB4.out 0 _ rfl
        have f1 : (w3.alloc (.cells #[.int .i64 p.d, .slice F1 p.gs.length kf1, .int .i64 p.gl, .slice F2 p.at'.length kf2, .slice F3 p.ch.length kf3] 27)).cell? ⟨w3.heap.size, 1, none⟩ = some (.slice F1 p.gs.length kf1) := HFB4.out 1 _ rfl
        have f2 : (w3.alloc (.cells #[.int .i64 p.d, .slice F1 p.gs.length kf1, .int .i64 p.gl, .slice F2 p.at'.length kf2, .slice F3 p.ch.length kf3] 27)).cell? ⟨w3.heap.size, 2, none⟩ = some (.int .i64 p.gl) := HFB4.out 2 _ rfl
        have f3 : (w3.alloc (.cells #[.int .i64 p.d, .slice F1 p.gs.length kf1, .int .i64 p.gl, .slice F2 p.at'.length kf2, .slice F3 p.ch.length kf3] 27)).cell? ⟨w3.heap.size, 3, none⟩ = some (.slice F2 p.at'.length kf2) := HFB4.out 3 _ rfl
        have f4 : (w3.alloc (.cells #[.int .i64 p.d, .slice F1 p.gs.length kf1, .int .i64 p.gl, .slice F2 p.at'.length kf2, .slice F3 p.ch.length kf3] 27)).cell? ⟨w3.heap.size, 4, none⟩ = some (.slice F3 p.ch.length kf3) := HFB4.out 4 _ rfl
        go_wp2_with fail
        clear b0 b1 b2 b3 b4
        clear f0 f1 f2 f3 f4
        refine (kGiven_any p d false _ _ HR4.out HM.out.1 hd).mono ?_
        rintro e w5 ⟨u, rfl, hu, hx⟩
        have HX5 := Lib.hid (HX4.out.trans hx)
        have HR5 := Lib.hid (RP.ext _ _ _ _ hx HR4.out)
        have HB5 := Lib.hid (HB4.out.ext hx)
        have HFB5 := Lib.hid (HFB4.out.ext hx)
        have HF5 := Lib.hid (RP.ext _ _ _ _ hx HF4.out)
        have HFS5 := Lib.hid (Rs.ext RI.ext _ _ _ _ hx HFS4.out)
        clear hx
        obtain ⟨S1, S2, S3, ks1, ks2, ks3, rfl, hS0⟩ := given_slices hu
        have hS : Rs RI w5 (.slice S3 p.ch.length ks3) (p.ch.set d 0) := hS0
        clear hS0
        have hx := (Ext.refl w5).alloc (.cells #[.int .i64 p.d, .slice S1 p.gs.length ks1, .int .i64 p.gl, .slice S2 p.at'.length ks2, .slice S3 p.ch.length ks3] 27)
        have HX6 := Lib.hid (HX5.out.trans hx)
        have HR6 := Lib.hid (RP.ext _ _ _ _ hx HR5.out)
        have HB6 := Lib.hid (HB5.out.ext hx)
        have HFB6 := Lib.hid (HFB5.out.ext hx)
        have HF6 := Lib.hid (RP.ext _ _ _ _ hx HF5.out)
        have HFS6 := Lib.hid (Rs.ext RI.ext _ _ _ _ hx HFS5.out)
        have HS6 := Lib.hid (RP.ext _ _ _ _ hx hu)
        have HSS6 := Lib.hid (Rs.ext RI.ext _ _ _ _ hx hS)
        have HSB6 := Lib.hid (cells_new w5 #[.int .i64 p.d, .slice S1 p.gs.length ks1, .int .i64 p.gl, .slice S2 p.at'.length ks2, .slice S3 p.ch.length ks3] 27)
        clear hx hu hS
        obtain ⟨fa, rfl, hfc⟩ := set_cell HFS6.out hd
        obtain ⟨sa, rfl, hsc⟩ := set_cell HSS6.out hd
        have hfc' : (w5.alloc (.cells #[.int .i64 p.d, .slice S1 p.gs.length ks1, .int .i64 p.gl, .slice S2 p.at'.length ks2, .slice (some sa) p.ch.length ks3] 27)).cell? (fa.add d) = some (.int .i64 16) := hfc
        have hsc' : (w5.alloc (.cells #[.int .i64 p.d, .slice S1 p.gs.length ks1, .int .i64 p.gl, .slice S2 p.at'.length ks2, .slice (some sa) p.ch.length ks3] 27)).cell? (sa.add d) = some (.int .i64 0) := hsc
        clear hfc hsc
        have b0 : (w5.alloc (.cells #[.int .i64 p.d, .slice S1 p.gs.length ks1, .int .i64 p.gl, .slice S2 p.at'.length ks2, .slice (some sa) p.ch.length ks3] 27)).cell? ⟨w.heap.size, 0, none⟩ = some (.int .i64 p.d) := HB6.out 0 _ rfl
        have b1 : (w5.alloc (.cells #[.int .i64 p.d, .slice S1 p.gs.length ks1, .int .i64 p.gl, .slice S2 p.at'.length ks2, .slice (some sa) p.ch.length ks3] 27)).cell? ⟨w.heap.size, 1, none⟩ = some (.slice A1 p.gs.length c1) := HB6.out 1 _ rfl
        have b2 : (w5.alloc (.cells #[.int .i64 p.d, .slice S1 p.gs.length ks1, .int .i64 p.gl, .slice S2 p.at'.length ks2, .slice (some sa) p.ch.length ks3] 27)).cell? ⟨w.heap.size, 2, none⟩ = some (.int .i64 p.gl) := HB6.out 2 _ rfl
        have b3 : (w5.alloc (.cells #[.int .i64 p.d, .slice S1 p.gs.length ks1, .int .i64 p.gl, .slice S2 p.at'.length ks2, .slice (some sa) p.ch.length ks3] 27)).cell? ⟨w.heap.size, 3, none⟩ = some (.slice A2 p.at'.length c2) := HB6.out 3 _ rfl
        have b4 : (w5.alloc (.cells #[.int .i64 p.d, .slice S1 p.gs.length ks1, .int .i64 p.gl, .slice S2 p.at'.length ks2, .slice (some sa) p.ch.length ks3] 27)).cell? ⟨w.heap.size, 4, none⟩ = some (.slice A3 p.ch.length c3) := HB6.out 4 _ rfl
        have f0 : (w5.alloc (.cells #[.int .i64 p.d, .slice S1 p.gs.length ks1, .int .i64 p.gl, .slice S2 p.at'.length ks2, .slice (some sa) p.ch.length ks3] 27)).cell? ⟨w3.heap.size, 0, none⟩ = some (.int .i64 p.d) := HFB6.out 0 _ rfl
        have f1 : (w5.alloc (.cells #[.int .i64 p.d, .slice S1 p.gs.length ks1, .int .i64 p.gl, .slice S2 p.at'.length ks2, .slice (some sa) p.ch.length ks3] 27)).cell? ⟨w3.heap.size, 1, none⟩ = some (.slice F1 p.gs.length kf1) := HFB6.out 1 _ rfl
        have f2 : (w5.alloc (.cells #[.int .i64 p.d, .slice S1 p.gs.length ks1, .int .i64 p.gl, .slice S2 p.at'.length ks2, .slice (some sa) p.ch.length ks3] 27)).cell? ⟨w3.heap.size, 2, none⟩ = some (.int .i64 p.gl) := HFB6.out 2 _ rfl
        have f3 : (w5.alloc (.cells #[.int .i64 p.d, .slice S1 p.gs.length ks1, .int .i64 p.gl, .slice S2 p.at'.length ks2, .slice (some sa) p.ch.length ks3] 27)).cell? ⟨w3.heap.size, 3, none⟩ = some (.slice F2 p.at'.length kf2) := HFB6.out 3 _ rfl
        have f4 : (w5.alloc (.cells #[.int .i64 p.d, .slice S1 p.gs.length ks1, .int .i64 p.gl, .slice S2 p.at'.length ks2, .slice (some sa) p.ch.length ks3] 27)).cell? ⟨w3.heap.size, 4, none⟩ = some (.slice (some fa) p.ch.length kf3) := HFB6.out 4 _ rfl
        have s0 : (w5.alloc (.cells #[.int .i64 p.d, .slice S1 p.gs.length ks1, .int .i64 p.gl, .slice S2 p.at'.length ks2, .slice (some sa) p.ch.length ks3] 27)).cell? ⟨w5.heap.size, 0, none⟩ = some (.int .i64 p.d) := HSB6.out 0 _ rfl
        have s1 : (w5.alloc (.cells #[.int .i64 p.d, .slice S1 p.gs.length ks1, .int .i64 p.gl, .slice S2 p.at'.length ks2, .slice (some sa) p.ch.length ks3] 27)).cell? ⟨w5.heap.size, 1, none⟩ = some (.slice S1 p.gs.length ks1) := HSB6.out 1 _ rfl
        have s2 : (w5.alloc (.cells #[.int .i64 p.d, .slice S1 p.gs.length ks1, .int .i64 p.gl, .slice S2 p.at'.length ks2, .slice (some sa) p.ch.length ks3] 27)).cell? ⟨w5.heap.size, 2, none⟩ = some (.int .i64 p.gl) := HSB6.out 2 _ rfl
        have s3 : (w5.alloc (.cells #[.int .i64 p.d, .slice S1 p.gs.length ks1, .int .i64 p.gl, .slice S2 p.at'.length ks2, .slice (some sa) p.ch.length ks3] 27)).cell? ⟨w5.heap.size, 3, none⟩ = some (.slice S2 p.at'.length ks2) := HSB6.out 3 _ rfl
        have s4 : (w5.alloc (.cells #[.int .i64 p.d, .slice S1 p.gs.length ks1, .int .i64 p.gl, .slice S2 p.at'.length ks2, .slice (some sa) p.ch.length ks3] 27)).cell? ⟨w5.heap.size, 4, none⟩ = some (.slice (some sa) p.ch.length ks3) := HSB6.out 4 _ rfl
        go_wp2_with fail
        clear b0 b1 b2 b3 b4
        clear f0 f1 f2 f3 f4
        clear s0 s1 s2 s3 s4
        clear hfc' hsc'
        refine (kLoss_any p _ _ (HT.out.ext HX6.out) HR6.out).mono ?_
        rintro e w7 ⟨rfl, hx⟩
        rw [HM.out.2.2.2.1, HM.out.1]
        have HX7 := Lib.hid (HX6.out.trans hx)
        have HR7 := Lib.hid (RP.ext _ _ _ _ hx HR6.out)
        have HB7 := Lib.hid (HB6.out.ext hx)
        have HFB7 := Lib.hid (HFB6.out.ext hx)
        have HSB7 := Lib.hid (HSB6.out.ext hx)
        have HF7 := Lib.hid (RP.ext _ _ _ _ hx HF6.out)
        have HS7 := Lib.hid (RP.ext _ _ _ _ hx HS6.out)
        have HFS7 := Lib.hid (Rs.ext RI.ext _ _ _ _ hx HFS6.out)
        have HSS7 := Lib.hid (Rs.ext RI.ext _ _ _ _ hx HSS6.out)
        clear hx
        have b0 : w7.cell? ⟨w.heap.size, 0, none⟩ = some (.int .i64 p.d) := HB7.out 0 _ rfl
        have b1 : w7.cell? ⟨w.heap.size, 1, none⟩ = some (.slice A1 p.gs.length c1) := HB7.out 1 _ rfl
        have b2 : w7.cell? ⟨w.heap.size, 2, none⟩ = some (.int .i64 p.gl) := HB7.out 2 _ rfl
        have b3 : w7.cell? ⟨w.heap.size, 3, none⟩ = some (.slice A2 p.at'.length c2) := HB7.out 3 _ rfl
        have b4 : w7.cell? ⟨w.heap.size, 4, none⟩ = some (.slice A3 p.ch.length c3) := HB7.out 4 _ rfl
        have f0 : w7.cell? ⟨w3.heap.size, 0, none⟩ = some (.int .i64 p.d) := HFB7.out 0 _ rfl
        have f1 : w7.cell? ⟨w3.heap.size, 1, none⟩ = some (.slice F1 p.gs.length kf1) := HFB7.out 1 _ rfl
        have f2 : w7.cell? ⟨w3.heap.size, 2, none⟩ = some (.int .i64 p.gl) := HFB7.out 2 _ rfl
        have f3 : w7.cell? ⟨w3.heap.size, 3, none⟩ = some (.slice F2 p.at'.length kf2) := HFB7.out 3 _ rfl
        have f4 : w7.cell? ⟨w3.heap.size, 4, none⟩ = some (.slice (some fa) p.ch.length kf3) := HFB7.out 4 _ rfl
        have s0 : w7.cell? ⟨w5.heap.size, 0, none⟩ = some (.int .i64 p.d) := HSB7.out 0 _ rfl
        have s1 : w7.cell? ⟨w5.heap.size, 1, none⟩ = some (.slice S1 p.gs.length ks1) := HSB7.out 1 _ rfl
        have s2 : w7.cell? ⟨w5.heap.size, 2, none⟩ = some (.int .i64 p.gl) := HSB7.out 2 _ rfl
        have s3 : w7.cell? ⟨w5.heap.size, 3, none⟩ = some (.slice S2 p.at'.length ks2) := HSB7.out 3 _ rfl
        have s4 : w7.cell? ⟨w5.heap.size, 4, none⟩ = some (.slice (some sa) p.ch.length ks3) := HSB7.out 4 _ rfl
        go_wp2_with fail
        clear b0 b1 b2 b3 b4
        clear f0 f1 f2 f3 f4
        clear s0 s1 s2 s3 s4
        refine (kLoss_any (Rk.given p d true) _ _ (HT.out.ext HX7.out) HF7.out).mono ?_
        rintro e w8 ⟨rfl, hx⟩
        rw [HM.out.2.2.2.2.1, HM.out.2.1]
        have HX8 := Lib.hid (HX7.out.trans hx)
        have HR8 := Lib.hid (RP.ext _ _ _ _ hx HR7.out)
        have HB8 := Lib.hid (HB7.out.ext hx)
        have HFB8 := Lib.hid (HFB7.out.ext hx)
        have HSB8 := Lib.hid (HSB7.out.ext hx)
        have HF8 := Lib.hid (RP.ext _ _ _ _ hx HF7.out)
        have HS8 := Lib.hid (RP.ext _ _ _ _ hx HS7.out)
        have HFS8 := Lib.hid (Rs.ext RI.ext _ _ _ _ hx HFS7.out)
        have HSS8 := Lib.hid (Rs.ext RI.ext _ _ _ _ hx HSS7.out)
        clear hx
        have b0 : w8.cell? ⟨w.heap.size, 0, none⟩ = some (.int .i64 p.d) := HB8.out 0 _ rfl
        have b1 : w8.cell? ⟨w.heap.size, 1, none⟩ = some (.slice A1 p.gs.length c1) := HB8.out 1 _ rfl
        have b2 : w8.cell? ⟨w.heap.size, 2, none⟩ = some (.int .i64 p.gl) := HB8.out 2 _ rfl
        have b3 : w8.cell? ⟨w.heap.size, 3, none⟩ = some (.slice A2 p.at'.length c2) := HB8.out 3 _ rfl
        have b4 : w8.cell? ⟨w.heap.size, 4, none⟩ = some (.slice A3 p.ch.length c3) := HB8.out 4 _ rfl
        have f0 : w8.cell? ⟨w3.heap.size, 0, none⟩ = some (.int .i64 p.d) := HFB8.out 0 _ rfl
        have f1 : w8.cell? ⟨w3.heap.size, 1, none⟩ = some (.slice F1 p.gs.length kf1) := HFB8.out 1 _ rfl
        have f2 : w8.cell? ⟨w3.heap.size, 2, none⟩ = some (.int .i64 p.gl) := HFB8.out 2 _ rfl
        have f3 : w8.cell? ⟨w3.heap.size, 3, none⟩ = some (.slice F2 p.at'.length kf2) := HFB8.out 3 _ rfl
        have f4 : w8.cell? ⟨w3.heap.size, 4, none⟩ = some (.slice (some fa) p.ch.length kf3) := HFB8.out 4 _ rfl
        have s0 : w8.cell? ⟨w5.heap.size, 0, none⟩ = some (.int .i64 p.d) := HSB8.out 0 _ rfl
        have s1 : w8.cell? ⟨w5.heap.size, 1, none⟩ = some (.slice S1 p.gs.length ks1) := HSB8.out 1 _ rfl
        have s2 : w8.cell? ⟨w5.heap.size, 2, none⟩ = some (.int .i64 p.gl) := HSB8.out 2 _ rfl
        have s3 : w8.cell? ⟨w5.heap.size, 3, none⟩ = some (.slice S2 p.at'.length ks2) := HSB8.out 3 _ rfl
        have s4 : w8.cell? ⟨w5.heap.size, 4, none⟩ = some (.slice (some sa) p.ch.length ks3) := HSB8.out 4 _ rfl
        go_wp2_with fail
        clear b0 b1 b2 b3 b4
        clear f0 f1 f2 f3 f4
        clear s0 s1 s2 s3 s4
        refine (kLoss_any (Rk.given p d false) _ _ (HT.out.ext HX8.out) HS8.out).mono ?_
        rintro e w9 ⟨rfl, hx⟩
        rw [HM.out.2.2.2.2.2.1, HM.out.2.2.1]
        have HX9 := Lib.hid (HX8.out.trans hx)
        have HR9 := Lib.hid (RP.ext _ _ _ _ hx HR8.out)
        have HB9 := Lib.hid (HB8.out.ext hx)
        have HFB9 := Lib.hid (HFB8.out.ext hx)
        have HSB9 := Lib.hid (HSB8.out.ext hx)
        have HF9 := Lib.hid (RP.ext _ _ _ _ hx HF8.out)
        have HS9 := Lib.hid (RP.ext _ _ _ _ hx HS8.out)
        have HFS9 := Lib.hid (Rs.ext RI.ext _ _ _ _ hx HFS8.out)
        have HSS9 := Lib.hid (Rs.ext RI.ext _ _ _ _ hx HSS8.out)
        clear hx
        have b0 : w9.cell? ⟨w.heap.size, 0, none⟩ = some (.int .i64 p.d) := HB9.out 0 _ rfl
        have b1 : w9.cell? ⟨w.heap.size, 1, none⟩ = some (.slice A1 p.gs.length c1) := HB9.out 1 _ rfl
        have b2 : w9.cell? ⟨w.heap.size, 2, none⟩ = some (.int .i64 p.gl) := HB9.out 2 _ rfl
        have b3 : w9.cell? ⟨w.heap.size, 3, none⟩ = some (.slice A2 p.at'.length c2) := HB9.out 3 _ rfl
        have b4 : w9.cell? ⟨w.heap.size, 4, none⟩ = some (.slice A3 p.ch.length c3) := HB9.out 4 _ rfl
        have f0 : w9.cell? ⟨w3.heap.size, 0, none⟩ = some (.int .i64 p.d) := HFB9.out 0 _ rfl
        have f1 : w9.cell? ⟨w3.heap.size, 1, none⟩ = some (.slice F1 p.gs.length kf1) := HFB9.out 1 _ rfl
        have f2 : w9.cell? ⟨w3.heap.size, 2, none⟩ = some (.int .i64 p.gl) := HFB9.out 2 _ rfl
        have f3 : w9.cell? ⟨w3.heap.size, 3, none⟩ = some (.slice F2 p.at'.length kf2) := HFB9.out 3 _ rfl
        have f4 : w9.cell? ⟨w3.heap.size, 4, none⟩ = some (.slice (some fa) p.ch.length kf3) := HFB9.out 4 _ rfl
        have s0 : w9.cell? ⟨w5.heap.size, 0, none⟩ = some (.int .i64 p.d) := HSB9.out 0 _ rfl
        have s1 : w9.cell? ⟨w5.heap.size, 1, none⟩ = some (.slice S1 p.gs.length ks1) := HSB9.out 1 _ rfl
        have s2 : w9.cell? ⟨w5.heap.size, 2, none⟩ = some (.int .i64 p.gl) := HSB9.out 2 _ rfl
        have s3 : w9.cell? ⟨w5.heap.size, 3, none⟩ = some (.slice S2 p.at'.length ks2) := HSB9.out 3 _ rfl
        have s4 : w9.cell? ⟨w5.heap.size, 4, none⟩ = some (.slice (some sa) p.ch.length ks3) := HSB9.out 4 _ rfl
        obtain ⟨ad, u, rfl, hcell, hu⟩ := (RP.chance HR9.out).at hd
        obtain ⟨rfl, hlo, hhi⟩ := hu
        rw [HM.out.2.2.2.2.2.2.2] at hcell hlo hhi
        have hO10 : Owns w9 (w9.alloc (.cells #[.int .i64 p.d, .slice F1 p.gs.length kf1, .int .i64 p.gl, .slice F2 p.at'.length kf2, .slice (some fa) p.ch.length kf3] 27)) [⟨.slice (some ⟨w9.heap.size, 0, none⟩) 5 5, 27, 1, 5, [.int .i64 p.d, .slice F1 p.gs.length kf1, .int .i64 p.gl, .slice F2 p.at'.length kf2, .slice (some fa) p.ch.length kf3]⟩] := (Owns.start w9 (L := []) (by simp)).wider.new 0 #[.int .i64 p.d, .slice F1 p.gs.length kf1, .int .i64 p.gl, .slice F2 p.at'.length kf2, .slice (some fa) p.ch.length kf3] 27 (by simp [maxLen])
        have esz : (w9.alloc (.cells #[.int .i64 p.d, .slice F1 p.gs.length kf1, .int .i64 p.gl, .slice F2 p.at'.length kf2, .slice (some fa) p.ch.length kf3] 27)).heap.size = w9.heap.size + 1 := by simp
        have hO11 : Owns w9 ((w9.alloc (.cells #[.int .i64 p.d, .slice F1 p.gs.length kf1, .int .i64 p.gl, .slice F2 p.at'.length kf2, .slice (some fa) p.ch.length kf3] 27)).alloc (.cells #[] 3)) [⟨.slice (some ⟨w9.heap.size, 0, none⟩) 5 5, 27, 1, 5, [.int .i64 p.d, .slice F1 p.gs.length kf1, .int .i64 p.gl, .slice F2 p.at'.length kf2, .slice (some fa) p.ch.length kf3]⟩, ⟨.slice (some ⟨w9.heap.size + 1, 0, none⟩) 0 0, 3, 1, 0, []⟩] := by
          have h := hO10.wider.new 1 #[] 3 (by simp [maxLen])
          rw [esz] at h
          exact h
        have HO11 := Lib.hid hO11
        have hrdF := (HFS9.out.rdI).ext hO11.ext
        have hnews : ∀ (j : Nat) (u : Value), ((p.ch.set d 16).map (Value.int .i64))[j]? = some u → ((w9.alloc (.cells #[.int .i64 p.d, .slice F1 p.gs.length kf1, .int .i64 p.gl, .slice F2 p.at'.length kf2, .slice (some fa) p.ch.length kf3] 27)).alloc (.cells #[] 3)).cell? (fa.add j) = some u := fun j u hj =>
          (hrdF.all (List.getElem?_eq_some_iff.1 hj).1).trans (by rw [(List.getElem?_eq_some_iff.1 hj).2])
        have hone : ∀ u ∈ (p.ch.set d 16).map (Value.int .i64), u.oneCell' = true := by intro u hu; rw [List.mem_map] at hu; obtain ⟨b, _, rfl⟩ := hu; rfl
        have hnl : ((p.ch.set d 16).map (Value.int .i64)).length = p.ch.length := by rw [List.length_map, List.length_set]
        have HN := Lib.hid (And.intro hnews (And.intro hone hnl))
        clear hO10 hO11 esz hrdF hnews hone hnl
        have hcell9 : w9.cell? (ad.add d) = some (.int .i64 c) := hcell
        clear hcell
        have g4 : ((w9.alloc (.cells #[.int .i64 p.d, .slice F1 p.gs.length kf1, .int .i64 p.gl, .slice F2 p.at'.length kf2, .slice (some fa) p.ch.length kf3] 27)).alloc (.cells #[] 3)).cell? ⟨w3.heap.size, 4, none⟩ = some (.slice (some fa) p.ch.length kf3) := HO11.out.ext.cell f4
        have g4' : (w9.alloc (.cells #[.int .i64 p.d, .slice F1 p.gs.length kf1, .int .i64 p.gl, .slice F2 p.at'.length kf2, .slice (some fa) p.ch.length kf3] 27)).cell? ⟨w3.heap.size, 4, none⟩ = some (.slice (some fa) p.ch.length kf3) := ((Ext.refl w9).alloc _).cell f4
        go_wp2_with (refine wpl_append_all 25 3 rfl (.tmp 114) (.tmp 116) rfl Tryd.underlying25 info_int rfl HO11.out 1 rfl rfl rfl HN.out.2.2 HN.out.1 HN.out.2.1 (by omega) (by omega) (by decide) ?_; intro g cg w12 hO12 _; have k0 : w12.cell? ⟨w9.heap.size, 0, none⟩ = some (.int .i64 p.d) := hO12.cell 0 rfl 0 rfl; have k1 : w12.cell? ⟨w9.heap.size, 1, none⟩ = some (.slice F1 p.gs.length kf1) := hO12.cell 0 rfl 1 rfl; have k2 : w12.cell? ⟨w9.heap.size, 2, none⟩ = some (.int .i64 p.gl) := hO12.cell 0 rfl 2 rfl; have k3 : w12.cell? ⟨w9.heap.size, 3, none⟩ = some (.slice F2 p.at'.length kf2) := hO12.cell 0 rfl 3 rfl; have k4 : w12.cell? ⟨w9.heap.size, 4, none⟩ = some (.slice (some fa) p.ch.length kf3) := hO12.cell 0 rfl 4 rfl; have kf : w12.frozen? ⟨w9.heap.size, 4, none⟩ = false := hO12.frozen 0 rfl 4; have hmk : ([] ++ (p.ch.set d 16).map (Value.int .i64))[d]? = some (.int .i64 16) := (by rw [List.nil_append, List.getElem?_map, List.getElem?_set, if_pos rfl, if_pos hgd]; rfl); have kd : w12.cell? ⟨g, d, none⟩ = some (.int .i64 16) := hO12.cell 1 rfl d hmk; have kdf : w12.frozen? ⟨g, d, none⟩ = false := hO12.frozen 1 rfl d; have far : w9.heap.size ≠ g := own_far hO12; have far' : g ≠ w9.heap.size := fun h => far h.symm; clear hmk)
        have hO13 := (hO12.store 0 rfl 4 (.slice (some ⟨g, 0, none⟩) p.ch.length cg)).store 1 rfl d (.int .i64 c)
        have HO13 := Lib.hid hO13
        clear hO12 hO13 k0 k1 k2 k3 k4 kf kd kdf far far' g4 g4' hcell9
        clear b0 b1 b2 b3 b4
        clear f0 f1 f2 f3 f4
        clear s0 s1 s2 s3 s4
        refine (sanity_any _ ((HT.out.ext HX9.out).ext HO13.out.ext)).mono ?_
        rintro e w14 ⟨rfl, hx⟩
        have hO14 := HO13.out.next hx
        have n0 : w14.cell? ⟨w9.heap.size, 0, none⟩ = some (.int .i64 p.d) := hO14.cell 0 rfl 0 rfl
        have n1 : w14.cell? ⟨w9.heap.size, 1, none⟩ = some (.slice F1 p.gs.length kf1) := hO14.cell 0 rfl 1 rfl
        have n2 : w14.cell? ⟨w9.heap.size, 2, none⟩ = some (.int .i64 p.gl) := hO14.cell 0 rfl 2 rfl
        have n3 : w14.cell? ⟨w9.heap.size, 3, none⟩ = some (.slice F2 p.at'.length kf2) := hO14.cell 0 rfl 3 rfl
        have n4 : w14.cell? ⟨w9.heap.size, 4, none⟩ = some (.slice (some ⟨g, 0, none⟩) p.ch.length cg) := hO14.cell 0 rfl 4 rfl
        have HB14 := Lib.hid (HB9.out.ext hO14.ext)
        have b0 : w14.cell? ⟨w.heap.size, 0, none⟩ = some (.int .i64 p.d) := HB14.out 0 _ rfl
        have b1 : w14.cell? ⟨w.heap.size, 1, none⟩ = some (.slice A1 p.gs.length c1) := HB14.out 1 _ rfl
        have b2 : w14.cell? ⟨w.heap.size, 2, none⟩ = some (.int .i64 p.gl) := HB14.out 2 _ rfl
        have b3 : w14.cell? ⟨w.heap.size, 3, none⟩ = some (.slice A2 p.at'.length c2) := HB14.out 3 _ rfl
        have b4 : w14.cell? ⟨w.heap.size, 4, none⟩ = some (.slice (some ad) p.ch.length c3) := HB14.out 4 _ rfl
        have hrd : Rd w14 (some ⟨g, 0, none⟩) (([] ++ (p.ch.set d 16).map (Value.int .i64)).set d (.int .i64 c)) := hO14.rd 1 rfl
        rw [List.nil_append, ← List.map_set, HM.out.2.2.2.2.2.2.1] at hrd
        have hFp := HF9.out.parts
        have hch : ∀ x ∈ p.ch, -9223372036854775808 ≤ x ∧ x ≤ 9223372036854775807 := fun x hx => by
          have := (Rk.ok_of HM.out.1).ch_ok x hx
          omega
        have hback : RP w14 (.agg #[.int .i64 p.d, .slice F1 p.gs.length kf1, .int .i64 p.gl, .slice F2 p.at'.length kf2, .slice (some ⟨g, 0, none⟩) p.ch.length cg]) p := ⟨_, _, _, rfl, Rs.ext (Rs.ext RI.ext) _ _ _ _ hO14.ext hFp.1, Rs.ext RI.ext _ _ _ _ hO14.ext hFp.2.1, Rs.of_rdI hrd rfl (by omega) hch⟩
        have hp14 := RP.ext _ _ _ _ hO14.ext HR9.out
        have HBK := Lib.hid (And.intro hback (And.intro hp14 (HX9.out.trans hO14.ext)))
        have hq : (16 : Int) * (X : Int) = (P1 : Int) + (P2 : Int) := by omega
        have hq' : ((16 : Int) * (X : Int) == (P1 : Int) + (P2 : Int)) = true := by rw [hq]; exact beq_self_eq_true _
        clear hx hO14 hrd hFp hch hback hp14 HN HO11 HO13
        go_wp2_with fail
        refine (same_any p _ _ _ HBK.out.1 HBK.out.2.1).mono ?_
        rintro e w15 ⟨rfl, hx⟩
        have HX15 := Lib.hid (HBK.out.2.2.trans hx)
        clear hx
        go_wp2_with fail
        go_ret
        exact ⟨rfl, HX15.out⟩
    · have e1 : (Rk.check p != 0) = true := by rw [bne_iff_ne]; exact h0
      go_wp2_with fail
      refine (sanity_any _ (HT.out.ext HX2.out)).mono ?_
      rintro e ws ⟨rfl, hx⟩
      have HXS := Lib.hid (HX2.out.trans hx)
      clear hx
      go_wp2_with fail
      go_ret
      exact ⟨rfl, HXS.out⟩
end Go.Proofs.YtaemjkfmbnhaoaaDoor
