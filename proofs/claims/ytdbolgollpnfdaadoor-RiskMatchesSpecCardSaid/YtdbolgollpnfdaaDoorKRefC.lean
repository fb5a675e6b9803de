/- THE WALKS over the specification of perils: Compare, Millionths. -/
import Derived.Test.YtdbolgollpnfdaaDoorKRefB
namespace Go.Proofs.YtdbolgollpnfdaaDoor
open Go.RowKit
/-- A number or an error that is put into a variable of its own. -/
theorem counted_new {W w1 : World} {L : List LRow} (h : Owns W w1 L) (i : Nat) (n e : Value) :
    Owns W (w1.alloc (.cells #[n, e] 38)) (L.set i (countedRow w1.heap.size n e)) :=
  h.new i #[n, e] 38 (by simp [maxLen])
theorem counted_start2 {w : World} {d gl : Int} {G T C : Value} : Owns (w.alloc (.cells #[.int .i64 d, G, .int .i64 gl, T, C] 27)) ((w.alloc (.cells #[.int .i64 d, G, .int .i64 gl, T, C] 27)).alloc (.cells #[.int .i64 0, .int .i64 0] 38)) [countedRow (w.heap.size + 1) (.int .i64 0) (.int .i64 0), no] := by
  have hst := (Owns.start (w.alloc (.cells #[.int .i64 d, G, .int .i64 gl, T, C] 27)) (L := [no, no]) (by intro r hr; simp [no] at hr; subst hr; simp)).new 0 #[.int .i64 0, .int .i64 0] 38 (by simp [maxLen])
  simpa [countedRow] using hst
theorem dig_q {r M : Nat} : ((r : Int) * 10).tdiv M = ((r * 10 / M : Nat) : Int) := by
  rw [show (r : Int) * 10 = ((r * 10 : Nat) : Int) from by omega, Int.ofNat_tdiv]
theorem dig_r {r M : Nat} : ((r : Int) * 10).tmod M = ((r * 10 % M : Nat) : Int) := by
  rw [show (r : Int) * 10 = ((r * 10 : Nat) : Int) from by omega, Int.ofNat_tmod]
theorem dig_small {x M k : Nat} (hM : 0 < M) (hx : x ≤ M) (hk : k ≤ 6) : (Rk.digTo x M k).1 ≤ 1000000 ∧ (Rk.digTo x M k).2 < M := by
  obtain ⟨h1, h2⟩ := Rk.digTo_law (x := x) hM k
  refine ⟨?_, h2⟩
  have h3 : 10 ^ k ≤ 10 ^ 6 := Nat.pow_le_pow_right (by decide) hk
  have h4 : x * 10 ^ k ≤ M * 1000000 := Nat.mul_le_mul hx h3
  have h5 : (Rk.digTo x M k).1 * M ≤ 1000000 * M := by rw [Nat.mul_comm 1000000]; omega
  exact Nat.le_of_mul_le_mul_right h5 hM
set_option maxRecDepth 100000 in
set_option maxHeartbeats 8000000 in
theorem qMill_any (p : Rk.Pe) (v : Value) (w : World) (hv : RP w v p) (hgn : p.gs.length ≤ 1000000) :
    Calls Tryd.prog 16 #[v] w fun e w' => e = .returned (.agg #[.int .i64 (Rk.mill p : Nat), .int .i64 (Rk.check p)]) ∧ Ext w w' := by
  obtain ⟨G, T, A3, c3, rfl, hl3⟩ := hv.open
  have hx0 := (Ext.refl w).alloc (.cells #[.int .i64 p.d, G, .int .i64 p.gl, T, .slice A3 p.ch.length c3] 27)
  have HRP := Lib.hid (And.intro (RP.ext _ _ _ _ hx0 hv) hx0)
  have HST := Lib.hid (counted_start2 (w := w) (d := p.d) (gl := p.gl) (G := G) (T := T) (C := .slice A3 p.ch.length c3))
  clear hv hx0
  by_cases h0 : Rk.check p = 0
  · have e1 : (Rk.check p != 0) = false := by rw [h0]; rfl
    have ho := Rk.ok_of h0
    have hfew := ho.few
    have hle := Rk.loss_le ho.ch_ok
    have hp16 : (16 : Nat) ^ p.ch.length ≤ 16 ^ 12 := Nat.pow_le_pow_right (by omega) hfew
    have hpos : 0 < (16 : Nat) ^ p.ch.length := Nat.pow_pos (by omega)
    have hm := Rk.mill_digs h0
    have hlo := Rk.lossOf_ok h0
    obtain ⟨X, hX⟩ : ∃ X, Rk.loss p = X := ⟨_, rfl⟩
    obtain ⟨M, hM⟩ : ∃ M, (16 : Nat) ^ p.ch.length = M := ⟨_, rfl⟩
    rw [hX, hM] at hle hm
    rw [hM] at hp16 hpos
    rw [hX] at hlo
    have hM48 : M ≤ 281474976710656 := hp16
    have hMM := hM
    have HM := Lib.hid (And.intro hm (And.intro h0 (And.intro hlo hM)))
    have hne : ((M : Int) == 0) = false := by rw [beq_eq_false_iff_ne]; omega
    have hneM : (M : Int) ≠ 0 := by omega
    have hneM1 : (M : Int) ≠ -1 := by omega
    have hqX : (X : Int).tdiv M = ((X / M : Nat) : Int) := by rw [Int.ofNat_tdiv]
    have hrX : (X : Int).tmod M = ((X % M : Nat) : Int) := by rw [Int.ofNat_tmod]
    have hb0 := dig_small (k := 0) hpos hle (by omega)
    rw [Rk.digTo_zero] at hb0
    obtain ⟨o0, ho0⟩ : ∃ o, X / M = o := ⟨_, rfl⟩
    obtain ⟨r0, hr0⟩ : ∃ r, X % M = r := ⟨_, rfl⟩
    rw [ho0, hr0] at hb0
    rw [ho0] at hqX
    rw [hr0] at hrX
    have HD0 := Lib.hid (show Rk.digTo X M 0 = (o0, r0) by rw [Rk.digTo_zero, ho0, hr0])
    obtain ⟨hb1, hb2⟩ := hb0
    simp only at hb1 hb2
    clear hp16 hM hX hm h0 ho hlo hMM ho0 hr0
    go_enter Tryd.func16, Tryd.ntmps16
    go_wp2_with fail
    refine (qLoss_any p _ _ (RP.ext _ _ _ _ ((Ext.refl _).alloc _) HRP.out.1) hgn).mono ?_
    rintro e w1 ⟨rfl, hx1⟩
    have HO1 := Lib.hid (HST.out.next hx1)
    clear hx1
    rw [HM.out.2.2.1, HM.out.2.1]
    have HO2 := Lib.hid (counted_new HO1.out 1 (.int .i64 (X : Nat)) (.int .i64 0))
    obtain ⟨c0, c1, c2, c3', c4⟩ := pe_cells HO2.out.ext
    go_wp2_with fail
    refine (qPower_any p.ch.length _ hfew).mono ?_
    rintro e w2 ⟨rfl, rfl⟩
    rw [HM.out.2.2.2]
    go_wp2_with fail
    go_loop [5, 6, 7] (fun vo vr vk => ∃ k o r : Nat, k ≤ 6 ∧ vk = .int .i64 k ∧ vo = .int .i64 o ∧ vr = .int .i64 r ∧ o ≤ 1000000 ∧ r < M ∧ Hid (Rk.digTo X M k = (o, r))) (fun _ _ vk => 6 - (intOf vk).toNat)
    case atStart => exact ⟨0, o0, r0, by omega, rfl, rfl, rfl, hb1, hb2, HD0⟩
    case round =>
      obtain ⟨k, o, r, hk, rfl, rfl, rfl, hbo, hbr, HD⟩ := hrel
      by_cases hlt : k < 6
      · have hb := dig_small (x := X) (k := k + 1) hpos hle (by omega)
        rw [Rk.digTo_next, HD.out] at hb
        simp only at hb
        have hq := dig_q (r := r) (M := M)
        have hr := dig_r (r := r) (M := M)
        have hn := Rk.digTo_next X M k
        rw [HD.out] at hn
        simp only at hn
        obtain ⟨q, hqq⟩ : ∃ q, r * 10 / M = q := ⟨_, rfl⟩
        obtain ⟨s, hss⟩ : ∃ s, r * 10 % M = s := ⟨_, rfl⟩
        rw [hqq, hss] at hb hn
        rw [hqq] at hq
        rw [hss] at hr
        obtain ⟨hb3, hb4⟩ := hb
        have HN := Lib.hid hn
        clear hn hqq hss
        go_wp2_with fail
        go_round
        case rel => exact ⟨k + 1, o * 10 + q, s, by omega, by go_num, by go_num, by go_num, hb3, hb4, HN⟩
        case measure => simp [intOf]; omega
      · obtain rfl : k = 6 := by omega
        have hdg : Rk.mill p = if 0 < r then o + 1 else o := by rw [HM.out.1, Rk.digs, HD.out]
        by_cases hr0 : 0 < r
        · rw [if_pos hr0] at hdg
          have HG := Lib.hid hdg
          clear hdg
          have hc3 : (w1.alloc (.cells #[.int .i64 (X : Nat), .int .i64 0] 38)).cell? ⟨w.heap.size + 1, 0, none⟩ = some (.int .i64 0) := HO2.out.cell 0 rfl 0 rfl
          have hc4 : (w1.alloc (.cells #[.int .i64 (X : Nat), .int .i64 0] 38)).cell? ⟨w.heap.size + 1, 1, none⟩ = some (.int .i64 0) := HO2.out.cell 0 rfl 1 rfl
          have hf3 : (w1.alloc (.cells #[.int .i64 (X : Nat), .int .i64 0] 38)).frozen? ⟨w.heap.size + 1, 0, none⟩ = false := HO2.out.frozen 0 rfl 0
          have hf4 : (w1.alloc (.cells #[.int .i64 (X : Nat), .int .i64 0] 38)).frozen? ⟨w.heap.size + 1, 1, none⟩ = false := HO2.out.frozen 0 rfl 1
          go_wp2_with fail
          have hO7 := (HO2.out.store 0 rfl 0 (.int .i64 ((o : Int) + 1))).store 0 rfl 1 (.int .i64 0)
          exact bodyPost_ret (v := .agg #[.int .i64 ((o : Int) + 1), .int .i64 0]) (by simp [results, Tryd.results16, go_sem, hc3, hc4]) rfl ⟨by rw [HG.out, HM.out.2.1]; rfl, HRP.out.2.trans hO7.ext⟩
        · rw [if_neg hr0] at hdg
          have HG := Lib.hid hdg
          clear hdg
          have hc3 : (w1.alloc (.cells #[.int .i64 (X : Nat), .int .i64 0] 38)).cell? ⟨w.heap.size + 1, 0, none⟩ = some (.int .i64 0) := HO2.out.cell 0 rfl 0 rfl
          have hc4 : (w1.alloc (.cells #[.int .i64 (X : Nat), .int .i64 0] 38)).cell? ⟨w.heap.size + 1, 1, none⟩ = some (.int .i64 0) := HO2.out.cell 0 rfl 1 rfl
          have hf3 : (w1.alloc (.cells #[.int .i64 (X : Nat), .int .i64 0] 38)).frozen? ⟨w.heap.size + 1, 0, none⟩ = false := HO2.out.frozen 0 rfl 0
          have hf4 : (w1.alloc (.cells #[.int .i64 (X : Nat), .int .i64 0] 38)).frozen? ⟨w.heap.size + 1, 1, none⟩ = false := HO2.out.frozen 0 rfl 1
          go_wp2_with fail
          have hO7 := (HO2.out.store 0 rfl 0 (.int .i64 (o : Nat))).store 0 rfl 1 (.int .i64 0)
          exact bodyPost_ret (v := .agg #[.int .i64 (o : Nat), .int .i64 0]) (by simp [results, Tryd.results16, go_sem, hc3, hc4]) rfl ⟨by rw [HG.out, HM.out.2.1], HRP.out.2.trans hO7.ext⟩
  · have e1 : (Rk.check p != 0) = true := by rw [bne_iff_ne]; exact h0
    have HP := Lib.hid (And.intro (Rk.mill_no h0) (Rk.lossOf_no h0))
    clear h0
    go_enter Tryd.func16, Tryd.ntmps16
    go_wp2_with fail
    refine (qLoss_any p _ _ (RP.ext _ _ _ _ ((Ext.refl _).alloc _) HRP.out.1) hgn).mono ?_
    rintro e w1 ⟨rfl, hx1⟩
    have HO1 := Lib.hid (HST.out.next hx1)
    clear hx1
    rw [HP.out.2]
    have HO2 := Lib.hid (counted_new HO1.out 1 (.int .i64 0) (.int .i64 (Rk.check p)))
    have hc3 : (w1.alloc (.cells #[.int .i64 0, .int .i64 (Rk.check p)] 38)).cell? ⟨w.heap.size + 1, 0, none⟩ = some (.int .i64 0) := HO2.out.cell 0 rfl 0 rfl
    have hc4 : (w1.alloc (.cells #[.int .i64 0, .int .i64 (Rk.check p)] 38)).cell? ⟨w.heap.size + 1, 1, none⟩ = some (.int .i64 0) := HO2.out.cell 0 rfl 1 rfl
    have hf3 : (w1.alloc (.cells #[.int .i64 0, .int .i64 (Rk.check p)] 38)).frozen? ⟨w.heap.size + 1, 0, none⟩ = false := HO2.out.frozen 0 rfl 0
    have hf4 : (w1.alloc (.cells #[.int .i64 0, .int .i64 (Rk.check p)] 38)).frozen? ⟨w.heap.size + 1, 1, none⟩ = false := HO2.out.frozen 0 rfl 1
    go_wp2_with fail
    have hO7 := (HO2.out.store 0 rfl 0 (.int .i64 0)).store 0 rfl 1 (.int .i64 (Rk.check p))
    exact bodyPost_ret (v := .agg #[.int .i64 0, .int .i64 (Rk.check p)]) (by simp [results, Tryd.results16, go_sem, hc3, hc4]) rfl ⟨by rw [HP.out.1]; rfl, HRP.out.2.trans hO7.ext⟩
/-- CMP -/
theorem qPower_int {z : Int} {n u : Nat} (hz : z = n) (hn : n ≤ 12) (hu : 16 ^ n = u) (w : World) :
    Calls Tryd.prog 18 #[.int .i64 z] w fun e w' => e = .returned (.int .i64 (u : Int)) ∧ w = w' := by
  rw [hz, ← hu]
  exact qPower_any n w hn
theorem cmp_r {x n m d z : Nat} (hx : x ≤ 16 ^ n) (hm : n + m ≤ 12) (hd : 16 ^ m = d) (hz : x * 16 ^ m = z) : wrap64 ((x : Int) * (d : Int)) = (z : Int) := by
  have h1 : x * 16 ^ m ≤ 16 ^ n * 16 ^ m := Nat.mul_le_mul_right _ hx
  rw [← Nat.pow_add] at h1
  have h2 : 16 ^ (n + m) ≤ 16 ^ 12 := Nat.pow_le_pow_right (by omega) hm
  have h3 : x * 16 ^ m < 9223372036854775808 := Nat.lt_of_le_of_lt (Nat.le_trans h1 h2) (by decide)
  rw [← hd, ← Int.natCast_mul, ← hz]
  exact wrap_nat _ h3
theorem two_start {w : World} {o1 o2 : Obj} : Owns w (((w.alloc o1).alloc o2).alloc (.cells #[.int .i64 0, .int .i64 0] 38)) [countedRow (w.heap.size + 2) (.int .i64 0) (.int .i64 0), no, no] := by
  have hst := (((Owns.start w (L := [no, no, no]) (by intro r hr; simp [no] at hr; subst hr; simp)).alloc o1).alloc o2).new 0 #[.int .i64 0, .int .i64 0] 38 (by simp [maxLen])
  simpa [countedRow] using hst
/-- The two boxes of two perils. -/
structure Two (w : World) (p q : Rk.Pe) (G T G' T' : Value) (A3 A4 : Option Addr) (a b c3 c4 : Nat) (w2 : World) : Prop where
  a0 : w2.cell? ⟨w.heap.size, 0, none⟩ = some (.int .i64 p.d)
  a1 : w2.cell? ⟨w.heap.size, 1, none⟩ = some G
  a2 : w2.cell? ⟨w.heap.size, 2, none⟩ = some (.int .i64 p.gl)
  a3 : w2.cell? ⟨w.heap.size, 3, none⟩ = some T
  a4 : w2.cell? ⟨w.heap.size, 4, none⟩ = some (.slice A3 a c3)
  b0 : w2.cell? ⟨w.heap.size + 1, 0, none⟩ = some (.int .i64 q.d)
  b1 : w2.cell? ⟨w.heap.size + 1, 1, none⟩ = some G'
  b2 : w2.cell? ⟨w.heap.size + 1, 2, none⟩ = some (.int .i64 q.gl)
  b3 : w2.cell? ⟨w.heap.size + 1, 3, none⟩ = some T'
  b4 : w2.cell? ⟨w.heap.size + 1, 4, none⟩ = some (.slice A4 b c4)
theorem Two.ext {w w2 w3 : World} {p q : Rk.Pe} {G T G' T' : Value} {A3 A4 : Option Addr} {a b c3 c4 : Nat} (h : Two w p q G T G' T' A3 A4 a b c3 c4 w2) (hx : Ext w2 w3) : Two w p q G T G' T' A3 A4 a b c3 c4 w3 :=
  ⟨hx.cell h.a0, hx.cell h.a1, hx.cell h.a2, hx.cell h.a3, hx.cell h.a4, hx.cell h.b0, hx.cell h.b1, hx.cell h.b2, hx.cell h.b3, hx.cell h.b4⟩
theorem Two.start {w : World} {p q : Rk.Pe} {G T G' T' : Value} {A3 A4 : Option Addr} {a b c3 c4 : Nat} :
    Two w p q G T G' T' A3 A4 a b c3 c4 ((w.alloc (.cells #[.int .i64 p.d, G, .int .i64 p.gl, T, .slice A3 a c3] 27)).alloc (.cells #[.int .i64 q.d, G', .int .i64 q.gl, T', .slice A4 b c4] 27)) := by
  constructor <;> go_simp
set_option maxRecDepth 100000 in
set_option maxHeartbeats 8000000 in
theorem qCmp_any (p q : Rk.Pe) (v u : Value) (w : World) (hv : RP w v p) (hu : RP w u q) (hgn : p.gs.length ≤ 1000000) (hgm : q.gs.length ≤ 1000000) :
    Calls Tryd.prog 15 #[v, u] w fun e w' => e = .returned (.agg #[.int .i64 (Rk.cmp p q).1, .int .i64 (Rk.cmp p q).2]) ∧ Ext w w' := by
  obtain ⟨G, T, A3, c3, rfl, hl3⟩ := hv.open
  obtain ⟨G', T', A4, c4, rfl, hl4⟩ := hu.open
  have hx0 := ((Ext.refl w).alloc (.cells #[.int .i64 p.d, G, .int .i64 p.gl, T, .slice A3 p.ch.length c3] 27)).alloc (.cells #[.int .i64 q.d, G', .int .i64 q.gl, T', .slice A4 q.ch.length c4] 27)
  have HRP := Lib.hid (And.intro (RP.ext _ _ _ _ hx0 hv) (And.intro (RP.ext _ _ _ _ hx0 hu) hx0))
  have HST := Lib.hid (two_start (w := w) (o1 := .cells #[.int .i64 p.d, G, .int .i64 p.gl, T, .slice A3 p.ch.length c3] 27) (o2 := .cells #[.int .i64 q.d, G', .int .i64 q.gl, T', .slice A4 q.ch.length c4] 27))
  have HTW := Lib.hid (Two.start (w := w) (p := p) (q := q) (G := G) (T := T) (G' := G') (T' := T') (A3 := A3) (A4 := A4) (a := p.ch.length) (b := q.ch.length) (c3 := c3) (c4 := c4))
  clear hv hu hx0
  by_cases h0 : Rk.check p = 0
  · have e1 : (Rk.check p != 0) = false := by rw [h0]; rfl
    by_cases h1 : Rk.check q = 0
    · have e2 : (Rk.check q != 0) = false := by rw [h1]; rfl
      have ho := Rk.ok_of h0
      have ho' := Rk.ok_of h1
      have hfew := ho.few
      have hfew' := ho'.few
      have hle := Rk.loss_le ho.ch_ok
      have hle' := Rk.loss_le ho'.ch_ok
      have hm := Rk.cmp_ok h0 h1
      have hlo := Rk.lossOf_ok h0
      have hlo' := Rk.lossOf_ok h1
      obtain ⟨X, hX⟩ : ∃ X, Rk.loss p = X := ⟨_, rfl⟩
      obtain ⟨Y, hY⟩ : ∃ Y, Rk.loss q = Y := ⟨_, rfl⟩
      rw [hX] at hle hlo hm
      rw [hY] at hle' hlo' hm
      obtain ⟨a, ha⟩ : ∃ a, p.ch.length = a := ⟨_, rfl⟩
      obtain ⟨b, hb⟩ : ∃ b, q.ch.length = b := ⟨_, rfl⟩
      rw [ha, hb] at hm HTW HST
      rw [ha] at hle hfew
      rw [hb] at hle' hfew'
      rw [ha, hb] at HRP
      rw [ha, hb]
      have HM := Lib.hid (And.intro hm (And.intro h0 (And.intro h1 (And.intro hlo hlo'))))
      clear h0 h1 hlo hlo' hX hY ho ho' ha hb hl3 hl4
      by_cases hab : a < b
      · obtain ⟨D, hD⟩ : ∃ D, 16 ^ (b - a) = D := ⟨_, rfl⟩
        obtain ⟨Z, hZ⟩ : ∃ Z, X * 16 ^ (b - a) = Z := ⟨_, rfl⟩
        have hz := cmp_r hle (by omega) hD hZ
        rw [show a - b = 0 from by omega, Nat.pow_zero, Nat.mul_one, hZ] at hm
        have hPx : ∀ w, Calls Tryd.prog 18 #[.int .i64 ((b : Int) - a)] w fun e w' => e = .returned (.int .i64 (D : Int)) ∧ w = w' := qPower_int (by omega) (by omega) hD
        have hPy : ∀ w, Calls Tryd.prog 18 #[.int .i64 0] w fun e w' => e = .returned (.int .i64 ((1 : Nat) : Int)) ∧ w = w' := qPower_int (n := 0) (by omega) (by omega) rfl
        have hab2 : (a : Int) < (b : Int) := by omega
        have hle9 : Y ≤ 281474976710656 := Nat.le_trans hle' (Nat.pow_le_pow_right (by omega) (show b ≤ 12 by omega))
        have hle8 : Z ≤ 281474976710656 := by rw [← hZ]; exact Nat.le_trans (Nat.mul_le_mul_right _ hle) (by rw [← Nat.pow_add, show a + (b - a) = b by omega]; exact Nat.pow_le_pow_right (by omega) (show b ≤ 12 by omega))
        have HMM := Lib.hid hm
        have HPX := Lib.hid (And.intro hPx hPy)
        clear hm hZ hD hle hle' hPx hPy
        go_enter Tryd.func15, Tryd.ntmps15
        go_wp2_with fail
        refine (qLoss_any p _ _ (RP.ext _ _ _ _ ((Ext.refl _).alloc _) HRP.out.1) hgn).mono ?_
        rintro e w1 ⟨rfl, hx1⟩
        have HO1 := Lib.hid (HST.out.next hx1)
        have HT1 := Lib.hid (HTW.out.ext (((Ext.refl _).alloc _).trans hx1))
        have HR1 := Lib.hid (RP.ext _ _ _ _ (((Ext.refl _).alloc _).trans hx1) HRP.out.2.1)
        clear hx1
        rw [HM.out.2.2.2.1, HM.out.2.1]
        have HO2 := Lib.hid (counted_new HO1.out 1 (.int .i64 (X : Nat)) (.int .i64 0))
        have HT2 := Lib.hid (HT1.out.ext ((Ext.refl _).alloc (.cells #[.int .i64 (X : Nat), .int .i64 0] 38)))
        have b0 := HT2.out.b0
        have b1 := HT2.out.b1
        have b2 := HT2.out.b2
        have b3 := HT2.out.b3
        have b4 := HT2.out.b4
        go_wp2_with fail
        clear b0 b1 b2 b3 b4
        refine (qLoss_any q _ _ (RP.ext _ _ _ _ ((Ext.refl _).alloc _) HR1.out) hgm).mono ?_
        rintro e w2 ⟨rfl, hx2⟩
        have HO3 := Lib.hid (HO2.out.next hx2)
        have HT3 := Lib.hid (HT2.out.ext hx2)
        clear hx2
        rw [HM.out.2.2.2.2, HM.out.2.2.1]
        have HO4 := Lib.hid (counted_new HO3.out 2 (.int .i64 (Y : Nat)) (.int .i64 0))
        have HT4 := Lib.hid (HT3.out.ext ((Ext.refl _).alloc (.cells #[.int .i64 (Y : Nat), .int .i64 0] 38)))
        have a4 := HT4.out.a4
        have b4 := HT4.out.b4
        have x0 : (w2.alloc (.cells #[.int .i64 (Y : Nat), .int .i64 0] 38)).cell? ⟨w1.heap.size, 0, none⟩ = some (.int .i64 (X : Nat)) := HO4.out.cell 1 rfl 0 rfl
        have y0 : (w2.alloc (.cells #[.int .i64 (Y : Nat), .int .i64 0] 38)).cell? ⟨w2.heap.size, 0, none⟩ = some (.int .i64 (Y : Nat)) := HO4.out.cell 2 rfl 0 rfl
        have hc3 : (w2.alloc (.cells #[.int .i64 (Y : Nat), .int .i64 0] 38)).cell? ⟨w.heap.size + 2, 0, none⟩ = some (.int .i64 0) := HO4.out.cell 0 rfl 0 rfl
        have hc4 : (w2.alloc (.cells #[.int .i64 (Y : Nat), .int .i64 0] 38)).cell? ⟨w.heap.size + 2, 1, none⟩ = some (.int .i64 0) := HO4.out.cell 0 rfl 1 rfl
        have hf3 : (w2.alloc (.cells #[.int .i64 (Y : Nat), .int .i64 0] 38)).frozen? ⟨w.heap.size + 2, 0, none⟩ = false := HO4.out.frozen 0 rfl 0
        have hf4 : (w2.alloc (.cells #[.int .i64 (Y : Nat), .int .i64 0] 38)).frozen? ⟨w.heap.size + 2, 1, none⟩ = false := HO4.out.frozen 0 rfl 1
        go_wp2_with fail
        go_quiet ((go_at_call 18; exact quiet_left (HPX.out.1 _)))
        go_wp2_with fail
        go_quiet ((go_at_call 18; first | exact quiet_left (HPX.out.2 _) | exact quiet_add_left (HPX.out.2 _)))
        rcases Nat.lt_trichotomy Z Y with h | h | h
        · have hsg : Rk.sign Z Y = -1 := if_pos h
          have HS := Lib.hid hsg
          clear hsg
          go_wp2_with fail
          exact bodyPost_ret (v := .agg #[.int .i64 (-1), .int .i64 0]) (by simp [results, Tryd.results15, go_sem, hc3, hc4]) rfl ⟨by rw [HMM.out, HS.out], Owns.ext (Owns.store (Owns.store (Owns.drewN HO4.out _) 0 rfl 0 _) 0 rfl 1 _)⟩
        · have hsg : Rk.sign Z Y = 0 := by unfold Rk.sign; rw [if_neg (by omega), if_neg (by omega)]
          have HS := Lib.hid hsg
          subst h
          clear hsg
          go_wp2_with fail
          exact bodyPost_ret (v := .agg #[.int .i64 0, .int .i64 0]) (by simp [results, Tryd.results15, go_sem, hc3, hc4]) rfl ⟨by rw [HMM.out, HS.out], Owns.ext (Owns.store (Owns.store (Owns.drewN HO4.out _) 0 rfl 0 _) 0 rfl 1 _)⟩
        · have hsg : Rk.sign Z Y = 1 := by unfold Rk.sign; rw [if_neg (by omega), if_pos h]
          have HS := Lib.hid hsg
          clear hsg
          go_wp2_with fail
          exact bodyPost_ret (v := .agg #[.int .i64 1, .int .i64 0]) (by simp [results, Tryd.results15, go_sem, hc3, hc4]) rfl ⟨by rw [HMM.out, HS.out], Owns.ext (Owns.store (Owns.store (Owns.drewN HO4.out _) 0 rfl 0 _) 0 rfl 1 _)⟩
      · obtain ⟨D, hD⟩ : ∃ D, 16 ^ (a - b) = D := ⟨_, rfl⟩
        obtain ⟨Z, hZ⟩ : ∃ Z, Y * 16 ^ (a - b) = Z := ⟨_, rfl⟩
        have hz := cmp_r hle' (by omega) hD hZ
        rw [show b - a = 0 from by omega, Nat.pow_zero, Nat.mul_one, hZ] at hm
        have hPx : ∀ w, Calls Tryd.prog 18 #[.int .i64 0] w fun e w' => e = .returned (.int .i64 ((1 : Nat) : Int)) ∧ w = w' := qPower_int (n := 0) (by omega) (by omega) rfl
        have hPy : ∀ w, Calls Tryd.prog 18 #[.int .i64 ((a : Int) - b)] w fun e w' => e = .returned (.int .i64 (D : Int)) ∧ w = w' := qPower_int (by omega) (by omega) hD
        have hab2 : ¬ (a : Int) < (b : Int) := by omega
        have hle9 : X ≤ 281474976710656 := Nat.le_trans hle (Nat.pow_le_pow_right (by omega) (show a ≤ 12 by omega))
        have hle8 : Z ≤ 281474976710656 := by rw [← hZ]; exact Nat.le_trans (Nat.mul_le_mul_right _ hle') (by rw [← Nat.pow_add, show b + (a - b) = a by omega]; exact Nat.pow_le_pow_right (by omega) (show a ≤ 12 by omega))
        have HMM := Lib.hid hm
        have HPX := Lib.hid (And.intro hPx hPy)
        clear hm hZ hD hle hle' hPx hPy
        go_enter Tryd.func15, Tryd.ntmps15
        go_wp2_with fail
        refine (qLoss_any p _ _ (RP.ext _ _ _ _ ((Ext.refl _).alloc _) HRP.out.1) hgn).mono ?_
        rintro e w1 ⟨rfl, hx1⟩
        have HO1 := Lib.hid (HST.out.next hx1)
        have HT1 := Lib.hid (HTW.out.ext (((Ext.refl _).alloc _).trans hx1))
        have HR1 := Lib.hid (RP.ext _ _ _ _ (((Ext.refl _).alloc _).trans hx1) HRP.out.2.1)
        clear hx1
        rw [HM.out.2.2.2.1, HM.out.2.1]
        have HO2 := Lib.hid (counted_new HO1.out 1 (.int .i64 (X : Nat)) (.int .i64 0))
        have HT2 := Lib.hid (HT1.out.ext ((Ext.refl _).alloc (.cells #[.int .i64 (X : Nat), .int .i64 0] 38)))
        have b0 := HT2.out.b0
        have b1 := HT2.out.b1
        have b2 := HT2.out.b2
        have b3 := HT2.out.b3
        have b4 := HT2.out.b4
        go_wp2_with fail
        clear b0 b1 b2 b3 b4
        refine (qLoss_any q _ _ (RP.ext _ _ _ _ ((Ext.refl _).alloc _) HR1.out) hgm).mono ?_
        rintro e w2 ⟨rfl, hx2⟩
        have HO3 := Lib.hid (HO2.out.next hx2)
        have HT3 := Lib.hid (HT2.out.ext hx2)
        clear hx2
        rw [HM.out.2.2.2.2, HM.out.2.2.1]
        have HO4 := Lib.hid (counted_new HO3.out 2 (.int .i64 (Y : Nat)) (.int .i64 0))
        have HT4 := Lib.hid (HT3.out.ext ((Ext.refl _).alloc (.cells #[.int .i64 (Y : Nat), .int .i64 0] 38)))
        have a4 := HT4.out.a4
        have b4 := HT4.out.b4
        have x0 : (w2.alloc (.cells #[.int .i64 (Y : Nat), .int .i64 0] 38)).cell? ⟨w1.heap.size, 0, none⟩ = some (.int .i64 (X : Nat)) := HO4.out.cell 1 rfl 0 rfl
        have y0 : (w2.alloc (.cells #[.int .i64 (Y : Nat), .int .i64 0] 38)).cell? ⟨w2.heap.size, 0, none⟩ = some (.int .i64 (Y : Nat)) := HO4.out.cell 2 rfl 0 rfl
        have hc3 : (w2.alloc (.cells #[.int .i64 (Y : Nat), .int .i64 0] 38)).cell? ⟨w.heap.size + 2, 0, none⟩ = some (.int .i64 0) := HO4.out.cell 0 rfl 0 rfl
        have hc4 : (w2.alloc (.cells #[.int .i64 (Y : Nat), .int .i64 0] 38)).cell? ⟨w.heap.size + 2, 1, none⟩ = some (.int .i64 0) := HO4.out.cell 0 rfl 1 rfl
        have hf3 : (w2.alloc (.cells #[.int .i64 (Y : Nat), .int .i64 0] 38)).frozen? ⟨w.heap.size + 2, 0, none⟩ = false := HO4.out.frozen 0 rfl 0
        have hf4 : (w2.alloc (.cells #[.int .i64 (Y : Nat), .int .i64 0] 38)).frozen? ⟨w.heap.size + 2, 1, none⟩ = false := HO4.out.frozen 0 rfl 1
        go_wp2_with fail
        go_quiet ((go_at_call 18; exact quiet_left (HPX.out.1 _)))
        go_wp2_with fail
        go_quiet ((go_at_call 18; first | exact quiet_left (HPX.out.2 _) | exact quiet_add_left (HPX.out.2 _)))
        rcases Nat.lt_trichotomy X Z with h | h | h
        · have hsg : Rk.sign X Z = -1 := if_pos h
          have HS := Lib.hid hsg
          clear hsg
          go_wp2_with fail
          exact bodyPost_ret (v := .agg #[.int .i64 (-1), .int .i64 0]) (by simp [results, Tryd.results15, go_sem, hc3, hc4]) rfl ⟨by rw [HMM.out, HS.out], Owns.ext (Owns.store (Owns.store (Owns.drewN HO4.out _) 0 rfl 0 _) 0 rfl 1 _)⟩
        · have hsg : Rk.sign X Z = 0 := by unfold Rk.sign; rw [if_neg (by omega), if_neg (by omega)]
          have HS := Lib.hid hsg
          subst h
          clear hsg
          go_wp2_with fail
          exact bodyPost_ret (v := .agg #[.int .i64 0, .int .i64 0]) (by simp [results, Tryd.results15, go_sem, hc3, hc4]) rfl ⟨by rw [HMM.out, HS.out], Owns.ext (Owns.store (Owns.store (Owns.drewN HO4.out _) 0 rfl 0 _) 0 rfl 1 _)⟩
        · have hsg : Rk.sign X Z = 1 := by unfold Rk.sign; rw [if_neg (by omega), if_pos h]
          have HS := Lib.hid hsg
          clear hsg
          go_wp2_with fail
          exact bodyPost_ret (v := .agg #[.int .i64 1, .int .i64 0]) (by simp [results, Tryd.results15, go_sem, hc3, hc4]) rfl ⟨by rw [HMM.out, HS.out], Owns.ext (Owns.store (Owns.store (Owns.drewN HO4.out _) 0 rfl 0 _) 0 rfl 1 _)⟩
    · have e2 : (Rk.check q != 0) = true := by rw [bne_iff_ne]; exact h1
      have HP := Lib.hid (And.intro (Rk.cmp_no2 h0 h1) (And.intro h0 (Rk.lossOf_no h1)))
      obtain ⟨X, hX⟩ : ∃ X, Rk.lossOf p = X := ⟨_, rfl⟩
      have HM := Lib.hid hX
      clear h0 h1 hX
      go_enter Tryd.func15, Tryd.ntmps15
      go_wp2_with fail
      refine (qLoss_any p _ _ (RP.ext _ _ _ _ ((Ext.refl _).alloc _) HRP.out.1) hgn).mono ?_
      rintro e w1 ⟨rfl, hx1⟩
      have HO1 := Lib.hid (HST.out.next hx1)
      have HT1 := Lib.hid (HTW.out.ext (((Ext.refl _).alloc _).trans hx1))
      have HR1 := Lib.hid (RP.ext _ _ _ _ (((Ext.refl _).alloc _).trans hx1) HRP.out.2.1)
      clear hx1
      rw [HM.out, HP.out.2.1]
      have HO2 := Lib.hid (counted_new HO1.out 1 (.int .i64 (X : Nat)) (.int .i64 0))
      have HT2 := Lib.hid (HT1.out.ext ((Ext.refl _).alloc (.cells #[.int .i64 (X : Nat), .int .i64 0] 38)))
      have b0 := HT2.out.b0
      have b1 := HT2.out.b1
      have b2 := HT2.out.b2
      have b3 := HT2.out.b3
      have b4 := HT2.out.b4
      go_wp2_with fail
      clear b0 b1 b2 b3 b4
      refine (qLoss_any q _ _ (RP.ext _ _ _ _ ((Ext.refl _).alloc _) HR1.out) hgm).mono ?_
      rintro e w2 ⟨rfl, hx2⟩
      have HO3 := Lib.hid (HO2.out.next hx2)
      clear hx2
      rw [HP.out.2.2]
      have HO4 := Lib.hid (counted_new HO3.out 2 (.int .i64 0) (.int .i64 (Rk.check q)))
      have hc3 : (w2.alloc (.cells #[.int .i64 0, .int .i64 (Rk.check q)] 38)).cell? ⟨w.heap.size + 2, 0, none⟩ = some (.int .i64 0) := HO4.out.cell 0 rfl 0 rfl
      have hc4 : (w2.alloc (.cells #[.int .i64 0, .int .i64 (Rk.check q)] 38)).cell? ⟨w.heap.size + 2, 1, none⟩ = some (.int .i64 0) := HO4.out.cell 0 rfl 1 rfl
      have hf3 : (w2.alloc (.cells #[.int .i64 0, .int .i64 (Rk.check q)] 38)).frozen? ⟨w.heap.size + 2, 0, none⟩ = false := HO4.out.frozen 0 rfl 0
      have hf4 : (w2.alloc (.cells #[.int .i64 0, .int .i64 (Rk.check q)] 38)).frozen? ⟨w.heap.size + 2, 1, none⟩ = false := HO4.out.frozen 0 rfl 1
      go_wp2_with fail
      have hO7 := (HO4.out.store 0 rfl 0 (.int .i64 0)).store 0 rfl 1 (.int .i64 (Rk.check q))
      exact bodyPost_ret (v := .agg #[.int .i64 0, .int .i64 (Rk.check q)]) (by simp [results, Tryd.results15, go_sem, hc3, hc4]) rfl ⟨by rw [HP.out.1], hO7.ext⟩
  · have e1 : (Rk.check p != 0) = true := by rw [bne_iff_ne]; exact h0
    have HP := Lib.hid (And.intro (Rk.cmp_no (q := q) h0) (Rk.lossOf_no h0))
    clear h0
    go_enter Tryd.func15, Tryd.ntmps15
    go_wp2_with fail
    refine (qLoss_any p _ _ (RP.ext _ _ _ _ ((Ext.refl _).alloc _) HRP.out.1) hgn).mono ?_
    rintro e w1 ⟨rfl, hx1⟩
    have HO1 := Lib.hid (HST.out.next hx1)
    clear hx1
    rw [HP.out.2]
    have HO4 := Lib.hid (counted_new HO1.out 1 (.int .i64 0) (.int .i64 (Rk.check p)))
    have hc3 : (w1.alloc (.cells #[.int .i64 0, .int .i64 (Rk.check p)] 38)).cell? ⟨w.heap.size + 2, 0, none⟩ = some (.int .i64 0) := HO4.out.cell 0 rfl 0 rfl
    have hc4 : (w1.alloc (.cells #[.int .i64 0, .int .i64 (Rk.check p)] 38)).cell? ⟨w.heap.size + 2, 1, none⟩ = some (.int .i64 0) := HO4.out.cell 0 rfl 1 rfl
    have hf3 : (w1.alloc (.cells #[.int .i64 0, .int .i64 (Rk.check p)] 38)).frozen? ⟨w.heap.size + 2, 0, none⟩ = false := HO4.out.frozen 0 rfl 0
    have hf4 : (w1.alloc (.cells #[.int .i64 0, .int .i64 (Rk.check p)] 38)).frozen? ⟨w.heap.size + 2, 1, none⟩ = false := HO4.out.frozen 0 rfl 1
    go_wp2_with fail
    have hO7 := (HO4.out.store 0 rfl 0 (.int .i64 0)).store 0 rfl 1 (.int .i64 (Rk.check p))
    exact bodyPost_ret (v := .agg #[.int .i64 0, .int .i64 (Rk.check p)]) (by simp [results, Tryd.results15, go_sem, hc3, hc4]) rfl ⟨by rw [HP.out.1], hO7.ext⟩
end Go.Proofs.YtdbolgollpnfdaaDoor
