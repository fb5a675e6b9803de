/- THE LAW RiskMatchesSpec: its walk. -/
import Derived.Test.YtdbolgollpnfdaaDoorKRefC
import Derived.Test.YtdbolgollpnfdaaDoorRiskFew
namespace Go.Proofs.YtdbolgollpnfdaaDoor
open Go.RowKit
def pv (p : Rk.Pe) (G T : Value) (A : Option Addr) (c : Nat) : Value := .agg #[.int .i64 p.d, G, .int .i64 p.gl, T, .slice A p.ch.length c]
structure Bg (w : World) (p q : Rk.Pe) (G T G' T' : Value) (A3 A4 : Option Addr) (c3 c4 : Nat) (w2 : World) : Prop where
  ext : Ext w w2
  two : Two w p q G T G' T' A3 A4 p.ch.length q.ch.length c3 c4 w2
  one : RP w2 (.agg #[.int .i64 p.d, G, .int .i64 p.gl, T, .slice A3 p.ch.length c3]) p
  oth : RP w2 (.agg #[.int .i64 q.d, G', .int .i64 q.gl, T', .slice A4 q.ch.length c4]) q
  tab : Tab w2
theorem Bg.next {w w2 w3 : World} {p q : Rk.Pe} {G T G' T' : Value} {A3 A4 : Option Addr} {c3 c4 : Nat} (h : Bg w p q G T G' T' A3 A4 c3 c4 w2) (hx : Ext w2 w3) : Bg w p q G T G' T' A3 A4 c3 c4 w3 :=
  ⟨h.ext.trans hx, h.two.ext hx, RP.ext _ _ _ _ hx h.one, RP.ext _ _ _ _ hx h.oth, h.tab.ext hx⟩
set_option maxRecDepth 100000 in
set_option maxHeartbeats 8000000 in
theorem match_walk (p q : Rk.Pe) (f : Int) (v u : Value) (w : World) (hT : Tab w) (hv : RP w v p) (hu : RP w u q) (hf : -9223372036854775808 ≤ f ∧ f < 9223372036854775808) :
    Calls Tryd.prog 3 #[v, u, .int .i64 f] w fun e w' => e = .returned (.bool true) ∧ Ext w w' := by
  obtain ⟨G, T, A3, c3, rfl, hl3⟩ := hv.open
  obtain ⟨G', T', A4, c4, rfl, hl4⟩ := hu.open
  obtain ⟨hf1, hf2⟩ := hf
  have hx0 := ((Ext.refl w).alloc (.cells #[.int .i64 p.d, G, .int .i64 p.gl, T, .slice A3 p.ch.length c3] 27)).alloc (.cells #[.int .i64 q.d, G', .int .i64 q.gl, T', .slice A4 q.ch.length c4] 27)
  have HB0 := Lib.hid (Bg.mk hx0 (Two.start (w := w) (p := p) (q := q) (G := G) (T := T) (G' := G') (T' := T') (A3 := A3) (A4 := A4) (a := p.ch.length) (b := q.ch.length) (c3 := c3) (c4 := c4)) (RP.ext _ _ _ _ hx0 hv) (RP.ext _ _ _ _ hx0 hu) (hT.ext hx0))
  clear hv hu hx0 hT
  go_enter Tryd.func3, Tryd.ntmps3
  go_wp2_with fail
  refine (few_any p 9 _ _ HB0.out.one).mono ?_
  rintro e w1 ⟨b, rfl, hb, hx⟩
  have HFEW := Lib.hid hb
  have HB1 := Lib.hid (HB0.out.next hx)
  clear hx hb
  have b0 : w1.cell? ⟨w.heap.size + 1, 0, none⟩ = some (.int .i64 q.d) := HB1.out.two.b0
  have b1 : w1.cell? ⟨w.heap.size + 1, 1, none⟩ = some (G') := HB1.out.two.b1
  have b2 : w1.cell? ⟨w.heap.size + 1, 2, none⟩ = some (.int .i64 q.gl) := HB1.out.two.b2
  have b3 : w1.cell? ⟨w.heap.size + 1, 3, none⟩ = some (T') := HB1.out.two.b3
  have b4 : w1.cell? ⟨w.heap.size + 1, 4, none⟩ = some (.slice A4 q.ch.length c4) := HB1.out.two.b4
  go_wp2_with fail
  clear b0 b1 b2 b3 b4
  refine (few_any q 9 _ _ HB1.out.oth).mono ?_
  rintro e w2 ⟨b', rfl, hb, hx⟩
  have HFEW2 := Lib.hid hb
  have HB2 := Lib.hid (HB1.out.next hx)
  clear hx hb
  by_cases hbb : b = true ∧ b' = true
  case neg =>
    have hor : (b = false) ∨ (b = true ∧ b' = false) := by
      cases b with
      | false => exact .inl rfl
      | true => cases b' with
        | false => exact .inr ⟨rfl, rfl⟩
        | true => exact absurd ⟨rfl, rfl⟩ hbb
    clear hbb
    rcases hor with rfl | ⟨rfl, rfl⟩
    all_goals
      go_wp2_with fail
      refine (sanity_any _ HB2.out.tab).mono ?_
      rintro e w3 ⟨rfl, hx⟩
      have HX3 := Lib.hid (HB2.out.ext.trans hx)
      clear hx
      go_wp2_with fail
      go_ret
      exact ⟨rfl, HX3.out⟩
  case pos =>
    obtain ⟨rfl, rfl⟩ := hbb
    obtain ⟨hp9, hp30⟩ := HFEW.out rfl
    obtain ⟨hq9, hq30⟩ := HFEW2.out rfl
    clear HFEW HFEW2
    obtain ⟨E, hE⟩ : ∃ E, Rk.check p = E := ⟨_, rfl⟩
    obtain ⟨U, hU⟩ : ∃ U, Rk.total p = U := ⟨_, rfl⟩
    obtain ⟨lb, hlb⟩ : ∃ lb, (Rk.lost p f).1 = lb := ⟨_, rfl⟩
    obtain ⟨le, hle⟩ : ∃ le, (Rk.lost p f).2 = le := ⟨_, rfl⟩
    obtain ⟨L, hL⟩ : ∃ L, Rk.lossOf p = L := ⟨_, rfl⟩
    obtain ⟨M, hM⟩ : ∃ M, Rk.least firstB p = M := ⟨_, rfl⟩
    obtain ⟨C, hC⟩ : ∃ C, (Rk.cmp p q).1 = C := ⟨_, rfl⟩
    obtain ⟨D, hD⟩ : ∃ D, (Rk.cmp p q).2 = D := ⟨_, rfl⟩
    obtain ⟨m, hm⟩ : ∃ m, Rk.mill p = m := ⟨_, rfl⟩
    have HE := Lib.hid hE
    have HU := Lib.hid hU
    have HLB := Lib.hid hlb
    have HLE := Lib.hid hle
    have HL := Lib.hid hL
    have HM := Lib.hid hM
    have HC := Lib.hid hC
    have HD := Lib.hid hD
    have HMM := Lib.hid hm
    clear hE hU hlb hle hL hM hC hD hm
    have a0 : w2.cell? ⟨w.heap.size, 0, none⟩ = some (.int .i64 p.d) := HB2.out.two.a0
    have a1 : w2.cell? ⟨w.heap.size, 1, none⟩ = some (G) := HB2.out.two.a1
    have a2 : w2.cell? ⟨w.heap.size, 2, none⟩ = some (.int .i64 p.gl) := HB2.out.two.a2
    have a3 : w2.cell? ⟨w.heap.size, 3, none⟩ = some (T) := HB2.out.two.a3
    have a4 : w2.cell? ⟨w.heap.size, 4, none⟩ = some (.slice A3 p.ch.length c3) := HB2.out.two.a4
    go_wp2_with fail
    clear a0 a1 a2 a3 a4
    refine (qCheck_any p _ _ HB2.out.one (by omega)).mono ?_
    rintro e w3 ⟨rfl, hx⟩
    rw [HE.out]
    have HB3 := Lib.hid (HB2.out.next hx)
    clear hx
    have a0 : w3.cell? ⟨w.heap.size, 0, none⟩ = some (.int .i64 p.d) := HB3.out.two.a0
    have a1 : w3.cell? ⟨w.heap.size, 1, none⟩ = some (G) := HB3.out.two.a1
    have a2 : w3.cell? ⟨w.heap.size, 2, none⟩ = some (.int .i64 p.gl) := HB3.out.two.a2
    have a3 : w3.cell? ⟨w.heap.size, 3, none⟩ = some (T) := HB3.out.two.a3
    have a4 : w3.cell? ⟨w.heap.size, 4, none⟩ = some (.slice A3 p.ch.length c3) := HB3.out.two.a4
    go_wp2_with fail
    clear a0 a1 a2 a3 a4
    refine (kTotal_any p _ _ HB3.out.one).mono ?_
    rintro e w4 ⟨rfl, hx⟩
    rw [HE.out, HU.out]
    have HB4 := Lib.hid (HB3.out.next hx)
    clear hx
    have a0 : w4.cell? ⟨w.heap.size, 0, none⟩ = some (.int .i64 p.d) := HB4.out.two.a0
    have a1 : w4.cell? ⟨w.heap.size, 1, none⟩ = some (G) := HB4.out.two.a1
    have a2 : w4.cell? ⟨w.heap.size, 2, none⟩ = some (.int .i64 p.gl) := HB4.out.two.a2
    have a3 : w4.cell? ⟨w.heap.size, 3, none⟩ = some (T) := HB4.out.two.a3
    have a4 : w4.cell? ⟨w.heap.size, 4, none⟩ = some (.slice A3 p.ch.length c3) := HB4.out.two.a4
    go_wp2_with fail
    clear a0 a1 a2 a3 a4
    refine (kLost_any p f _ _ HB4.out.tab HB4.out.one).mono ?_
    rintro e w5 ⟨rfl, hx⟩
    rw [HLB.out, HLE.out]
    have HB5 := Lib.hid (HB4.out.next hx)
    clear hx
    have a0 : w5.cell? ⟨w.heap.size, 0, none⟩ = some (.int .i64 p.d) := HB5.out.two.a0
    have a1 : w5.cell? ⟨w.heap.size, 1, none⟩ = some (G) := HB5.out.two.a1
    have a2 : w5.cell? ⟨w.heap.size, 2, none⟩ = some (.int .i64 p.gl) := HB5.out.two.a2
    have a3 : w5.cell? ⟨w.heap.size, 3, none⟩ = some (T) := HB5.out.two.a3
    have a4 : w5.cell? ⟨w.heap.size, 4, none⟩ = some (.slice A3 p.ch.length c3) := HB5.out.two.a4
    go_wp2_with fail
    clear a0 a1 a2 a3 a4
    refine (kLoss_any p _ _ HB5.out.tab HB5.out.one).mono ?_
    rintro e w6 ⟨rfl, hx⟩
    rw [HE.out, HL.out]
    have HB6 := Lib.hid (HB5.out.next hx)
    clear hx
    have a0 : w6.cell? ⟨w.heap.size, 0, none⟩ = some (.int .i64 p.d) := HB6.out.two.a0
    have a1 : w6.cell? ⟨w.heap.size, 1, none⟩ = some (G) := HB6.out.two.a1
    have a2 : w6.cell? ⟨w.heap.size, 2, none⟩ = some (.int .i64 p.gl) := HB6.out.two.a2
    have a3 : w6.cell? ⟨w.heap.size, 3, none⟩ = some (T) := HB6.out.two.a3
    have a4 : w6.cell? ⟨w.heap.size, 4, none⟩ = some (.slice A3 p.ch.length c3) := HB6.out.two.a4
    go_wp2_with fail
    clear a0 a1 a2 a3 a4
    refine (kLeast_any p _ _ HB6.out.tab HB6.out.one).mono ?_
    rintro e w7 ⟨rfl, hx⟩
    rw [HE.out, HM.out]
    have HB7 := Lib.hid (HB6.out.next hx)
    clear hx
    have a0 : w7.cell? ⟨w.heap.size, 0, none⟩ = some (.int .i64 p.d) := HB7.out.two.a0
    have a1 : w7.cell? ⟨w.heap.size, 1, none⟩ = some (G) := HB7.out.two.a1
    have a2 : w7.cell? ⟨w.heap.size, 2, none⟩ = some (.int .i64 p.gl) := HB7.out.two.a2
    have a3 : w7.cell? ⟨w.heap.size, 3, none⟩ = some (T) := HB7.out.two.a3
    have a4 : w7.cell? ⟨w.heap.size, 4, none⟩ = some (.slice A3 p.ch.length c3) := HB7.out.two.a4
    have b0 : w7.cell? ⟨w.heap.size + 1, 0, none⟩ = some (.int .i64 q.d) := HB7.out.two.b0
    have b1 : w7.cell? ⟨w.heap.size + 1, 1, none⟩ = some (G') := HB7.out.two.b1
    have b2 : w7.cell? ⟨w.heap.size + 1, 2, none⟩ = some (.int .i64 q.gl) := HB7.out.two.b2
    have b3 : w7.cell? ⟨w.heap.size + 1, 3, none⟩ = some (T') := HB7.out.two.b3
    have b4 : w7.cell? ⟨w.heap.size + 1, 4, none⟩ = some (.slice A4 q.ch.length c4) := HB7.out.two.b4
    go_wp2_with fail
    clear a0 a1 a2 a3 a4 b0 b1 b2 b3 b4
    refine (kCmp_any p q _ _ _ HB7.out.tab HB7.out.one HB7.out.oth).mono ?_
    rintro e w8 ⟨rfl, hx⟩
    rw [HC.out, HD.out]
    have HB8 := Lib.hid (HB7.out.next hx)
    clear hx
    have a0 : w8.cell? ⟨w.heap.size, 0, none⟩ = some (.int .i64 p.d) := HB8.out.two.a0
    have a1 : w8.cell? ⟨w.heap.size, 1, none⟩ = some (G) := HB8.out.two.a1
    have a2 : w8.cell? ⟨w.heap.size, 2, none⟩ = some (.int .i64 p.gl) := HB8.out.two.a2
    have a3 : w8.cell? ⟨w.heap.size, 3, none⟩ = some (T) := HB8.out.two.a3
    have a4 : w8.cell? ⟨w.heap.size, 4, none⟩ = some (.slice A3 p.ch.length c3) := HB8.out.two.a4
    go_wp2_with fail
    clear a0 a1 a2 a3 a4
    refine (kMill_any p _ _ HB8.out.tab HB8.out.one).mono ?_
    rintro e w9 ⟨rfl, hx⟩
    rw [HE.out, HMM.out]
    have HB9 := Lib.hid (HB8.out.next hx)
    clear hx
    have a0 : w9.cell? ⟨w.heap.size, 0, none⟩ = some (.int .i64 p.d) := HB9.out.two.a0
    have a1 : w9.cell? ⟨w.heap.size, 1, none⟩ = some (G) := HB9.out.two.a1
    have a2 : w9.cell? ⟨w.heap.size, 2, none⟩ = some (.int .i64 p.gl) := HB9.out.two.a2
    have a3 : w9.cell? ⟨w.heap.size, 3, none⟩ = some (T) := HB9.out.two.a3
    have a4 : w9.cell? ⟨w.heap.size, 4, none⟩ = some (.slice A3 p.ch.length c3) := HB9.out.two.a4
    go_wp2_with fail
    clear a0 a1 a2 a3 a4
    refine (qLoss_any p _ _ HB9.out.one (by omega)).mono ?_
    rintro e w10 ⟨rfl, hx⟩
    rw [HE.out, HL.out]
    have HB10 := Lib.hid (HB9.out.next (hx.alloc (.cells #[.int .i64 (L : Nat), .int .i64 E] 38)))
    have HX10 := Lib.hid (cells_new w10 #[.int .i64 (L : Nat), .int .i64 E] 38)
    clear hx
    have a0 : (w10.alloc (.cells #[.int .i64 (L : Nat), .int .i64 E] 38)).cell? ⟨w.heap.size, 0, none⟩ = some (.int .i64 p.d) := HB10.out.two.a0
    have a1 : (w10.alloc (.cells #[.int .i64 (L : Nat), .int .i64 E] 38)).cell? ⟨w.heap.size, 1, none⟩ = some (G) := HB10.out.two.a1
    have a2 : (w10.alloc (.cells #[.int .i64 (L : Nat), .int .i64 E] 38)).cell? ⟨w.heap.size, 2, none⟩ = some (.int .i64 p.gl) := HB10.out.two.a2
    have a3 : (w10.alloc (.cells #[.int .i64 (L : Nat), .int .i64 E] 38)).cell? ⟨w.heap.size, 3, none⟩ = some (T) := HB10.out.two.a3
    have a4 : (w10.alloc (.cells #[.int .i64 (L : Nat), .int .i64 E] 38)).cell? ⟨w.heap.size, 4, none⟩ = some (.slice A3 p.ch.length c3) := HB10.out.two.a4
    go_wp2_with fail
    clear a0 a1 a2 a3 a4
    refine (qLeast_any p _ _ HB10.out.one (by omega)).mono ?_
    rintro e w11 ⟨rfl, hx⟩
    rw [HE.out, HM.out]
    have HB11 := Lib.hid (HB10.out.next (hx.alloc (.cells #[.int .i64 (M : Nat), .int .i64 E] 38)))
    have HX11 := Lib.hid (HX10.out.ext (hx.alloc (.cells #[.int .i64 (M : Nat), .int .i64 E] 38)))
    have HY11 := Lib.hid (cells_new w11 #[.int .i64 (M : Nat), .int .i64 E] 38)
    clear hx
    have a0 : (w11.alloc (.cells #[.int .i64 (M : Nat), .int .i64 E] 38)).cell? ⟨w.heap.size, 0, none⟩ = some (.int .i64 p.d) := HB11.out.two.a0
    have a1 : (w11.alloc (.cells #[.int .i64 (M : Nat), .int .i64 E] 38)).cell? ⟨w.heap.size, 1, none⟩ = some (G) := HB11.out.two.a1
    have a2 : (w11.alloc (.cells #[.int .i64 (M : Nat), .int .i64 E] 38)).cell? ⟨w.heap.size, 2, none⟩ = some (.int .i64 p.gl) := HB11.out.two.a2
    have a3 : (w11.alloc (.cells #[.int .i64 (M : Nat), .int .i64 E] 38)).cell? ⟨w.heap.size, 3, none⟩ = some (T) := HB11.out.two.a3
    have a4 : (w11.alloc (.cells #[.int .i64 (M : Nat), .int .i64 E] 38)).cell? ⟨w.heap.size, 4, none⟩ = some (.slice A3 p.ch.length c3) := HB11.out.two.a4
    have b0 : (w11.alloc (.cells #[.int .i64 (M : Nat), .int .i64 E] 38)).cell? ⟨w.heap.size + 1, 0, none⟩ = some (.int .i64 q.d) := HB11.out.two.b0
    have b1 : (w11.alloc (.cells #[.int .i64 (M : Nat), .int .i64 E] 38)).cell? ⟨w.heap.size + 1, 1, none⟩ = some (G') := HB11.out.two.b1
    have b2 : (w11.alloc (.cells #[.int .i64 (M : Nat), .int .i64 E] 38)).cell? ⟨w.heap.size + 1, 2, none⟩ = some (.int .i64 q.gl) := HB11.out.two.b2
    have b3 : (w11.alloc (.cells #[.int .i64 (M : Nat), .int .i64 E] 38)).cell? ⟨w.heap.size + 1, 3, none⟩ = some (T') := HB11.out.two.b3
    have b4 : (w11.alloc (.cells #[.int .i64 (M : Nat), .int .i64 E] 38)).cell? ⟨w.heap.size + 1, 4, none⟩ = some (.slice A4 q.ch.length c4) := HB11.out.two.b4
    go_wp2_with fail
    clear a0 a1 a2 a3 a4 b0 b1 b2 b3 b4
    refine (qCmp_any p q _ _ _ HB11.out.one HB11.out.oth (by omega) (by omega)).mono ?_
    rintro e w12 ⟨rfl, hx⟩
    rw [HC.out, HD.out]
    have HB12 := Lib.hid (HB11.out.next (hx.alloc (.cells #[.int .i64 C, .int .i64 D] 38)))
    have HX12 := Lib.hid (HX11.out.ext (hx.alloc (.cells #[.int .i64 C, .int .i64 D] 38)))
    have HY12 := Lib.hid (HY11.out.ext (hx.alloc (.cells #[.int .i64 C, .int .i64 D] 38)))
    have HZ12 := Lib.hid (cells_new w12 #[.int .i64 C, .int .i64 D] 38)
    clear hx
    have a0 : (w12.alloc (.cells #[.int .i64 C, .int .i64 D] 38)).cell? ⟨w.heap.size, 0, none⟩ = some (.int .i64 p.d) := HB12.out.two.a0
    have a1 : (w12.alloc (.cells #[.int .i64 C, .int .i64 D] 38)).cell? ⟨w.heap.size, 1, none⟩ = some (G) := HB12.out.two.a1
    have a2 : (w12.alloc (.cells #[.int .i64 C, .int .i64 D] 38)).cell? ⟨w.heap.size, 2, none⟩ = some (.int .i64 p.gl) := HB12.out.two.a2
    have a3 : (w12.alloc (.cells #[.int .i64 C, .int .i64 D] 38)).cell? ⟨w.heap.size, 3, none⟩ = some (T) := HB12.out.two.a3
    have a4 : (w12.alloc (.cells #[.int .i64 C, .int .i64 D] 38)).cell? ⟨w.heap.size, 4, none⟩ = some (.slice A3 p.ch.length c3) := HB12.out.two.a4
    go_wp2_with fail
    clear a0 a1 a2 a3 a4
    refine (qMill_any p _ _ HB12.out.one (by omega)).mono ?_
    rintro e w13 ⟨rfl, hx⟩
    rw [HE.out, HMM.out]
    have HB13 := Lib.hid (HB12.out.next (hx.alloc (.cells #[.int .i64 (m : Nat), .int .i64 E] 38)))
    have HX13 := Lib.hid (HX12.out.ext (hx.alloc (.cells #[.int .i64 (m : Nat), .int .i64 E] 38)))
    have HY13 := Lib.hid (HY12.out.ext (hx.alloc (.cells #[.int .i64 (m : Nat), .int .i64 E] 38)))
    have HZ13 := Lib.hid (HZ12.out.ext (hx.alloc (.cells #[.int .i64 (m : Nat), .int .i64 E] 38)))
    have HK13 := Lib.hid (cells_new w13 #[.int .i64 (m : Nat), .int .i64 E] 38)
    clear hx
    have a0 : (w13.alloc (.cells #[.int .i64 (m : Nat), .int .i64 E] 38)).cell? ⟨w.heap.size, 0, none⟩ = some (.int .i64 p.d) := HB13.out.two.a0
    have a1 : (w13.alloc (.cells #[.int .i64 (m : Nat), .int .i64 E] 38)).cell? ⟨w.heap.size, 1, none⟩ = some (G) := HB13.out.two.a1
    have a2 : (w13.alloc (.cells #[.int .i64 (m : Nat), .int .i64 E] 38)).cell? ⟨w.heap.size, 2, none⟩ = some (.int .i64 p.gl) := HB13.out.two.a2
    have a3 : (w13.alloc (.cells #[.int .i64 (m : Nat), .int .i64 E] 38)).cell? ⟨w.heap.size, 3, none⟩ = some (T) := HB13.out.two.a3
    have a4 : (w13.alloc (.cells #[.int .i64 (m : Nat), .int .i64 E] 38)).cell? ⟨w.heap.size, 4, none⟩ = some (.slice A3 p.ch.length c3) := HB13.out.two.a4
    go_wp2_with fail
    clear a0 a1 a2 a3 a4
    refine (kCheck_any p _ _ HB13.out.one).mono ?_
    rintro e w14 ⟨rfl, hx⟩
    rw [HE.out]
    have HB14 := Lib.hid (HB13.out.next hx)
    have x0 : w14.cell? ⟨w10.heap.size, 0, none⟩ = some (.int .i64 (L : Nat)) := (HX13.out.ext hx) 0 _ rfl
    have x1 : w14.cell? ⟨w10.heap.size, 1, none⟩ = some (.int .i64 E) := (HX13.out.ext hx) 1 _ rfl
    have y0 : w14.cell? ⟨w11.heap.size, 0, none⟩ = some (.int .i64 (M : Nat)) := (HY13.out.ext hx) 0 _ rfl
    have y1 : w14.cell? ⟨w11.heap.size, 1, none⟩ = some (.int .i64 E) := (HY13.out.ext hx) 1 _ rfl
    have z0 : w14.cell? ⟨w12.heap.size, 0, none⟩ = some (.int .i64 C) := (HZ13.out.ext hx) 0 _ rfl
    have z1 : w14.cell? ⟨w12.heap.size, 1, none⟩ = some (.int .i64 D) := (HZ13.out.ext hx) 1 _ rfl
    have k0 : w14.cell? ⟨w13.heap.size, 0, none⟩ = some (.int .i64 (m : Nat)) := (HK13.out.ext hx) 0 _ rfl
    have k1 : w14.cell? ⟨w13.heap.size, 1, none⟩ = some (.int .i64 E) := (HK13.out.ext hx) 1 _ rfl
    clear hx
    by_cases h0 : E = 0
    case neg =>
      have e1 : (E != 0) = true := by rw [bne_iff_ne]; exact h0
      have h0' : Rk.check p ≠ 0 := by rw [HE.out]; exact h0
      obtain rfl : U = 0 := by rw [← HU.out, Rk.total_no h0']
      obtain rfl : lb = false := by rw [← HLB.out, Rk.lost_no h0']
      obtain rfl : le = E := by rw [← HLE.out, Rk.lost_no h0', HE.out]
      clear h0 h0'
      go_wp2_with fail
      clear x0 x1 y0 y1 z0 z1 k0 k1
      refine (sanity_any _ HB14.out.tab).mono ?_
      rintro e w15 ⟨rfl, hx⟩
      have HB15 := Lib.hid (HB14.out.next hx)
      clear hx
      go_wp2_with fail
      go_ret
      exact ⟨rfl, HB15.out.ext⟩
    case pos =>
      subst h0
      have h0 := HE.out
      have ho := Rk.ok_of h0
      have hUU := Rk.total_ok h0
      rw [HU.out] at hUU
      have hPw : ∀ w, Calls Tryd.prog 18 #[.int .i64 (p.ch.length : Int)] w fun e w' => e = .returned (.int .i64 (U : Int)) ∧ w = w' := qPower_int rfl (by omega) hUU.symm
      have hna := fun h => Rk.lost_arg (p := p) (f := f) h0 h
      have h512 : 2 ^ p.ch.length ≤ 2 ^ 9 := Nat.pow_le_pow_right (by omega) hp9
      have hok := fun k hk => Rk.lost_ok (p := p) (f := k) h0 hk
      have hwN := wrap_pow p.ch.length (by omega)
      obtain ⟨N, hN⟩ : ∃ N, 2 ^ p.ch.length = N := ⟨_, rfl⟩
      rw [hN] at hna h512 hok hwN
      have HP := Lib.hid hPw
      have HOK := Lib.hid ho
      have hN512 : N ≤ 512 := h512
      clear h0 ho hUU hPw h512 hN
      by_cases hlo : f < 0
      case pos =>
        have hl := hna (.inl hlo)
        obtain rfl : lb = false := by rw [← HLB.out, hl]
        obtain rfl : le = 1 := by rw [← HLE.out, hl]
        clear hl hna hok hwN
        have a0 : w14.cell? ⟨w.heap.size, 0, none⟩ = some (.int .i64 p.d) := HB14.out.two.a0
        have a1 : w14.cell? ⟨w.heap.size, 1, none⟩ = some (G) := HB14.out.two.a1
        have a2 : w14.cell? ⟨w.heap.size, 2, none⟩ = some (.int .i64 p.gl) := HB14.out.two.a2
        have a3 : w14.cell? ⟨w.heap.size, 3, none⟩ = some (T) := HB14.out.two.a3
        have a4 : w14.cell? ⟨w.heap.size, 4, none⟩ = some (.slice A3 p.ch.length c3) := HB14.out.two.a4
        go_wp2_with fail
        clear x0 x1 y0 y1 z0 z1 k0 k1
        clear a0 a1 a2 a3 a4
        refine (sanity_any _ HB14.out.tab).mono ?_
        rintro e w15 ⟨rfl, hx⟩
        have HB15 := Lib.hid (HB14.out.next hx)
        clear hx
        have a0 : w15.cell? ⟨w.heap.size, 0, none⟩ = some (.int .i64 p.d) := HB15.out.two.a0
        have a1 : w15.cell? ⟨w.heap.size, 1, none⟩ = some (G) := HB15.out.two.a1
        have a2 : w15.cell? ⟨w.heap.size, 2, none⟩ = some (.int .i64 p.gl) := HB15.out.two.a2
        have a3 : w15.cell? ⟨w.heap.size, 3, none⟩ = some (T) := HB15.out.two.a3
        have a4 : w15.cell? ⟨w.heap.size, 4, none⟩ = some (.slice A3 p.ch.length c3) := HB15.out.two.a4
        go_wp2_with fail
        refine (HP.out _).mono ?_
        rintro e w16 ⟨rfl, rfl⟩
        go_wp2_with fail
        go_ret
        exact ⟨rfl, HB15.out.ext⟩
      case neg =>
        by_cases hhi : (N : Int) ≤ f
        case pos =>
          have hl := hna (.inr hhi)
          obtain rfl : lb = false := by rw [← HLB.out, hl]
          obtain rfl : le = 1 := by rw [← HLE.out, hl]
          clear hl hna hok
          have a0 : w14.cell? ⟨w.heap.size, 0, none⟩ = some (.int .i64 p.d) := HB14.out.two.a0
          have a1 : w14.cell? ⟨w.heap.size, 1, none⟩ = some (G) := HB14.out.two.a1
          have a2 : w14.cell? ⟨w.heap.size, 2, none⟩ = some (.int .i64 p.gl) := HB14.out.two.a2
          have a3 : w14.cell? ⟨w.heap.size, 3, none⟩ = some (T) := HB14.out.two.a3
          have a4 : w14.cell? ⟨w.heap.size, 4, none⟩ = some (.slice A3 p.ch.length c3) := HB14.out.two.a4
          go_wp2_with fail
          clear x0 x1 y0 y1 z0 z1 k0 k1
          clear a0 a1 a2 a3 a4
          refine (sanity_any _ HB14.out.tab).mono ?_
          rintro e w15 ⟨rfl, hx⟩
          have HB15 := Lib.hid (HB14.out.next hx)
          clear hx
          have a0 : w15.cell? ⟨w.heap.size, 0, none⟩ = some (.int .i64 p.d) := HB15.out.two.a0
          have a1 : w15.cell? ⟨w.heap.size, 1, none⟩ = some (G) := HB15.out.two.a1
          have a2 : w15.cell? ⟨w.heap.size, 2, none⟩ = some (.int .i64 p.gl) := HB15.out.two.a2
          have a3 : w15.cell? ⟨w.heap.size, 3, none⟩ = some (T) := HB15.out.two.a3
          have a4 : w15.cell? ⟨w.heap.size, 4, none⟩ = some (.slice A3 p.ch.length c3) := HB15.out.two.a4
          go_wp2_with fail
          refine (HP.out _).mono ?_
          rintro e w16 ⟨rfl, rfl⟩
          go_wp2_with fail
          go_ret
          exact ⟨rfl, HB15.out.ext⟩
        case neg =>
          obtain ⟨k, rfl⟩ : ∃ k : Nat, f = k := ⟨f.toNat, by omega⟩
          have hl := hok k (by omega)
          obtain rfl : le = 0 := by rw [← HLE.out, hl]
          have hls : Rk.loses p k = lb := by rw [← HLB.out, hl]
          have HLS := Lib.hid hls
          have hkN : k < N := by omega
          clear hl hna hok hls hf1 hf2 hlo hhi
          have a0 : w14.cell? ⟨w.heap.size, 0, none⟩ = some (.int .i64 p.d) := HB14.out.two.a0
          have a1 : w14.cell? ⟨w.heap.size, 1, none⟩ = some (G) := HB14.out.two.a1
          have a2 : w14.cell? ⟨w.heap.size, 2, none⟩ = some (.int .i64 p.gl) := HB14.out.two.a2
          have a3 : w14.cell? ⟨w.heap.size, 3, none⟩ = some (T) := HB14.out.two.a3
          have a4 : w14.cell? ⟨w.heap.size, 4, none⟩ = some (.slice A3 p.ch.length c3) := HB14.out.two.a4
          go_wp2_with fail
          clear x0 x1 y0 y1 z0 z1 k0 k1
          clear a0 a1 a2 a3 a4
          refine (sanity_any _ HB14.out.tab).mono ?_
          rintro e w15 ⟨rfl, hx⟩
          have HB15 := Lib.hid (HB14.out.next hx)
          clear hx
          have a0 : w15.cell? ⟨w.heap.size, 0, none⟩ = some (.int .i64 p.d) := HB15.out.two.a0
          have a1 : w15.cell? ⟨w.heap.size, 1, none⟩ = some (G) := HB15.out.two.a1
          have a2 : w15.cell? ⟨w.heap.size, 2, none⟩ = some (.int .i64 p.gl) := HB15.out.two.a2
          have a3 : w15.cell? ⟨w.heap.size, 3, none⟩ = some (T) := HB15.out.two.a3
          have a4 : w15.cell? ⟨w.heap.size, 4, none⟩ = some (.slice A3 p.ch.length c3) := HB15.out.two.a4
          go_wp2_with fail
          refine (HP.out _).mono ?_
          rintro e w16 ⟨rfl, rfl⟩
          go_wp2_with fail
          clear a0 a1 a2 a3 a4
          refine (qLoses_any p k _ _ HB15.out.one HOK.out (by omega)).mono ?_
          rintro e w16 ⟨rfl, hx⟩
          rw [HLS.out]
          have HX16 := Lib.hid (HB15.out.ext.trans hx)
          clear hx
          go_wp2_with fail
          go_ret
          exact ⟨rfl, HX16.out⟩
end Go.Proofs.YtdbolgollpnfdaaDoor
