/- THE WALK over Least. -/
import Derived.Test.YtdbolgollpnfdaaDoorRiskC
namespace Rk
/-- The least set of domains that loses the chunk, among the first k. -/
def leastTo (fst : Nat → Nat → Bool) (p : Pe) : Nat → Nat
  | 0 => 2 ^ p.ch.length - 1
  | k + 1 => if (cnt k < cnt (leastTo fst p k) ∨ cnt k = cnt (leastTo fst p k) ∧ fst k (leastTo fst p k) = true) ∧ loses p k = true then k else leastTo fst p k
theorem leastTo_yes {fst : Nat → Nat → Bool} {p : Pe} {k : Nat} (h : cnt k < cnt (leastTo fst p k) ∨ cnt k = cnt (leastTo fst p k) ∧ fst k (leastTo fst p k) = true) (h2 : loses p k = true) : leastTo fst p (k + 1) = k := by rw [leastTo, if_pos ⟨h, h2⟩]
theorem leastTo_no {fst : Nat → Nat → Bool} {p : Pe} {k : Nat} (h : ¬ (cnt k < cnt (leastTo fst p k) ∨ cnt k = cnt (leastTo fst p k) ∧ fst k (leastTo fst p k) = true)) : leastTo fst p (k + 1) = leastTo fst p k := by rw [leastTo, if_neg (by rintro ⟨h1, _⟩; exact h h1)]
theorem leastTo_not {fst : Nat → Nat → Bool} {p : Pe} {k : Nat} (h2 : loses p k = false) : leastTo fst p (k + 1) = leastTo fst p k := by rw [leastTo, if_neg (by rintro ⟨_, h1⟩; rw [h2] at h1; cases h1)]
theorem leastTo_zero (fst : Nat → Nat → Bool) (p : Pe) : leastTo fst p 0 = 2 ^ p.ch.length - 1 := rfl
theorem leastTo_lt (fst : Nat → Nat → Bool) (p : Pe) : ∀ k, k ≤ 2 ^ p.ch.length → leastTo fst p k < 2 ^ p.ch.length
  | 0, _ => by rw [leastTo_zero]; have := Nat.two_pow_pos p.ch.length; omega
  | k + 1, h => by
    rw [leastTo]
    split
    · omega
    · exact leastTo_lt fst p k (by omega)
def least (fst : Nat → Nat → Bool) (p : Pe) : Nat := if check p = 0 then leastTo fst p (2 ^ p.ch.length) else 0
theorem least_ok {fst : Nat → Nat → Bool} {p : Pe} (h : check p = 0) : least fst p = leastTo fst p (2 ^ p.ch.length) := if_pos h
theorem least_no {fst : Nat → Nat → Bool} {p : Pe} (h : check p ≠ 0) : least fst p = 0 := if_neg h
attribute [irreducible] leastTo least
end Rk
namespace Go.Proofs.YtdbolgollpnfdaaDoor
open Go.RowKit
set_option maxRecDepth 100000 in
set_option maxHeartbeats 8000000 in
theorem kLeast_any (p : Rk.Pe) (v : Value) (w : World) (hT : Tab w) (hv : RP w v p) :
    Calls Tryd.prog 10 #[v] w fun e w' => e = .returned (.tuple #[.int .i64 (Rk.least firstB p : Nat), .int .i64 (Rk.check p)]) ∧ Ext w w' := by
  obtain ⟨G, T, C, rfl, hG, hTT, hC⟩ := hv
  have hx0 := (Ext.refl w).alloc (.cells #[.int .i64 p.d, G, .int .i64 p.gl, T, C] 27)
  have hC0 := Rs.ext RI.ext _ _ _ _ hx0 hC
  have hrp : RP (w.alloc (.cells #[.int .i64 p.d, G, .int .i64 p.gl, T, C] 27)) (.agg #[.int .i64 p.d, G, .int .i64 p.gl, T, C]) p := ⟨G, T, C, rfl, Rs.ext (Rs.ext RI.ext) _ _ _ _ hx0 hG, Rs.ext RI.ext _ _ _ _ hx0 hTT, hC0⟩
  have HRP := Lib.hid (And.intro hrp hx0)
  have HT := Lib.hid (hT.ext hx0)
  obtain ⟨A3, c3, rfl, hl3⟩ := hC.form
  clear hG hTT hC hrp hx0 hT hC0
  by_cases h0 : Rk.check p = 0
  · have e1 : (Rk.check p != 0) = false := by rw [h0]; rfl
    have ho := Rk.ok_of h0
    have hfew := ho.few
    have HOK := Lib.hid (And.intro ho (And.intro h0 (Rk.least_ok (fst := firstB) h0)))
    have h12 : 2 ^ p.ch.length ≤ 2 ^ 12 := Nat.pow_le_pow_right (by omega) hfew
    have hz := Rk.leastTo_zero firstB p
    have hlt' := Rk.leastTo_lt firstB p
    have hNp := Nat.two_pow_pos p.ch.length
    obtain ⟨N, hN⟩ : ∃ N, 2 ^ p.ch.length = N := ⟨_, rfl⟩
    have hwN : wrap64 (2 ^ p.ch.length) = (N : Int) := by rw [wrap_pow _ (by omega), hN]
    rw [hN] at h12 hz hlt' hNp
    have hN12 : N ≤ 4096 := h12
    have HN := Lib.hid (And.intro hN (And.intro hz hlt'))
    clear h0 ho h12 hN hz hlt'
    go_enter Tryd.func10, Tryd.ntmps10
    go_wp2_with fail
    refine (kCheck_any p _ _ HRP.out.1).mono ?_
    rintro e w1 ⟨rfl, hx1⟩
    have hc0 : w1.cell? ⟨w.heap.size, 0, none⟩ = some (.int .i64 p.d) := hx1.cell (by go_simp)
    have hc1 : w1.cell? ⟨w.heap.size, 1, none⟩ = some G := hx1.cell (by go_simp)
    have hc2 : w1.cell? ⟨w.heap.size, 2, none⟩ = some (.int .i64 p.gl) := hx1.cell (by go_simp)
    have hc3 : w1.cell? ⟨w.heap.size, 3, none⟩ = some T := hx1.cell (by go_simp)
    have hc4 : w1.cell? ⟨w.heap.size, 4, none⟩ = some (.slice A3 p.ch.length c3) := hx1.cell (by go_simp)
    have HX1 := Lib.hid (HRP.out.2.trans hx1)
    have HT1 := Lib.hid (HT.out.ext hx1)
    have HR1 := Lib.hid (RP.ext _ _ _ _ hx1 HRP.out.1)
    clear hx1
    go_wp2_with fail
    refine (kLooser_any p _ _ HR1.out).mono ?_
    rintro e w2 ⟨P, Q, b, rfl, hB, hK⟩
    have hd4 := hK.ext.cell hc4
    have HBK := Lib.hid (And.intro hK hB)
    clear hB hK hc0 hc1 hc2 hc3 hc4
    go_wp2_with fail
    clear hd4
    try rw [hwN]
    try simp only [hwN]
    clear hwN
    go_loopw [6, 27] (fun vb vi wr => ∃ k b' : Nat, k ≤ N ∧ vi = .int .i64 k ∧ vb = .int .i64 b' ∧ b' < N ∧ Hid (b' = Rk.leastTo firstB p k ∧ Known w1 wr Q b k p ∧ Box wr P p)) (fun _ vi _ => N - (intOf vi).toNat)
    case atStart => exact ⟨0, N - 1, Nat.zero_le _, rfl, by go_num, by omega, HN.out.2.1.symm, HBK.out⟩
    case round =>
      obtain ⟨k, b', hk, rfl, rfl, hb', HI⟩ := hrel
      by_cases hlt : k < N
      · obtain ⟨cb, hcb⟩ : ∃ cb, Rk.cnt b' = cb := ⟨_, rfl⟩
        obtain ⟨ck, hck⟩ : ∃ ck, Rk.cnt k = ck := ⟨_, rfl⟩
        obtain ⟨fb, hfb⟩ : ∃ fb, firstB k b' = fb := ⟨_, rfl⟩
        obtain ⟨ls, hls⟩ : ∃ ls, Rk.loses p k = ls := ⟨_, rfl⟩
        have h1 := fun w => ones_any k w (by omega)
        have h2 := fun w => ones_any b' w (by omega)
        have h3 := fun w => least1 k b' w (by omega) (by omega)
        have h4 := kLoses_any w1 wr P Q b k p k HT1.out HI.out.2.1 HI.out.2.2 (by omega) HOK.out.1 (by omega)
        rw [hcb] at h2
        rw [hck] at h1
        rw [hfb] at h3
        rw [hls] at h4
        have HC := Lib.hid (And.intro hcb (And.intro hck (And.intro hfb hls)))
        have H1 := Lib.hid h1
        have H2 := Lib.hid h2
        have H3 := Lib.hid h3
        have H4 := Lib.hid h4
        clear h1 h2 h3 h4 hcb hck hfb hls
        go_wp2_with fail
        refine (H1.out _).mono ?_
        rintro e w' ⟨rfl, rfl⟩
        go_wp2_with fail
        refine (H2.out _).mono ?_
        rintro e w' ⟨rfl, rfl⟩
        by_cases h1 : ck < cb
        · have hyes : Rk.cnt k < Rk.cnt (Rk.leastTo firstB p k) ∨ Rk.cnt k = Rk.cnt (Rk.leastTo firstB p k) ∧ firstB k (Rk.leastTo firstB p k) = true := .inl (by rw [← HI.out.1, HC.out.1, HC.out.2.1]; exact h1)
          have HY := Lib.hid hyes
          clear hyes
          cases ls with
          | true =>
            have hst := Rk.leastTo_yes HY.out HC.out.2.2.2
            have HST := Lib.hid hst
            clear hst
            go_wp2_with fail
            refine H4.out.mono ?_
            rintro e w3 ⟨rfl, hK3, hB3⟩
            have HKB := Lib.hid (And.intro hK3 hB3)
            clear hK3 hB3
            go_wp2_with fail
            go_roundw
            case rel => exact ⟨k + 1, k, by omega, by go_num, rfl, by omega, HST.out.symm, HKB.out⟩
            case measure => simp [intOf]; omega
          | false =>
            have hst := Rk.leastTo_not (fst := firstB) HC.out.2.2.2
            have HST := Lib.hid hst
            clear hst
            go_wp2_with fail
            refine H4.out.mono ?_
            rintro e w3 ⟨rfl, hK3, hB3⟩
            have HKB := Lib.hid (And.intro hK3 hB3)
            clear hK3 hB3
            go_wp2_with fail
            go_roundw
            case rel => exact ⟨k + 1, b', by omega, by go_num, rfl, by omega, by rw [HST.out]; exact HI.out.1, HKB.out⟩
            case measure => simp [intOf]; omega
        · by_cases h2 : ck = cb
          · subst h2
            cases fb with
            | true =>
              have hyes : Rk.cnt k < Rk.cnt (Rk.leastTo firstB p k) ∨ Rk.cnt k = Rk.cnt (Rk.leastTo firstB p k) ∧ firstB k (Rk.leastTo firstB p k) = true := .inr ⟨by rw [← HI.out.1, HC.out.1, HC.out.2.1], by rw [← HI.out.1, HC.out.2.2.1]⟩
              have HY := Lib.hid hyes
              clear hyes
              cases ls with
              | true =>
                have hst := Rk.leastTo_yes HY.out HC.out.2.2.2
                have HST := Lib.hid hst
                clear hst
                go_wp2_with fail
                refine (H3.out _).mono ?_
                rintro e w' ⟨rfl, rfl⟩
                go_wp2_with fail
                refine H4.out.mono ?_
                rintro e w3 ⟨rfl, hK3, hB3⟩
                have HKB := Lib.hid (And.intro hK3 hB3)
                clear hK3 hB3
                go_wp2_with fail
                go_roundw
                case rel => exact ⟨k + 1, k, by omega, by go_num, rfl, by omega, HST.out.symm, HKB.out⟩
                case measure => simp [intOf]; omega
              | false =>
                have hst := Rk.leastTo_not (fst := firstB) HC.out.2.2.2
                have HST := Lib.hid hst
                clear hst
                go_wp2_with fail
                refine (H3.out _).mono ?_
                rintro e w' ⟨rfl, rfl⟩
                go_wp2_with fail
                refine H4.out.mono ?_
                rintro e w3 ⟨rfl, hK3, hB3⟩
                have HKB := Lib.hid (And.intro hK3 hB3)
                clear hK3 hB3
                go_wp2_with fail
                go_roundw
                case rel => exact ⟨k + 1, b', by omega, by go_num, rfl, by omega, by rw [HST.out]; exact HI.out.1, HKB.out⟩
                case measure => simp [intOf]; omega
            | false =>
              have hno : ¬ (Rk.cnt k < Rk.cnt (Rk.leastTo firstB p k) ∨ Rk.cnt k = Rk.cnt (Rk.leastTo firstB p k) ∧ firstB k (Rk.leastTo firstB p k) = true) := by
                rw [← HI.out.1, HC.out.1, HC.out.2.1, HC.out.2.2.1]
                rintro (h | ⟨_, h⟩)
                · omega
                · cases h
              have hst := Rk.leastTo_no hno
              have HST := Lib.hid hst
              clear hst hno
              go_wp2_with fail
              refine (H3.out _).mono ?_
              rintro e w' ⟨rfl, rfl⟩
              go_wp2_with fail
              go_roundw
              case rel => exact ⟨k + 1, b', by omega, by go_num, rfl, by omega, by rw [HST.out]; exact HI.out.1, HI.out.2.1.more, HI.out.2.2⟩
              case measure => simp [intOf]; omega
          · have hno : ¬ (Rk.cnt k < Rk.cnt (Rk.leastTo firstB p k) ∨ Rk.cnt k = Rk.cnt (Rk.leastTo firstB p k) ∧ firstB k (Rk.leastTo firstB p k) = true) := by
              rw [← HI.out.1, HC.out.1, HC.out.2.1]
              rintro (h | ⟨h, _⟩) <;> omega
            have hst := Rk.leastTo_no hno
            have HST := Lib.hid hst
            have e5 : ((ck : Int) == (cb : Int)) = false := by rw [beq_eq_false_iff_ne]; omega
            clear hst hno
            go_wp2_with fail
            go_roundw
            case rel => exact ⟨k + 1, b', by omega, by go_num, rfl, by omega, by rw [HST.out]; exact HI.out.1, HI.out.2.1.more, HI.out.2.2⟩
            case measure => simp [intOf]; omega
      · obtain rfl : k = N := by omega
        have hl : Rk.least firstB p = b' := by rw [HOK.out.2.2, HN.out.1, ← HI.out.1]
        have HL := Lib.hid hl
        clear hl
        go_wp2_with fail
        go_ret2
        exact ⟨ret_two (v_int (by rw [HL.out])) (v_int HOK.out.2.1.symm), HX1.out.trans HI.out.2.1.ext⟩
  · have e1 : (Rk.check p != 0) = true := by rw [bne_iff_ne]; exact h0
    have HP := Lib.hid (Rk.least_no (fst := firstB) h0)
    clear h0
    go_enter Tryd.func10, Tryd.ntmps10
    go_wp2_with fail
    refine (kCheck_any p _ _ HRP.out.1).mono ?_
    rintro e w1 ⟨rfl, hx1⟩
    have HX1 := Lib.hid (HRP.out.2.trans hx1)
    clear hx1
    go_wp2_with fail
    go_ret2
    exact ⟨ret_two (v_int (by rw [HP.out]; rfl)) rfl, HX1.out⟩
end Go.Proofs.YtdbolgollpnfdaaDoor
