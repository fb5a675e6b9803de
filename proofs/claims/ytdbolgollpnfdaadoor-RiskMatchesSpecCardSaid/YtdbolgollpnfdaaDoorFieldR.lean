/- THE WALKS over the specification of the field: Mul, Inv, Exp. -/
import Derived.Test.YtdbolgollpnfdaaDoorGfW
namespace Go.Proofs.YtdbolgollpnfdaaDoor
open Go.RowKit
theorem rmul_nat (a b : Nat) (ha : a < 256) (hb : b < 256) (w : World) :
    Calls Tryd.prog 55 #[.int .u8 a, .int .u8 b] w fun e w' => e = .returned (.int .u8 (Gf.mulN a b : Nat)) ∧ w = w' := by
  go_enter Tryd.func55, Tryd.ntmps55
  go_wp2_with fail
  go_loop [5, 6, 7] (fun vx vy vs => ∃ X Y S j : Nat, X < 256 ∧ Y < 256 ∧ Y < 2 ^ j ∧ S < 256 ∧ vx = .int .i64 X ∧ vy = .int .i64 Y ∧ vs = .int .i64 S ∧ Hid (S ^^^ Gf.mulK j X Y = Gf.mulN a b)) (fun _ vy _ => (intOf vy).toNat)
  case atStart => exact ⟨a, b, 0, 8, ha, hb, hb, by omega, rfl, rfl, rfl, by simp [Hid, Gf.mulN_def]⟩
  case round =>
    obtain ⟨X, Y, S, j, hX, hY, hj, hS, rfl, rfl, rfl, HM⟩ := hrel
    by_cases hp : 0 < Y
    · obtain ⟨j, rfl⟩ : ∃ i, j = i + 1 := ⟨j - 1, by
        rcases Nat.eq_zero_or_pos j with rfl | h
        · simp at hj; omega
        · omega⟩
      have hj' : Y / 2 < 2 ^ j := by rw [Nat.pow_succ] at hj; omega
      have HJ := Lib.hid hj'
      have hsx := Gf.xor_lt hS hX
      have hxt := Gf.xt_lt hX
      have e4 : bits .xor .i64 (S : Int) (X : Int) = ((S ^^^ X : Nat) : Int) := xor64 S X (by omega) (by omega)
      have e5 : 255 < 2 * X → bits .xor .i64 (2 * (X : Int)) 285 = ((Gf.xt X : Nat) : Int) := fun h => by
        have := xor64 (2 * X) 285 (by omega) (by omega)
        rw [Gf.xt, show X / 128 = 1 from by omega]
        simpa using this
      have e6 : ¬ 255 < 2 * X → 2 * (X : Int) = ((Gf.xt X : Nat) : Int) := fun h => by
        rw [Gf.xt, show X / 128 = 0 from by omega]
        simp
      have E4 := Lib.hid e4
      have E6 := Lib.hid e6
      clear e4 e6 hj hj'
      have e1 : Y % 2 = 1 → Hid ((S ^^^ X) ^^^ Gf.mulK j (Gf.xt X) (Y / 2) = Gf.mulN a b) := fun h => by
        have := HM.out
        rw [Gf.mulK, h, Nat.one_mul, ← Nat.xor_assoc] at this
        exact this
      have e2 : Y % 2 = 0 → Hid (S ^^^ Gf.mulK j (Gf.xt X) (Y / 2) = Gf.mulN a b) := fun h => by
        have := HM.out
        rw [Gf.mulK, h, Nat.zero_mul, Nat.zero_xor] at this
        exact this
      have E1 := Lib.hid e1
      have E2 := Lib.hid e2
      clear e1 e2
      by_cases hbit : Y % 2 = 1
      · have HB := Lib.hid hbit
        have e0 : (((Y : Int) % 2) == 1) = true := by
          have : ((Y : Int) % 2) = 1 := by omega
          rw [this]; rfl
        clear hbit
        by_cases hbig : 255 < 2 * X
        · have E5 := Lib.hid (e5 hbig)
          clear e5
          go_wp2_with fail
          go_round
          case rel => exact ⟨Gf.xt X, Y / 2, S ^^^ X, j, hxt, by omega, HJ.out, hsx, by rw [E5.out], by go_num, by rw [E4.out], E1.out HB.out⟩
          case measure => simp [intOf]; omega
        · have E5 := Lib.hid (E6.out hbig)
          clear e5
          go_wp2_with fail
          go_round
          case rel => exact ⟨Gf.xt X, Y / 2, S ^^^ X, j, hxt, by omega, HJ.out, hsx, by rw [E5.out], by go_num, by rw [E4.out], E1.out HB.out⟩
          case measure => simp [intOf]; omega
      · have HB := Lib.hid (show Y % 2 = 0 by omega)
        have e0 : (((Y : Int) % 2) == 1) = false := by
          have : ((Y : Int) % 2) = 0 := by omega
          rw [this]; rfl
        clear hbit
        by_cases hbig : 255 < 2 * X
        · have E5 := Lib.hid (e5 hbig)
          clear e5
          go_wp2_with fail
          go_round
          case rel => exact ⟨Gf.xt X, Y / 2, S, j, hxt, by omega, HJ.out, hS, by rw [E5.out], by go_num, rfl, E2.out HB.out⟩
          case measure => simp [intOf]; omega
        · have E5 := Lib.hid (E6.out hbig)
          clear e5
          go_wp2_with fail
          go_round
          case rel => exact ⟨Gf.xt X, Y / 2, S, j, hxt, by omega, HJ.out, hS, by rw [E5.out], by go_num, rfl, E2.out HB.out⟩
          case measure => simp [intOf]; omega
    · obtain rfl : Y = 0 := by omega
      have hz : ∀ j X, Gf.mulK j X 0 = 0 := by
        intro j
        induction j with
        | zero => intro X; rfl
        | succ j ih => intro X; rw [Gf.mulK, show 0 / 2 = 0 from rfl, ih]; simp
      have hfin : S = Gf.mulN a b := by have := HM.out; rw [hz, Nat.xor_zero] at this; exact this
      have HF := Lib.hid hfin
      clear hfin hz hj
      go_wp2_with fail
      go_ret
      exact ⟨ret_int (by rw [← HF.out]), rfl⟩
theorem rmul_any (a b : Int) (w : World) (ha : 0 ≤ a) (ha' : a < 256) (hb : 0 ≤ b) (hb' : b < 256) :
    Calls Tryd.prog 55 #[.int .u8 a, .int .u8 b] w fun e w' => e = .returned (.int .u8 (Gf.mulI a b)) ∧ w = w' := by
  obtain ⟨a, rfl⟩ := Int.eq_ofNat_of_zero_le ha
  obtain ⟨b, rfl⟩ := Int.eq_ofNat_of_zero_le hb
  rw [Gf.mulI_nat]
  exact rmul_nat a b (by omega) (by omega) w
theorem rexponent (n : Int) (w : World) (h1 : -9223372036854775808 ≤ n) (h2 : n ≤ 9223372036854775807) :
    Calls Tryd.prog 54 #[.int .i64 n] w fun e w' => e = .returned (.int .i64 (n % 255)) ∧ w = w' := by
  have e : (n.tmod 255 + 255) % 255 = n % 255 ∧ -255 < n.tmod 255 ∧ n.tmod 255 < 255 := by
    by_cases h0 : 0 ≤ n
    · rw [Int.tmod_eq_emod_of_nonneg h0]; omega
    · have h := Int.neg_tmod (-n) 255
      rw [Int.neg_neg, Int.tmod_eq_emod_of_nonneg (a := -n) (by omega)] at h
      rw [h]; omega
  have h3 := e.2.1
  have h4 := e.2.2
  have E := Lib.hid e.1
  clear e
  go_enter Tryd.func54, Tryd.ntmps54
  go_wp2_with fail
  go_ret
  exact ⟨ret_int E.out, rfl⟩
set_option maxRecDepth 100000 in
theorem rinv_nat (a : Nat) (ha : a < 256) (w : World) (h0 : a ≠ 0) :
    Calls Tryd.prog 56 #[.int .u8 a] w fun e w' => e = .returned (.int .u8 (Gf.invN a : Nat)) ∧ w = w' := by
  have hi := Gf.invN_lt a
  have hm := Gf.mul_invN ha h0
  have hne : Gf.invN a ≠ 0 := fun h => by rw [h, Gf.mulN_zero2] at hm; omega
  have hpos : 1 ≤ Gf.invN a := by omega
  have HM := Lib.hid hm
  have HZ := Lib.hid h0
  clear hm h0 hne
  go_enter Tryd.func56, Tryd.ntmps56
  go_wp2_with fail
  go_loop [3] (fun vb => ∃ b : Nat, 1 ≤ b ∧ b ≤ Gf.invN a ∧ vb = .int .i64 b) (fun vb => (256 - intOf vb).toNat)
  case atStart => exact ⟨1, by omega, hpos, rfl⟩
  case round =>
    obtain ⟨b, hb1, hb2, rfl⟩ := hrel
    by_cases he : b = Gf.invN a
    · have e1 : (Gf.mulI (a : Int) (b : Int) == 1) = true := by
        rw [Gf.mulI_nat]
        rw [he, HM.out]; rfl
      have HE := Lib.hid he
      clear he
      go_wp2_with fail
      refine (rmul_any _ _ _ (by omega) (by omega) (by omega) (by omega)).mono ?_
      rintro e w' ⟨rfl, rfl⟩
      go_wp2_with fail
      go_ret
      exact ⟨ret_int (by rw [← HE.out]), rfl⟩
    · have e1 : (Gf.mulI (a : Int) (b : Int) == 1) = false := by
        rw [Gf.mulI_nat]
        rw [beq_eq_false_iff_ne]
        intro e
        have e' : Gf.mulN a b = 1 := by omega
        apply he
        have h3 := Gf.mulN_assoc (Gf.invN_lt a) ha (c := b) (by omega)
        rw [e', Gf.mulN_comm (Gf.invN_lt a) ha, HM.out, Gf.mulN_one1 (by omega), Gf.mulN_one2 (Gf.invN_lt a)] at h3
        exact h3
      have HE := Lib.hid he
      have hlt : b < Gf.invN a := by omega
      clear he
      go_wp2_with fail
      refine (rmul_any _ _ _ (by omega) (by omega) (by omega) (by omega)).mono ?_
      rintro e w' ⟨rfl, rfl⟩
      go_wp2_with fail
      go_round
      case rel => exact ⟨b + 1, by omega, by omega, by go_num⟩
      case measure => simp [intOf]; omega
theorem rexp (n : Int) (w : World) (h1 : -9223372036854775808 ≤ n) (h2 : n ≤ 9223372036854775807) :
    Calls Tryd.prog 46 #[.int .i64 n] w fun e w' => e = .returned (.int .u8 (Gf.powN 2 (n % 255).toNat : Nat)) ∧ w = w' := by
  obtain ⟨N, hN⟩ : ∃ N : Nat, (N : Int) = n % 255 := ⟨(n % 255).toNat, by omega⟩
  have hN' : N < 255 := by omega
  have HN := Lib.hid hN
  clear hN
  go_enter Tryd.func46, Tryd.ntmps46
  go_wp2_with fail
  go_loop [3, 4] (fun vx vk => ∃ k : Nat, k ≤ N ∧ vk = .int .i64 k ∧ vx = .int .u8 (Gf.powN 2 k : Nat)) (fun _ vk => N - (intOf vk).toNat)
  case atStart => exact ⟨0, by omega, rfl, by rw [Gf.powN_nil]; rfl⟩
  case round =>
    obtain ⟨k, hk, rfl, rfl⟩ := hrel
    have HP := Lib.hid (Gf.powN_lt (a := 2) k)
    by_cases hlt : k < N
    · go_wp2_with fail
      refine (rexponent n _ h1 h2).mono ?_
      rw [← HN.out]
      rintro e w' ⟨rfl, rfl⟩
      go_wp2_with fail
      refine (rmul_any _ _ _ (by omega) (by have := HP.out; omega) (by omega) (by omega)).mono ?_
      rintro e w' ⟨rfl, rfl⟩
      go_wp2_with fail
      go_round
      case rel => exact ⟨k + 1, by omega, by go_num, by first | rw [Gf.powN_step2] | rw [Gf.powN_step]⟩
      case measure => simp [intOf]; omega
    · obtain rfl : k = N := by omega
      go_wp2_with fail
      refine (rexponent n _ h1 h2).mono ?_
      rw [← HN.out]
      rintro e w' ⟨rfl, rfl⟩
      go_wp2_with fail
      go_ret
      exact ⟨ret_int (by rw [← HN.out]; rfl), rfl⟩
end Go.Proofs.YtdbolgollpnfdaaDoor
