/- THE WALKS over Log and Pow of package gf (a part of Field, for a seat without the specification). -/
import Derived.Test.YtheeafhpjffbkaaDoorGfW
namespace Go.Proofs.YtheeafhpjffbkaaDoor
open Go.RowKit
/-- What Pow returns. -/
theorem pow_any (a n : Int) (w : World) (hT : Tab w) (ha : 0 ≤ a) (ha' : a < 256) (h1 : -9223372036854775808 ≤ n) (h2 : n ≤ 9223372036854775807) :
    Calls Tryd.prog 12 #[.int .u8 a, .int .i64 n] w fun e w' => e = .returned (.int .u8 (Gf.powI a n)) ∧ w = w' := by
  have HT := Lib.hid hT
  clear hT
  by_cases h0 : a = 0
  · subst h0
    by_cases hn : n = 0
    · subst hn
      go_enter Tryd.func12, Tryd.ntmps12
      go_wp2_with fail
      refine (modulo_any 0 _ (by omega) (by omega)).mono ?_
      rintro e w' ⟨rfl, rfl⟩
      go_wp2_with fail
      refine (power_any 0 _ _ HT.out (by omega) (by omega) (by omega) (by omega)).mono ?_
      rintro e w' ⟨rfl, rfl⟩
      go_wp2_with fail
      go_ret
      exact ⟨ret_int (by rw [Gf.powI_nil]; simp [Gf.powN_nil]), rfl⟩
    · have e1 := Gf.powI_zero hn
      have E1 := Lib.hid e1
      have e2 : (n == 0) = false := by simpa using hn
      clear e1 hn
      go_enter Tryd.func12, Tryd.ntmps12
      go_wp2_with fail
      go_ret
      exact ⟨ret_int E1.out.symm, rfl⟩
  · have e1 := Gf.powI_nat n h0
    have E1 := Lib.hid e1
    have e2 : (a == 0) = false := by simpa using h0
    clear e1 h0
    go_enter Tryd.func12, Tryd.ntmps12
    go_wp2_with fail
    refine (modulo_any n _ h1 h2).mono ?_
    rintro e w' ⟨rfl, rfl⟩
    go_wp2_with fail
    refine (power_any a _ _ HT.out (by omega) (by omega) (by omega) (by omega)).mono ?_
    rintro e w' ⟨rfl, rfl⟩
    go_wp2_with fail
    go_ret
    exact ⟨ret_int E1.out.symm, rfl⟩

set_option maxRecDepth 100000 in
/-- What Log returns for a byte that is not 0. -/
theorem log_nat (a : Nat) (ha : a < 256) (h0 : a ≠ 0) (w : World) (hT : Tab w) :
    Calls Tryd.prog 10 #[.int .u8 a] w fun e w' => e = .returned (.tuple #[.int .i64 (Gf.logN a : Nat), .int .i64 0]) ∧ w = w' := by
  have HT := Lib.hid hT
  have hk := Gf.logN_ok ha h0
  have hk1 := hk.1
  have HK := Lib.hid hk
  clear hT hk h0
  go_enter Tryd.func10, Tryd.ntmps10
  go_wp2_with fail
  go_loop [4, 6] (fun vx vk => ∃ k : Nat, k ≤ Gf.logN a ∧ vk = .int .i64 k ∧ vx = .int .u8 (Gf.powN 2 k : Nat)) (fun _ vk => (255 - intOf vk).toNat)
  case atStart => exact ⟨0, by omega, rfl, by rw [Gf.powN_nil]; rfl⟩
  case round =>
    obtain ⟨k, hk, rfl, rfl⟩ := hrel
    have HP := Lib.hid (Gf.powN_lt (a := 2) k)
    by_cases he : k = Gf.logN a
    · have e1 : (((Gf.powN 2 k : Nat) : Int) == (a : Int)) = true := by rw [he, HK.out.2]; simp
      have HE := Lib.hid he
      clear he
      go_wp2_with fail
      go_ret2
      exact ⟨by rw [HE.out]; rfl, rfl⟩
    · have e1 : (((Gf.powN 2 k : Nat) : Int) == (a : Int)) = false := by
        rw [beq_eq_false_iff_ne]
        intro e
        exact he (Gf.powN_inj (by omega) hk1 (by rw [HK.out.2]; omega))
      have HE := Lib.hid he
      have hlt : k < Gf.logN a := by omega
      clear he
      go_wp2_with fail
      refine (mul_any _ _ _ HT.out (by omega) (by have := HP.out; omega) (by omega) (by omega)).mono ?_
      rintro e w' ⟨rfl, rfl⟩
      go_wp2_with fail
      go_round
      case rel => exact ⟨k + 1, by omega, by go_num, by first | rw [Gf.powN_step2] | rw [Gf.powN_step]⟩
      case measure => simp [intOf]; omega
set_option maxRecDepth 100000 in
theorem log_zero (w : World) (hT : Tab w) :
    Calls Tryd.prog 10 #[.int .u8 0] w fun e w' => e = .returned (.tuple #[.int .i64 0, .int .i64 1]) ∧ w = w' := by
  have HT := Lib.hid hT
  clear hT
  go_enter Tryd.func10, Tryd.ntmps10
  go_wp2_with fail
  go_loop [4, 6] (fun vx vk => ∃ k : Nat, k ≤ 255 ∧ vk = .int .i64 k ∧ vx = .int .u8 (Gf.powN 2 k : Nat)) (fun _ vk => (255 - intOf vk).toNat)
  case atStart => exact ⟨0, by omega, rfl, by rw [Gf.powN_nil]; rfl⟩
  case round =>
    obtain ⟨k, hk, rfl, rfl⟩ := hrel
    have HP := Lib.hid (Gf.powN_lt (a := 2) k)
    have e1 : (((Gf.powN 2 k : Nat) : Int) == 0) = false := by
      rw [beq_eq_false_iff_ne]
      have := Gf.powN_ne_zero (a := 2) (by omega) (by omega) k
      omega
    by_cases hlt : k < 255
    · go_wp2_with fail
      refine (mul_any _ _ _ HT.out (by omega) (by have := HP.out; omega) (by omega) (by omega)).mono ?_
      rintro e w' ⟨rfl, rfl⟩
      go_wp2_with fail
      go_round
      case rel => exact ⟨k + 1, by omega, by go_num, by first | rw [Gf.powN_step2] | rw [Gf.powN_step]⟩
      case measure => simp [intOf]; omega
    · go_wp2_with fail
      go_ret2
      exact ⟨rfl, rfl⟩
/-- Both results of Log, for every byte. -/
theorem log_any (a : Int) (w : World) (hT : Tab w) (ha : 0 ≤ a) (ha' : a < 256) :
    Calls Tryd.prog 10 #[.int .u8 a] w fun e w' => e = .returned (.tuple #[.int .i64 (Gf.logI a), .int .i64 (Gf.noneI a)]) ∧ w = w' := by
  obtain ⟨a, rfl⟩ := Int.eq_ofNat_of_zero_le ha
  by_cases h0 : a = 0
  · subst h0
    refine (log_zero w hT).mono ?_
    rintro e w' ⟨rfl, rfl⟩
    exact ⟨by rw [show Gf.noneI ((0 : Nat) : Int) = 1 from Gf.noneI_zero, show Gf.logI ((0 : Nat) : Int) = 0 from Gf.logI_zero], rfl⟩
  · refine (log_nat a (by omega) h0 w hT).mono ?_
    rintro e w' ⟨rfl, rfl⟩
    refine ⟨?_, rfl⟩
    rw [Gf.noneI_nat (by omega), Gf.logI_nat h0]
end Go.Proofs.YtheeafhpjffbkaaDoor
