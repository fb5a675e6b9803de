/- THE WALKS over package gf: what each of its functions returns, in the numbers of the text on the field. -/
import Derived.Test.YtdbolgollpnfdaaDoorRows
import Derived.Test.YtdbolgollpnfdaaDoorGf
import Derived.Test.YtdbolgollpnfdaaDoorLib
namespace Go.Proofs.YtdbolgollpnfdaaDoor
open Go.RowKit

/-- The table of package gf lies in memory. -/
def Tab (w : World) : Prop := ∀ k, k < 16 → w.cell? ⟨0, k, none⟩ = some (.int .u8 (Gf.hi k : Nat))
theorem Tab.below {B : Nat} {w w' : World} (h : Tab w) (hb : Below B w w') (hB : 0 < B) : Tab w' :=
  fun k hk => (hb.cell (p := ⟨0, k, none⟩) hB).trans (h k hk)
theorem Tab.size {w : World} (h : Tab w) : 0 < w.heap.size := by
  have := h 0 (by omega)
  rcases Nat.lt_or_ge 0 w.heap.size with h1 | h1
  · exact h1
  · simp [World.cell?, Array.getElem?_eq_none h1] at this
theorem Tab.ext {w w' : World} (h : Tab w) (hb : Below w.heap.size w w') : Tab w' := h.below hb h.size

theorem reduce_nat (n : Nat) (h1 : n < 4096) (w : World) (hT : Tab w) :
    Calls Tryd.prog 64 #[.int .u64 n] w fun e w' => e = .returned (.int .u8 (Gf.red n : Nat)) ∧ w = w' := by
  have e1 : bits .and .u64 ((n : Int) / 256) 15 = ((n / 256 % 16 : Nat) : Int) := by
    have := u64_and_nat (n / 256) 15 (by omega) (by omega)
    rw [nat_mask4] at this
    simpa using this
  have hc := hT (n / 256 % 16) (by omega)
  have hl := Gf.hi_lt (k := n / 256 % 16) (by omega)
  have e2 : bits .xor .u8 ((n : Int) % 256) ((Gf.hi (n / 256 % 16) : Nat) : Int) = ((Gf.red n : Nat) : Int) := by
    have := u8_xor_nat (n % 256) (Gf.hi (n / 256 % 16)) (by omega) hl
    rw [Gf.red_def]
    simpa using this
  go_enter Tryd.func64, Tryd.ntmps64
  go_wp2_with fail
  go_ret
  first | exact ⟨rfl, rfl⟩ | exact ⟨ret_int e2, rfl⟩

theorem times_nat (a n : Nat) (ha : a < 256) (hn : n < 16) (w : World) (hT : Tab w) :
    Calls Tryd.prog 65 #[.int .u8 a, .int .u64 n] w fun e w' => e = .returned (.int .u8 (Gf.tms a n : Nat)) ∧ w = w' := by
  have HT := Lib.hid hT
  clear hT
  go_enter Tryd.func65, Tryd.ntmps65
  go_wp2_with fail
  go_loop [5, 7] (fun x i => ∃ k : Nat, k ≤ 4 ∧ i = .int .i64 k ∧ x = .int .u64 (Gf.tacc a n k : Nat)) (fun _ i => 4 - (intOf i).toNat)
  case atStart => exact ⟨0, by omega, rfl, rfl⟩
  case round =>
    obtain ⟨k, hk, rfl, rfl⟩ := hrel
    have hb := Gf.tacc_lt a n ha k
    have hb2 : 2 ^ (8 + k) ≤ 2 ^ 12 := Nat.pow_le_pow_right (by omega) (by omega)
    have hb3 : Gf.tacc a n k < 4096 := by omega
    clear hb hb2
    by_cases hlt : k < 4
    · have hp : 2 ^ k ≤ 2 ^ 4 := Nat.pow_le_pow_right (by omega) (by omega)
      have hap : a * 2 ^ k < 256 * 16 := Nat.mul_lt_mul_of_lt_of_le ha (by omega) (by omega)
      have e0 : bits .and .u64 ((n : Int) / 2 ^ k) 1 = ((n / 2 ^ k % 2 : Nat) : Int) := by
        have hd : n / 2 ^ k ≤ n := Nat.div_le_self _ _
        have := u64_and_nat (n / 2 ^ k) 1 (by omega) (by omega)
        rw [nat_mask1] at this
        simpa using this
      have e1 : IntKind.u64.wrap ((a : Int) * 2 ^ k) = ((a * 2 ^ k : Nat) : Int) := by
        have h : ((a : Int) * 2 ^ k) = ((a * 2 ^ k : Nat) : Int) := by simp
        rw [h, IntKind.wrap_u64]
        omega
      have e2 : bits .xor .u64 ((Gf.tacc a n k : Nat) : Int) (IntKind.u64.wrap ((a : Int) * 2 ^ k)) = ((Gf.tacc a n k ^^^ (a * 2 ^ k) : Nat) : Int) := by
        rw [e1]; exact u64_xor_nat _ _ (by omega) (by omega)
      have HP := Lib.hid hp
      have HA := Lib.hid hap
      have H1 := Lib.hid e1
      clear hp hap e1
      by_cases hbit : n / 2 ^ k % 2 = 1
      · have H : Gf.tacc a n (k + 1) = Gf.tacc a n k ^^^ (a * 2 ^ k) := by rw [Gf.tacc, if_pos hbit]
        have HH := Lib.hid H
        clear H
        have e3 : (bits .and .u64 ((n : Int) / 2 ^ k) 1 == 1) = true := by rw [e0, hbit]; rfl
        clear e0
        have HB := Lib.hid hbit
        clear hbit
        go_wp2_with fail
        go_round
        case rel => exact ⟨k + 1, by omega, by go_num, by rw [HH.out]⟩
        case measure => simp [intOf]; omega
      · have H : Gf.tacc a n (k + 1) = Gf.tacc a n k := by rw [Gf.tacc, if_neg hbit]
        have HH := Lib.hid H
        clear H
        have e3 : (bits .and .u64 ((n : Int) / 2 ^ k) 1 == 1) = false := by
          have h0 : n / 2 ^ k % 2 = 0 := by omega
          rw [e0, h0]; rfl
        clear e0
        have HB := Lib.hid hbit
        clear hbit
        go_wp2_with fail
        go_round
        case rel => exact ⟨k + 1, by omega, by go_num, by rw [HH.out]⟩
        case measure => simp [intOf]; omega
    · obtain rfl : k = 4 := by omega
      go_wp2_with (go_at_call 64; refine (reduce_nat _ hb3 _ HT.out).mono ?_; rintro e w' ⟨rfl, rfl⟩)
      go_ret
      exact ⟨ret_int (by rw [Gf.tms_def]), rfl⟩

theorem mul_nat (a b : Nat) (ha : a < 256) (hb : b < 256) (w : World) (hT : Tab w) :
    Calls Tryd.prog 60 #[.int .u8 a, .int .u8 b] w fun e w' => e = .returned (.int .u8 (Gf.mulN a b : Nat)) ∧ w = w' := by
  have HT := Lib.hid hT
  clear hT
  have h1 := Gf.tms_lt a (b / 16)
  have h2 := Gf.tms_lt a (b % 16)
  have e1 : bits .and .u8 (b : Int) 15 = ((b % 16 : Nat) : Int) := by
    have := u8_and_nat b 15 (by omega) (by omega)
    rw [nat_mask4] at this
    simpa using this
  have e2 : bits .xor .u8 ((Gf.red (Gf.tms a (b / 16) * 16) : Nat) : Int) ((Gf.tms a (b % 16) : Nat) : Int) = ((Gf.mulN a b : Nat) : Int) := by
    rw [u8_xor_nat _ _ (Gf.red_lt _) h2, ← Gf.mulG_eq ha hb, Gf.mulG]
  have H2 := Lib.hid e2
  clear e2
  go_enter Tryd.func60, Tryd.ntmps60
  go_wp2_with fail
  refine (times_nat a (b / 16) ha (by omega) _ HT.out).mono ?_
  rintro e w' ⟨rfl, rfl⟩
  go_wp2_with fail
  refine (reduce_nat (Gf.tms a (b / 16) * 16) (by omega) _ HT.out).mono ?_
  rintro e w' ⟨rfl, rfl⟩
  go_wp2_with fail
  refine (times_nat a (b % 16) ha (by omega) _ HT.out).mono ?_
  rintro e w' ⟨rfl, rfl⟩
  go_wp2_with fail
  go_ret
  exact ⟨ret_int H2.out, rfl⟩
/-- Mul, whatever the terms for its arguments are. -/
theorem mul_any (a b : Int) (w : World) (hT : Tab w) (ha : 0 ≤ a) (ha' : a < 256) (hb : 0 ≤ b) (hb' : b < 256) :
    Calls Tryd.prog 60 #[.int .u8 a, .int .u8 b] w fun e w' => e = .returned (.int .u8 (Gf.mulI a b)) ∧ w = w' := by
  obtain ⟨a, rfl⟩ := Int.eq_ofNat_of_zero_le ha
  obtain ⟨b, rfl⟩ := Int.eq_ofNat_of_zero_le hb
  rw [Gf.mulI_nat]
  exact mul_nat a b (by omega) (by omega) w hT

theorem power_nat (a n : Nat) (ha : a < 256) (hn : n < 1000) (w : World) (hT : Tab w) :
    Calls Tryd.prog 57 #[.int .u8 a, .int .i64 n] w fun e w' => e = .returned (.int .u8 (Gf.powN a n : Nat)) ∧ w = w' := by
  have HT := Lib.hid hT
  clear hT
  go_enter Tryd.func57, Tryd.ntmps57
  go_wp2_with fail
  go_loop [0, 1, 5] (fun va vn vx => ∃ A N X : Nat, A < 256 ∧ X < 256 ∧ N < 1000 ∧ va = .int .u8 A ∧ vn = .int .i64 N ∧ vx = .int .u8 X ∧ Gf.mulN X (Gf.powN A N) = Gf.powN a n) (fun _ vn _ => (intOf vn).toNat)
  case atStart => exact ⟨a, n, 1, ha, by omega, hn, rfl, rfl, rfl, Gf.mulN_one1 (Gf.powN_lt n)⟩
  case round =>
    obtain ⟨A, N, X, hA, hX, hN, rfl, rfl, rfl, hm⟩ := hrel
    have HM := Lib.hid hm
    clear hm
    have e0 := odd64 N (by omega)
    by_cases hp : 0 < N
    · have hAA := Gf.mulN_lt (a := A) (b := A) hA
      by_cases hbit : N % 2 = 1
      · have hXA := Gf.mulN_lt (a := X) (b := A) hX
        have e3 : (bits .and .i64 (N : Int) 1 == 1) = true := by rw [e0, hbit]; rfl
        have H : Gf.mulN (Gf.mulN X A) (Gf.powN (Gf.mulN A A) (N / 2)) = Gf.powN a n := by
          rw [Gf.powN_two hA, Gf.mulN_assoc hX hA (Gf.powN_lt _), Gf.mulN_comm hA (Gf.powN_lt _), ← HM.out]
          rw [← Gf.powN_succ, show 2 * (N / 2) + 1 = N from by omega]
        have HH := Lib.hid H
        have HB := Lib.hid hbit
        clear H hbit e0
        go_wp2_with fail
        refine (mul_nat X A hX hA _ HT.out).mono ?_
        rintro e w' ⟨rfl, rfl⟩
        go_wp2_with fail
        refine (mul_nat A A hA hA _ HT.out).mono ?_
        rintro e w' ⟨rfl, rfl⟩
        go_wp2_with fail
        go_round
        case rel => exact ⟨Gf.mulN A A, N / 2, Gf.mulN X A, hAA, hXA, by omega, rfl, by go_num, rfl, HH.out⟩
        case measure => simp [intOf]; omega
      · have e3 : (bits .and .i64 (N : Int) 1 == 1) = false := by
          have h0 : N % 2 = 0 := by omega
          rw [e0, h0]; rfl
        have H : Gf.mulN X (Gf.powN (Gf.mulN A A) (N / 2)) = Gf.powN a n := by
          rw [Gf.powN_two hA, show 2 * (N / 2) = N from by omega]; exact HM.out
        have HH := Lib.hid H
        have HB := Lib.hid hbit
        clear H hbit e0
        go_wp2_with fail
        refine (mul_nat A A hA hA _ HT.out).mono ?_
        rintro e w' ⟨rfl, rfl⟩
        go_wp2_with fail
        go_round
        case rel => exact ⟨Gf.mulN A A, N / 2, X, hAA, hX, by omega, rfl, by go_num, rfl, HH.out⟩
        case measure => simp [intOf]; omega
    · obtain rfl : N = 0 := by omega
      have hx : X = Gf.powN a n := by rw [← HM.out, Gf.powN_nil, Gf.mulN_one2 hX]
      have HX := Lib.hid hx
      clear hx e0
      go_wp2_with fail
      go_ret
      exact ⟨ret_int (by rw [HX.out]), rfl⟩

theorem modulo_any (n : Int) (w : World) (h1 : -9223372036854775808 ≤ n) (h2 : n ≤ 9223372036854775807) :
    Calls Tryd.prog 58 #[.int .i64 n] w fun e w' => e = .returned (.int .i64 (n % 255)) ∧ w = w' := by
  by_cases h0 : 0 ≤ n
  · go_enter Tryd.func58, Tryd.ntmps58
    go_wp2_with fail
    go_ret
    exact ⟨rfl, rfl⟩
  · have e : n.tmod 255 = -((-n) % 255) := by
      have h := Int.neg_tmod (-n) 255
      rw [Int.neg_neg, Int.tmod_eq_emod_of_nonneg (a := -n) (by omega)] at h
      exact h
    have e2 : n.tmod 255 < 0 → n.tmod 255 + 255 = n % 255 := fun h => by rw [e] at h ⊢; omega
    have e3 : 0 ≤ n.tmod 255 → n.tmod 255 = n % 255 := fun h => by rw [e] at h ⊢; omega
    have hl : -255 < n.tmod 255 := by rw [e]; omega
    have H2 := Lib.hid e2
    have H3 := Lib.hid e3
    clear e e2 e3
    go_enter Tryd.func58, Tryd.ntmps58
    go_wp2_with fail
    · go_ret
      exact ⟨ret_int (H2.out (by assumption)), rfl⟩
    · go_ret
      exact ⟨ret_int (H3.out (by assumption)), rfl⟩

theorem power_any (a n : Int) (w : World) (hT : Tab w) (ha : 0 ≤ a) (ha' : a < 256) (hn : 0 ≤ n) (hn' : n < 1000) :
    Calls Tryd.prog 57 #[.int .u8 a, .int .i64 n] w fun e w' => e = .returned (.int .u8 (Gf.powN a.toNat n.toNat : Nat)) ∧ w = w' := by
  obtain ⟨a, rfl⟩ := Int.eq_ofNat_of_zero_le ha
  obtain ⟨n, rfl⟩ := Int.eq_ofNat_of_zero_le hn
  exact power_nat a n (by omega) (by omega) w hT

/-- What Inv returns: the zero, and the code of ErrArg, for 0. -/
theorem inv_zero (w : World) : Calls Tryd.prog 63 #[.int .u8 0] w fun e w' => e = .returned (.tuple #[.int .u8 0, .int .i64 1]) ∧ w = w' := by
  go_enter Tryd.func63, Tryd.ntmps63
  go_wp2_with fail
  go_ret2
  exact ⟨rfl, rfl⟩
theorem inv_nat (a : Nat) (ha : a < 256) (h0 : a ≠ 0) (w : World) (hT : Tab w) :
    Calls Tryd.prog 63 #[.int .u8 a] w fun e w' => e = .returned (.tuple #[.int .u8 (Gf.invN a : Nat), .int .i64 0]) ∧ w = w' := by
  have HT := Lib.hid hT
  clear hT
  go_enter Tryd.func63, Tryd.ntmps63
  go_wp2_with fail
  refine (power_any a 254 _ HT.out (by omega) (by omega) (by omega) (by omega)).mono ?_
  rintro e w' ⟨rfl, rfl⟩
  go_wp2_with fail
  go_ret2
  exact ⟨by rw [Gf.invN_def]; rfl, rfl⟩
/-- Both results of Inv, for every byte. -/
theorem inv_any (a : Int) (w : World) (hT : Tab w) (ha : 0 ≤ a) (ha' : a < 256) :
    Calls Tryd.prog 63 #[.int .u8 a] w fun e w' => e = .returned (.tuple #[.int .u8 (Gf.invN a.toNat : Nat), .int .i64 (Gf.noneI a)]) ∧ w = w' := by
  obtain ⟨a, rfl⟩ := Int.eq_ofNat_of_zero_le ha
  by_cases h0 : a = 0
  · subst h0
    refine (inv_zero w).mono ?_
    rintro e w' ⟨rfl, rfl⟩
    refine ⟨?_, rfl⟩
    rw [show Gf.noneI ((0 : Nat) : Int) = 1 from Gf.noneI_zero, show Gf.invN ((0 : Nat) : Int).toNat = 0 from by rw [Gf.invN_def]; exact Gf.powN_zero (by omega)]
    rfl
  · refine (inv_nat a (by omega) h0 w hT).mono ?_
    rintro e w' ⟨rfl, rfl⟩
    refine ⟨?_, rfl⟩
    rw [Gf.noneI_nat (by omega), Int.toNat_natCast]
theorem exp_any (n : Int) (w : World) (hT : Tab w) (h1 : -9223372036854775808 ≤ n) (h2 : n ≤ 9223372036854775807) :
    Calls Tryd.prog 52 #[.int .i64 n] w fun e w' => e = .returned (.int .u8 (Gf.powN 2 (n % 255).toNat : Nat)) ∧ w = w' := by
  have HT := Lib.hid hT
  clear hT
  go_enter Tryd.func52, Tryd.ntmps52
  go_wp2_with fail
  refine (modulo_any n _ h1 h2).mono ?_
  rintro e w' ⟨rfl, rfl⟩
  go_wp2_with fail
  refine (power_any 2 (n % 255) _ HT.out (by omega) (by omega) (by omega) (by omega)).mono ?_
  rintro e w' ⟨rfl, rfl⟩
  go_wp2_with fail
  go_ret
  exact ⟨rfl, rfl⟩
end Go.Proofs.YtdbolgollpnfdaaDoor
