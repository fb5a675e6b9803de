/- THE LAWS of the field over single bytes and numbers: FieldMatchesSpec and FieldPowers. -/
import Derived.Test.YtgnlpjnpnnnekaaDoorLaws04a
namespace Gf
/-- Exp's result. -/
def expI (n : Int) : Int := (powN 2 (n % 255).toNat : Nat)
theorem expI_def (n : Int) : ((powN 2 (n % 255).toNat : Nat) : Int) = expI n := rfl
theorem expI_lo (n : Int) : 0 ≤ expI n := by unfold expI; omega
theorem expI_hi (n : Int) : expI n < 256 := by
  unfold expI
  have := powN_lt (a := 2) (n % 255).toNat
  omega
theorem mod_add (m n : Int) : ((m + n) % 255).toNat = ((m % 255).toNat + (n % 255).toNat) % 255 := by omega
theorem expI_add (m n : Int) : expI (m + n) = mulI (expI m) (expI n) := by
  unfold expI
  rw [mulI_nat, mod_add, ← powN_mod (by omega) (by omega), powN_add (by omega)]
theorem expI_period (n : Int) : expI (n + 255) = expI n := by
  unfold expI
  rw [show (n + 255) % 255 = n % 255 from by omega]
theorem expI_ne (n : Int) : expI n ≠ 0 := by
  unfold expI
  have := powN_ne_zero (a := 2) (by omega) (by omega) (n % 255).toNat
  omega
theorem logI_expI (n : Int) : logI (expI n) = n % 255 := by
  have h0 := powN_ne_zero (a := 2) (by omega) (by omega) (n % 255).toNat
  have h1 := logN_ok (powN_lt (a := 2) (n % 255).toNat) h0
  have h2 := powN_inj h1.1 (by omega) h1.2
  unfold expI
  rw [logI_nat h0, h2]
  omega
theorem logI_lo (a : Int) : 0 ≤ logI a := by unfold logI; split <;> omega
theorem logI_hi {a : Int} (ha' : a < 256) (ha0 : 0 ≤ a) : logI a < 255 := by
  unfold logI
  split
  · omega
  · have := (logN_ok (a := a.toNat) (by omega) (by omega)).1
    omega
theorem expI_logI {a : Int} (ha : 0 ≤ a) (ha' : a < 256) (h0 : a ≠ 0) : expI (logI a) = a := by
  obtain ⟨a, rfl⟩ := Int.eq_ofNat_of_zero_le ha
  have h1 := logN_ok (a := a) (by omega) (by omega)
  rw [logI_nat (by omega), expI, show ((logN a : Nat) : Int) % 255 = (logN a : Nat) from by omega, Int.toNat_natCast, h1.2]
theorem powI_add {a : Int} (ha : 0 ≤ a) (ha' : a < 256) (h0 : a ≠ 0) (m n : Int) : powI a (m + n) = mulI (powI a m) (powI a n) := by
  rw [powI_nat _ h0, powI_nat _ h0, powI_nat _ h0, mulI_nat, mod_add, ← powN_mod (by omega) (by omega), powN_add (by omega)]
theorem powI_255 {a : Int} (h0 : a ≠ 0) : powI a 255 = 1 := by
  rw [powI_nat _ h0, show (255 % 255 : Int).toNat = 0 from rfl, powN_nil]; rfl
theorem powI_neg {a : Int} (h0 : a ≠ 0) : powI a (-1) = (invN a.toNat : Nat) := by
  rw [powI_nat _ h0, invN_def]; rfl
theorem powI_two (n : Int) : powI 2 n = expI n := by
  rw [powI_nat _ (by omega)]; rfl
attribute [irreducible] expI
end Gf
namespace Go.Proofs.YtgnlpjnpnnnekaaDoor
open Go.RowKit
theorem rinv_any (a r : Int) (h : ((Gf.invN a.toNat : Nat) : Int) = r) (w : World) (h0 : a ≠ 0) (ha : 0 ≤ a) (ha' : a < 256) :
    Calls Tryd.prog 17 #[.int .u8 a] w fun e w' => e = .returned (.int .u8 r) ∧ w = w' := by
  obtain ⟨a, rfl⟩ := Int.eq_ofNat_of_zero_le ha
  rw [← h, Int.toNat_natCast]
  exact rinv_nat a (by omega) w (by omega)
theorem rlog_any (a : Int) (w : World) (h0 : a ≠ 0) (ha : 0 ≤ a) (ha' : a < 256) :
    Calls Tryd.prog 18 #[.int .u8 a] w fun e w' => e = .returned (.int .i64 (Gf.logI a)) ∧ w = w' := by
  obtain ⟨a, rfl⟩ := Int.eq_ofNat_of_zero_le ha
  rw [Gf.logI_nat (by omega)]
  exact rlog_nat a (by omega) (by omega) w
theorem rexp_lit (n r : Int) (h : ((Gf.powN 2 (n % 255).toNat : Nat) : Int) = r) (w : World) (h1 : -9223372036854775808 ≤ n) (h2 : n ≤ 9223372036854775807) :
    Calls Tryd.prog 15 #[.int .i64 n] w fun e w' => e = .returned (.int .u8 r) ∧ w = w' := by
  have := rexp n w h1 h2
  rwa [h] at this

set_option maxHeartbeats 1000000 in
set_option maxRecDepth 100000 in
theorem matches_walk (a b n : Int) (w : World) (hT : Tab w) (ha : 0 ≤ a) (ha' : a < 256) (hb : 0 ≤ b) (hb' : b < 256) (h1 : -9223372036854775808 ≤ n) (h2 : n ≤ 9223372036854775807) :
    Calls Tryd.prog 3 #[.int .u8 a, .int .u8 b, .int .i64 n] w fun e w' => e = .returned (.bool true) ∧ Ext w w' := by
  have HT := Lib.hid hT
  clear hT
  by_cases ha0 : a = 0
  · subst ha0
    go_enter Tryd.func3, Tryd.ntmps3
    go_wp2_with fail
    refine (inv_lit 0 0 1 (by decide +kernel) (by decide +kernel) _ HT.out ha ha').mono ?_
    rintro e w' ⟨rfl, rfl⟩
    go_wp2_with fail
    refine (log_lit 0 0 1 (by decide +kernel) (by decide +kernel) _ HT.out ha ha').mono ?_
    rintro e w' ⟨rfl, rfl⟩
    go_wp2_with fail
    refine (sanity_any _ (HT.out)).mono ?_
    rintro e w1 ⟨rfl, hx⟩
    have HX := Lib.hid hx
    clear hx
    go_wp2_with fail
    refine (mul_lit 0 b 0 (Gf.mulI_zero1 b) _ (HT.out.ext HX.out) ha ha' hb hb').mono ?_
    rintro e w' ⟨rfl, rfl⟩
    go_wp2_with fail
    refine (pow_lit 0 n _ rfl _ (HT.out.ext HX.out) ha ha' h1 h2).mono ?_
    rintro e w' ⟨rfl, rfl⟩
    go_wp2_with fail
    refine (rpow 0 n _ ha ha' h1 h2).mono ?_
    rintro e w' ⟨rfl, rfl⟩
    go_wp2_with fail
    refine (exp_lit n _ (Gf.expI_def n) _ (HT.out.ext HX.out) h1 h2).mono ?_
    rintro e w' ⟨rfl, rfl⟩
    go_wp2_with fail
    refine (rexp_lit n _ (Gf.expI_def n) _ h1 h2).mono ?_
    rintro e w' ⟨rfl, rfl⟩
    go_wp2_with fail
    go_ret
    exact ⟨rfl, HX.out⟩
  · have z1 : (a == 0) = false := by simpa using ha0
    have e2 := Gf.noneI_nat ha0
    have E2 := Lib.hid e2
    have HA := Lib.hid ha0
    clear e2 ha0
    go_enter Tryd.func3, Tryd.ntmps3
    go_wp2_with fail
    refine (inv_lit a _ 0 rfl E2.out _ HT.out ha ha').mono ?_
    rintro e w' ⟨rfl, rfl⟩
    go_wp2_with fail
    refine (log_lit a _ 0 rfl E2.out _ HT.out ha ha').mono ?_
    rintro e w' ⟨rfl, rfl⟩
    go_wp2_with fail
    refine (sanity_any _ (HT.out)).mono ?_
    rintro e w1 ⟨rfl, hx⟩
    have HX := Lib.hid hx
    clear hx
    go_wp2_with fail
    refine (mul_lit a b _ rfl _ (HT.out.ext HX.out) ha ha' hb hb').mono ?_
    rintro e w' ⟨rfl, rfl⟩
    go_wp2_with fail
    refine (rmul_any a b _ ha ha' hb hb').mono ?_
    rintro e w' ⟨rfl, rfl⟩
    go_wp2_with fail
    refine (rinv_any a _ rfl _ HA.out ha ha').mono ?_
    rintro e w' ⟨rfl, rfl⟩
    go_wp2_with fail
    refine (rlog_any a _ HA.out ha ha').mono ?_
    rintro e w' ⟨rfl, rfl⟩
    go_wp2_with fail
    refine (pow_lit a n _ rfl _ (HT.out.ext HX.out) ha ha' h1 h2).mono ?_
    rintro e w' ⟨rfl, rfl⟩
    go_wp2_with fail
    refine (rpow a n _ ha ha' h1 h2).mono ?_
    rintro e w' ⟨rfl, rfl⟩
    go_wp2_with fail
    refine (exp_lit n _ (Gf.expI_def n) _ (HT.out.ext HX.out) h1 h2).mono ?_
    rintro e w' ⟨rfl, rfl⟩
    go_wp2_with fail
    refine (rexp_lit n _ (Gf.expI_def n) _ h1 h2).mono ?_
    rintro e w' ⟨rfl, rfl⟩
    go_wp2_with fail
    go_ret
    exact ⟨rfl, HX.out⟩

set_option maxHeartbeats 1000000 in
set_option maxRecDepth 100000 in
theorem powers_out (m n a : Int) (w : World) (hT : Tab w) (hm : -9223372036854775808 ≤ m) (hm' : m ≤ 9223372036854775807) (hn : -9223372036854775808 ≤ n) (hn' : n ≤ 9223372036854775807)
    (hout : m < -1152921504606846976 ∨ 1152921504606846976 < m ∨ n < -1152921504606846976 ∨ 1152921504606846976 < n) :
    Calls Tryd.prog 5 #[.int .i64 m, .int .i64 n, .int .u8 a] w fun e w' => e = .returned (.bool true) ∧ Ext w w' := by
  have HT := Lib.hid hT
  clear hT
  have four : m < -1152921504606846976 ∨ (¬ m < -1152921504606846976 ∧ 1152921504606846976 < m) ∨ (¬ m < -1152921504606846976 ∧ ¬ 1152921504606846976 < m ∧ n < -1152921504606846976) ∨
      (¬ m < -1152921504606846976 ∧ ¬ 1152921504606846976 < m ∧ ¬ n < -1152921504606846976 ∧ 1152921504606846976 < n) := by omega
  clear hout
  rcases four with g | ⟨g1, g⟩ | ⟨g1, g2, g⟩ | ⟨g1, g2, g3, g⟩
  all_goals
    go_enter Tryd.func5, Tryd.ntmps5
    go_wp2_with fail
    refine (sanity_any _ (HT.out)).mono ?_
    rintro e w1 ⟨rfl, hx⟩
    have HX := Lib.hid hx
    clear hx
    go_wp2_with fail
    go_ret
    exact ⟨rfl, HX.out⟩
set_option maxHeartbeats 2000000 in
set_option maxRecDepth 100000 in
theorem powers_in (m n a : Int) (w : World) (hT : Tab w) (hm : -1152921504606846976 ≤ m) (hm' : m ≤ 1152921504606846976) (hn : -1152921504606846976 ≤ n) (hn' : n ≤ 1152921504606846976) (ha : 0 ≤ a) (ha' : a < 256) :
    Calls Tryd.prog 5 #[.int .i64 m, .int .i64 n, .int .u8 a] w fun e w' => e = .returned (.bool true) ∧ Ext w w' := by
  have HT := Lib.hid hT
  clear hT
  have EL := Lib.hid (fun k => And.intro (Gf.expI_lo k) (Gf.expI_hi k))
  have hmod : ((n - n % 255).tmod 255 == 0) = true := by
    have e : n - n % 255 = (n / 255) * 255 := by omega
    rw [e, Int.mul_tmod_left]; rfl
  have hk := Gf.logI_lo a
  have hk' := Gf.logI_hi ha' ha
  have z2 := Gf.noneI_nat (Gf.expI_ne n)
  have Z2 := Lib.hid z2
  clear z2
  by_cases ha0 : a = 0
  · subst ha0
    go_enter Tryd.func5, Tryd.ntmps5
    go_wp2_with fail
    refine (exp_lit n _ (Gf.expI_def n) _ HT.out (by omega) (by omega)).mono ?_
    rintro e w' ⟨rfl, rfl⟩
    go_wp2_with fail
    refine (log_lit (Gf.expI n) (n % 255) 0 (Gf.logI_expI n) Z2.out _ HT.out (EL.out n).1 (EL.out n).2).mono ?_
    rintro e w' ⟨rfl, rfl⟩
    go_wp2_with fail
    refine (exp_lit (m + n) (Gf.mulI (Gf.expI m) (Gf.expI n)) ((Gf.expI_def _).trans (Gf.expI_add m n)) _ HT.out (by omega) (by omega)).mono ?_
    rintro e w' ⟨rfl, rfl⟩
    go_wp2_with fail
    refine (exp_lit m _ (Gf.expI_def m) _ HT.out (by omega) (by omega)).mono ?_
    rintro e w' ⟨rfl, rfl⟩
    go_wp2_with fail
    refine (exp_lit n _ (Gf.expI_def n) _ HT.out (by omega) (by omega)).mono ?_
    rintro e w' ⟨rfl, rfl⟩
    go_wp2_with fail
    refine (mul_lit (Gf.expI m) (Gf.expI n) _ rfl _ HT.out (EL.out m).1 (EL.out m).2 (EL.out n).1 (EL.out n).2).mono ?_
    rintro e w' ⟨rfl, rfl⟩
    go_wp2_with fail
    refine (exp_lit (n + 255) (Gf.expI n) ((Gf.expI_def _).trans (Gf.expI_period n)) _ HT.out (by omega) (by omega)).mono ?_
    rintro e w' ⟨rfl, rfl⟩
    go_wp2_with fail
    refine (exp_lit n _ (Gf.expI_def n) _ HT.out (by omega) (by omega)).mono ?_
    rintro e w' ⟨rfl, rfl⟩
    go_wp2_with fail
    refine (sanity_any _ (HT.out)).mono ?_
    rintro e w1 ⟨rfl, hx⟩
    have HX := Lib.hid hx
    clear hx
    go_wp2_with fail
    go_ret
    exact ⟨rfl, HX.out⟩
  · have z1 : (a == 0) = false := by simpa using ha0
    have e2 := Gf.noneI_nat ha0
    have E2 := Lib.hid e2
    have HA := Lib.hid ha0
    have PL := Lib.hid (fun k => And.intro (Gf.powI_lo a k) (Gf.powI_hi a k))
    clear e2 ha0
    go_enter Tryd.func5, Tryd.ntmps5
    go_wp2_with fail
    refine (exp_lit n _ (Gf.expI_def n) _ HT.out (by omega) (by omega)).mono ?_
    rintro e w' ⟨rfl, rfl⟩
    go_wp2_with fail
    refine (log_lit (Gf.expI n) (n % 255) 0 (Gf.logI_expI n) Z2.out _ HT.out (EL.out n).1 (EL.out n).2).mono ?_
    rintro e w' ⟨rfl, rfl⟩
    go_wp2_with fail
    refine (exp_lit (m + n) (Gf.mulI (Gf.expI m) (Gf.expI n)) ((Gf.expI_def _).trans (Gf.expI_add m n)) _ HT.out (by omega) (by omega)).mono ?_
    rintro e w' ⟨rfl, rfl⟩
    go_wp2_with fail
    refine (exp_lit m _ (Gf.expI_def m) _ HT.out (by omega) (by omega)).mono ?_
    rintro e w' ⟨rfl, rfl⟩
    go_wp2_with fail
    refine (exp_lit n _ (Gf.expI_def n) _ HT.out (by omega) (by omega)).mono ?_
    rintro e w' ⟨rfl, rfl⟩
    go_wp2_with fail
    refine (mul_lit (Gf.expI m) (Gf.expI n) _ rfl _ HT.out (EL.out m).1 (EL.out m).2 (EL.out n).1 (EL.out n).2).mono ?_
    rintro e w' ⟨rfl, rfl⟩
    go_wp2_with fail
    refine (exp_lit (n + 255) (Gf.expI n) ((Gf.expI_def _).trans (Gf.expI_period n)) _ HT.out (by omega) (by omega)).mono ?_
    rintro e w' ⟨rfl, rfl⟩
    go_wp2_with fail
    refine (exp_lit n _ (Gf.expI_def n) _ HT.out (by omega) (by omega)).mono ?_
    rintro e w' ⟨rfl, rfl⟩
    go_wp2_with fail
    refine (inv_lit a _ 0 rfl E2.out _ HT.out ha ha').mono ?_
    rintro e w' ⟨rfl, rfl⟩
    go_wp2_with fail
    refine (log_lit a _ 0 rfl E2.out _ HT.out ha ha').mono ?_
    rintro e w' ⟨rfl, rfl⟩
    go_wp2_with fail
    refine (pow_lit a (m + n) (Gf.mulI (Gf.powI a m) (Gf.powI a n)) (Gf.powI_add ha ha' HA.out m n) _ HT.out ha ha' (by omega) (by omega)).mono ?_
    rintro e w' ⟨rfl, rfl⟩
    go_wp2_with fail
    refine (pow_lit a m _ rfl _ HT.out ha ha' (by omega) (by omega)).mono ?_
    rintro e w' ⟨rfl, rfl⟩
    go_wp2_with fail
    refine (pow_lit a n _ rfl _ HT.out ha ha' (by omega) (by omega)).mono ?_
    rintro e w' ⟨rfl, rfl⟩
    go_wp2_with fail
    refine (mul_lit (Gf.powI a m) (Gf.powI a n) _ rfl _ HT.out (PL.out m).1 (PL.out m).2 (PL.out n).1 (PL.out n).2).mono ?_
    rintro e w' ⟨rfl, rfl⟩
    go_wp2_with fail
    refine (pow_lit a 255 1 (Gf.powI_255 HA.out) _ HT.out ha ha' (by omega) (by omega)).mono ?_
    rintro e w' ⟨rfl, rfl⟩
    go_wp2_with fail
    refine (pow_lit a (-1) _ (Gf.powI_neg HA.out) _ HT.out ha ha' (by omega) (by omega)).mono ?_
    rintro e w' ⟨rfl, rfl⟩
    go_wp2_with fail
    refine (pow_lit 2 n _ (Gf.powI_two n) _ HT.out (by omega) (by omega) (by omega) (by omega)).mono ?_
    rintro e w' ⟨rfl, rfl⟩
    go_wp2_with fail
    refine (exp_lit n _ (Gf.expI_def n) _ HT.out (by omega) (by omega)).mono ?_
    rintro e w' ⟨rfl, rfl⟩
    go_wp2_with fail
    refine (exp_lit (Gf.logI a) a ((Gf.expI_def _).trans (Gf.expI_logI ha ha' HA.out)) _ HT.out (by omega) (by omega)).mono ?_
    rintro e w' ⟨rfl, rfl⟩
    go_wp2_with fail
    refine (sanity_any _ (HT.out)).mono ?_
    rintro e w1 ⟨rfl, hx⟩
    have HX := Lib.hid hx
    clear hx
    go_wp2_with fail
    go_ret
    exact ⟨rfl, HX.out⟩
end Go.Proofs.YtgnlpjnpnnnekaaDoor
