/- THE LAWS of the field over single bytes: each one's walk. -/
import Derived.Test.YtgnlpjnpnnnekaaDoorSane
namespace Gf
open Go
theorem mulI_comm {a b : Int} (ha : 0 ≤ a) (ha' : a < 256) (hb : 0 ≤ b) (hb' : b < 256) : mulI a b = mulI b a := by
  rw [mulI_def, mulI_def, mulN_comm (by omega) (by omega)]
theorem mulI_assoc {a b c : Int} (_ha : 0 ≤ a) (ha' : a < 256) (hb : 0 ≤ b) (hb' : b < 256) (hc : 0 ≤ c) (hc' : c < 256) : mulI (mulI a b) c = mulI a (mulI b c) := by
  rw [mulI_def, mulI_def a b, mulI_def a, mulI_def b c, Int.toNat_natCast, Int.toNat_natCast, mulN_assoc (by omega) (by omega) (by omega)]
theorem mulI_xor {a b c : Int} (_ha : 0 ≤ a) (ha' : a < 256) (hb : 0 ≤ b) (hb' : b < 256) (hc : 0 ≤ c) (hc' : c < 256) :
    mulI a (bits .xor .u8 b c) = bits .xor .u8 (mulI a b) (mulI a c) := by
  rw [u8_xor b c hb hb' hc hc', u8_xor _ _ (mulI_lo _ _) (mulI_hi ha') (mulI_lo _ _) (mulI_hi ha'), mulI_def, mulI_def a b, mulI_def a c, Int.toNat_natCast, Int.toNat_natCast, Int.toNat_natCast,
    show mulN a.toNat (b.toNat ^^^ c.toNat) = _ from mulN_lin2 a.toNat b.toNat c.toNat (by omega) (by omega)]
theorem xor8_lo {a b : Int} (ha : 0 ≤ a) (ha' : a < 256) (hb : 0 ≤ b) (hb' : b < 256) : 0 ≤ bits .xor .u8 a b := by rw [u8_xor a b ha ha' hb hb']; omega
theorem xor8_hi {a b : Int} (ha : 0 ≤ a) (ha' : a < 256) (hb : 0 ≤ b) (hb' : b < 256) : bits .xor .u8 a b < 256 := by
  rw [u8_xor a b ha ha' hb hb']
  have := xor_lt (x := a.toNat) (y := b.toNat) (by omega) (by omega)
  omega
theorem mulI_one {a : Int} (ha : 0 ≤ a) (ha' : a < 256) : mulI a 1 = a := by
  rw [mulI_def, show (1 : Int).toNat = 1 from rfl, mulN_one2 (by omega)]; omega
theorem mulI_invN {a : Int} (ha : 0 ≤ a) (ha' : a < 256) (h0 : a ≠ 0) : mulI a (invN a.toNat : Nat) = 1 := by
  rw [mulI_def, Int.toNat_natCast, mul_invN (by omega) (by omega)]; rfl
theorem mulI_zero1 (b : Int) : mulI 0 b = 0 := by rw [mulI_def]; exact congrArg Int.ofNat (mulN_zero1 _)
theorem mulI_zero2 (a : Int) : mulI a 0 = 0 := by rw [mulI_def]; exact congrArg Int.ofNat (mulN_zero2 _)
theorem mulI_ne {a b : Int} (ha : 0 ≤ a) (ha' : a < 256) (hb : 0 ≤ b) (hb' : b < 256) (h : a ≠ 0) (h' : b ≠ 0) : mulI a b ≠ 0 := by
  rw [mulI_def]
  intro e
  have := (mulN_eq_zero (a := a.toNat) (b := b.toNat) (by omega) (by omega)).1 (by omega)
  omega
end Gf
namespace Go.Proofs.YtgnlpjnpnnnekaaDoor
open Go.RowKit

set_option maxHeartbeats 1000000 in
set_option maxRecDepth 100000 in
theorem isAField_walk (a b c : Int) (w : World) (hT : Tab w) (ha : 0 ≤ a) (ha' : a < 256) (hb : 0 ≤ b) (hb' : b < 256) (hc : 0 ≤ c) (hc' : c < 256) :
    Calls Tryd.prog 4 #[.int .u8 a, .int .u8 b, .int .u8 c] w fun e w' => e = .returned (.bool true) ∧ Ext w w' := by
  have HT := Lib.hid hT
  clear hT
  have hi := Gf.invN_lt a.toNat
  have m1 := Gf.mulI_lo a b
  have m2 := Gf.mulI_hi (a := a) (b := b) ha'
  have m3 := Gf.mulI_lo b c
  have m4 := Gf.mulI_hi (a := b) (b := c) hb'
  have x1 := Gf.xor8_lo hb hb' hc hc'
  have x2 := Gf.xor8_hi hb hb' hc hc'
  have HI := Lib.hid hi
  have M1 := Lib.hid m1
  have M2 := Lib.hid m2
  have M3 := Lib.hid m3
  have M4 := Lib.hid m4
  have X1 := Lib.hid x1
  have X2 := Lib.hid x2
  clear hi m1 m2 m3 m4 x1 x2
  by_cases ha0 : a = 0
  · subst ha0
    have z : (Gf.mulI 0 b == 0) = true := by rw [Gf.mulI_zero1]; rfl
    go_enter Tryd.func4, Tryd.ntmps4
    go_wp2_with fail
    refine (inv_lit 0 0 1 (by decide +kernel) (by decide +kernel) _ HT.out ha ha').mono ?_
    rintro e w' ⟨rfl, rfl⟩
    go_wp2_with fail
    refine (mul_lit 0 b _ rfl _ HT.out ha ha' hb hb').mono ?_
    rintro e w' ⟨rfl, rfl⟩
    go_wp2_with fail
    refine (mul_lit 0 b _ rfl _ HT.out ha ha' hb hb').mono ?_
    rintro e w' ⟨rfl, rfl⟩
    go_wp2_with fail
    refine (mul_lit b 0 (Gf.mulI 0 b) (Gf.mulI_comm hb hb' ha ha') _ HT.out hb hb' ha ha').mono ?_
    rintro e w' ⟨rfl, rfl⟩
    go_wp2_with fail
    refine (mul_lit 0 b _ rfl _ HT.out ha ha' hb hb').mono ?_
    rintro e w' ⟨rfl, rfl⟩
    go_wp2_with fail
    refine (mul_lit (Gf.mulI 0 b) c _ rfl _ HT.out M1.out M2.out hc hc').mono ?_
    rintro e w' ⟨rfl, rfl⟩
    go_wp2_with fail
    refine (mul_lit b c _ rfl _ HT.out hb hb' hc hc').mono ?_
    rintro e w' ⟨rfl, rfl⟩
    go_wp2_with fail
    refine (mul_lit 0 (Gf.mulI b c) (Gf.mulI (Gf.mulI 0 b) c) (Gf.mulI_assoc ha ha' hb hb' hc hc').symm _ HT.out ha ha' M3.out M4.out).mono ?_
    rintro e w' ⟨rfl, rfl⟩
    go_wp2_with fail
    refine (mul_lit 0 (bits .xor .u8 b c) (bits .xor .u8 (Gf.mulI 0 b) (Gf.mulI 0 c)) (Gf.mulI_xor ha ha' hb hb' hc hc') _ HT.out ha ha' X1.out X2.out).mono ?_
    rintro e w' ⟨rfl, rfl⟩
    go_wp2_with fail
    refine (mul_lit 0 b _ rfl _ HT.out ha ha' hb hb').mono ?_
    rintro e w' ⟨rfl, rfl⟩
    go_wp2_with fail
    refine (mul_lit 0 c _ rfl _ HT.out ha ha' hc hc').mono ?_
    rintro e w' ⟨rfl, rfl⟩
    go_wp2_with fail
    refine (sanity_any _ HT.out).mono ?_
    rintro e w1 ⟨rfl, hx⟩
    have HX := Lib.hid hx
    clear hx
    go_wp2_with fail
    refine (mul_lit 0 1 0 (Gf.mulI_one ha ha') _ (HT.out.ext HX.out) ha ha' (by omega) (by omega)).mono ?_
    rintro e w' ⟨rfl, rfl⟩
    go_wp2_with fail
    go_ret
    exact ⟨rfl, HX.out⟩
  · by_cases hb0 : b = 0
    · subst hb0
      have z : (Gf.mulI a 0 == 0) = true := by rw [Gf.mulI_zero2]; rfl
      have z1 : (a == 0) = false := by simpa using ha0
      have z1' : (a != 0) = true := by simpa using ha0
      have e := Gf.mulI_invN ha ha' ha0
      have e2 := Gf.noneI_nat ha0
      have E := Lib.hid e
      have E2 := Lib.hid e2
      clear e e2 ha0
      go_enter Tryd.func4, Tryd.ntmps4
      go_wp2_with fail
      refine (inv_lit a _ 0 rfl E2.out _ HT.out ha ha').mono ?_
      rintro e w' ⟨rfl, rfl⟩
      go_wp2_with fail
      refine (mul_lit a _ 1 E.out _ HT.out ha ha' (by omega) (by have := HI.out; omega)).mono ?_
      rintro e w' ⟨rfl, rfl⟩
      go_wp2_with fail
      refine (mul_lit a 0 _ rfl _ HT.out ha ha' hb hb').mono ?_
      rintro e w' ⟨rfl, rfl⟩
      go_wp2_with fail
      refine (mul_lit a 0 _ rfl _ HT.out ha ha' hb hb').mono ?_
      rintro e w' ⟨rfl, rfl⟩
      go_wp2_with fail
      refine (mul_lit 0 a (Gf.mulI a 0) (Gf.mulI_comm hb hb' ha ha') _ HT.out hb hb' ha ha').mono ?_
      rintro e w' ⟨rfl, rfl⟩
      go_wp2_with fail
      refine (mul_lit a 0 _ rfl _ HT.out ha ha' hb hb').mono ?_
      rintro e w' ⟨rfl, rfl⟩
      go_wp2_with fail
      refine (mul_lit (Gf.mulI a 0) c _ rfl _ HT.out M1.out M2.out hc hc').mono ?_
      rintro e w' ⟨rfl, rfl⟩
      go_wp2_with fail
      refine (mul_lit 0 c _ rfl _ HT.out hb hb' hc hc').mono ?_
      rintro e w' ⟨rfl, rfl⟩
      go_wp2_with fail
      refine (mul_lit a (Gf.mulI 0 c) (Gf.mulI (Gf.mulI a 0) c) (Gf.mulI_assoc ha ha' hb hb' hc hc').symm _ HT.out ha ha' M3.out M4.out).mono ?_
      rintro e w' ⟨rfl, rfl⟩
      go_wp2_with fail
      refine (mul_lit a (bits .xor .u8 0 c) (bits .xor .u8 (Gf.mulI a 0) (Gf.mulI a c)) (Gf.mulI_xor ha ha' hb hb' hc hc') _ HT.out ha ha' X1.out X2.out).mono ?_
      rintro e w' ⟨rfl, rfl⟩
      go_wp2_with fail
      refine (mul_lit a 0 _ rfl _ HT.out ha ha' hb hb').mono ?_
      rintro e w' ⟨rfl, rfl⟩
      go_wp2_with fail
      refine (mul_lit a c _ rfl _ HT.out ha ha' hc hc').mono ?_
      rintro e w' ⟨rfl, rfl⟩
      go_wp2_with fail
      refine (sanity_any _ HT.out).mono ?_
      rintro e w1 ⟨rfl, hx⟩
      have HX := Lib.hid hx
      clear hx
      go_wp2_with fail
      refine (mul_lit a 1 a (Gf.mulI_one ha ha') _ (HT.out.ext HX.out) ha ha' (by omega) (by omega)).mono ?_
      rintro e w' ⟨rfl, rfl⟩
      go_wp2_with fail
      go_ret
      exact ⟨rfl, HX.out⟩
    · have z : (Gf.mulI a b == 0) = false := by rw [beq_eq_false_iff_ne]; exact Gf.mulI_ne ha ha' hb hb' ha0 hb0
      have z1 : (a == 0) = false := by simpa using ha0
      have z1' : (a != 0) = true := by simpa using ha0
      have z2 : (b == 0) = false := by simpa using hb0
      have e := Gf.mulI_invN ha ha' ha0
      have e2 := Gf.noneI_nat ha0
      have E := Lib.hid e
      have E2 := Lib.hid e2
      clear e e2 ha0 hb0
      go_enter Tryd.func4, Tryd.ntmps4
      go_wp2_with fail
      refine (inv_lit a _ 0 rfl E2.out _ HT.out ha ha').mono ?_
      rintro e w' ⟨rfl, rfl⟩
      go_wp2_with fail
      refine (mul_lit a _ 1 E.out _ HT.out ha ha' (by omega) (by have := HI.out; omega)).mono ?_
      rintro e w' ⟨rfl, rfl⟩
      go_wp2_with fail
      refine (mul_lit a b _ rfl _ HT.out ha ha' hb hb').mono ?_
      rintro e w' ⟨rfl, rfl⟩
      go_wp2_with fail
      refine (mul_lit a b _ rfl _ HT.out ha ha' hb hb').mono ?_
      rintro e w' ⟨rfl, rfl⟩
      go_wp2_with fail
      refine (mul_lit b a (Gf.mulI a b) (Gf.mulI_comm hb hb' ha ha') _ HT.out hb hb' ha ha').mono ?_
      rintro e w' ⟨rfl, rfl⟩
      go_wp2_with fail
      refine (mul_lit a b _ rfl _ HT.out ha ha' hb hb').mono ?_
      rintro e w' ⟨rfl, rfl⟩
      go_wp2_with fail
      refine (mul_lit (Gf.mulI a b) c _ rfl _ HT.out M1.out M2.out hc hc').mono ?_
      rintro e w' ⟨rfl, rfl⟩
      go_wp2_with fail
      refine (mul_lit b c _ rfl _ HT.out hb hb' hc hc').mono ?_
      rintro e w' ⟨rfl, rfl⟩
      go_wp2_with fail
      refine (mul_lit a (Gf.mulI b c) (Gf.mulI (Gf.mulI a b) c) (Gf.mulI_assoc ha ha' hb hb' hc hc').symm _ HT.out ha ha' M3.out M4.out).mono ?_
      rintro e w' ⟨rfl, rfl⟩
      go_wp2_with fail
      refine (mul_lit a (bits .xor .u8 b c) (bits .xor .u8 (Gf.mulI a b) (Gf.mulI a c)) (Gf.mulI_xor ha ha' hb hb' hc hc') _ HT.out ha ha' X1.out X2.out).mono ?_
      rintro e w' ⟨rfl, rfl⟩
      go_wp2_with fail
      refine (mul_lit a b _ rfl _ HT.out ha ha' hb hb').mono ?_
      rintro e w' ⟨rfl, rfl⟩
      go_wp2_with fail
      refine (mul_lit a c _ rfl _ HT.out ha ha' hc hc').mono ?_
      rintro e w' ⟨rfl, rfl⟩
      go_wp2_with fail
      refine (sanity_any _ HT.out).mono ?_
      rintro e w1 ⟨rfl, hx⟩
      have HX := Lib.hid hx
      clear hx
      go_wp2_with fail
      refine (mul_lit a 1 a (Gf.mulI_one ha ha') _ (HT.out.ext HX.out) ha ha' (by omega) (by omega)).mono ?_
      rintro e w' ⟨rfl, rfl⟩
      go_wp2_with fail
      go_ret
      exact ⟨rfl, HX.out⟩
end Go.Proofs.YtgnlpjnpnnnekaaDoor
