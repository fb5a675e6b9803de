/- THE EXAMPLES of the documentation that every statement on the field looks at, and the laws' own walks. -/
import Derived.Test.YtheeafhpjffbkaaDoorGfC
import Derived.Test.YtheeafhpjffbkaaDoorFieldG
namespace Go.Proofs.YtheeafhpjffbkaaDoor
open Go.RowKit

theorem inv_lit (a r k : Int) (h : ((Gf.invN a.toNat : Nat) : Int) = r) (h' : Gf.noneI a = k) (w : World) (hT : Tab w) (ha : 0 ≤ a) (ha' : a < 256) :
    Calls Tryd.prog 9 #[.int .u8 a] w fun e w' => e = .returned (.tuple #[.int .u8 r, .int .i64 k]) ∧ w = w' := by
  have := inv_any a w hT ha ha'
  rwa [h, h'] at this
theorem log_lit (a r k : Int) (h : Gf.logI a = r) (h' : Gf.noneI a = k) (w : World) (hT : Tab w) (ha : 0 ≤ a) (ha' : a < 256) :
    Calls Tryd.prog 10 #[.int .u8 a] w fun e w' => e = .returned (.tuple #[.int .i64 r, .int .i64 k]) ∧ w = w' := by
  have := log_any a w hT ha ha'
  rwa [h, h'] at this
theorem mul_lit (a b r : Int) (h : Gf.mulI a b = r) (w : World) (hT : Tab w) (ha : 0 ≤ a) (ha' : a < 256) (hb : 0 ≤ b) (hb' : b < 256) :
    Calls Tryd.prog 5 #[.int .u8 a, .int .u8 b] w fun e w' => e = .returned (.int .u8 r) ∧ w = w' := by
  have := mul_any a b w hT ha ha' hb hb'
  rwa [h] at this
theorem exp_lit (n r : Int) (h : ((Gf.powN 2 (n % 255).toNat : Nat) : Int) = r) (w : World) (hT : Tab w) (h1 : -9223372036854775808 ≤ n) (h2 : n ≤ 9223372036854775807) :
    Calls Tryd.prog 11 #[.int .i64 n] w fun e w' => e = .returned (.int .u8 r) ∧ w = w' := by
  have := exp_any n w hT h1 h2
  rwa [h] at this
theorem pow_lit (a n r : Int) (h : Gf.powI a n = r) (w : World) (hT : Tab w) (ha : 0 ≤ a) (ha' : a < 256) (h1 : -9223372036854775808 ≤ n) (h2 : n ≤ 9223372036854775807) :
    Calls Tryd.prog 12 #[.int .u8 a, .int .i64 n] w fun e w' => e = .returned (.int .u8 r) ∧ w = w' := by
  have := pow_any a n w hT ha ha' h1 h2
  rwa [h] at this
theorem sum_lit (a b r : ByteArray) (h : sb (Gf.sum (bl a) (bl b)) = r) (w : World) (ha : a.size ≤ 140737488351232) (hb : b.size ≤ 140737488351232) :
    Calls Tryd.prog 6 #[.string a, .string b] w fun e w' => e = .returned (.string r) ∧ Ext w w' := by
  have := sum_any a b w ha hb
  rwa [h] at this

set_option maxHeartbeats 1000000 in
set_option maxRecDepth 100000 in
theorem sanity_any (w : World) (hT : Tab w) : Calls Tryd.prog 4 #[] w fun e w' => e = .returned (.bool true) ∧ Ext w w' := by
  have HT := Lib.hid hT
  clear hT
  go_enter Tryd.func4, Tryd.ntmps4
  go_wp2_with fail
  refine (inv_lit 2 142 0 (by decide +kernel) (by decide +kernel) _ HT.out (by omega) (by omega)).mono ?_
  rintro e w' ⟨rfl, rfl⟩
  go_wp2_with fail
  refine (inv_lit 1 1 0 (by decide +kernel) (by decide +kernel) _ HT.out (by omega) (by omega)).mono ?_
  rintro e w' ⟨rfl, rfl⟩
  go_wp2_with fail
  refine (inv_lit 0 0 1 (by decide +kernel) (by decide +kernel) _ HT.out (by omega) (by omega)).mono ?_
  rintro e w' ⟨rfl, rfl⟩
  go_wp2_with fail
  refine (log_lit 29 8 0 (by decide +kernel) (by decide +kernel) _ HT.out (by omega) (by omega)).mono ?_
  rintro e w' ⟨rfl, rfl⟩
  go_wp2_with fail
  refine (log_lit 3 25 0 (by decide +kernel) (by decide +kernel) _ HT.out (by omega) (by omega)).mono ?_
  rintro e w' ⟨rfl, rfl⟩
  go_wp2_with fail
  have hA : Rd ((w.alloc (.cells #[.int .u8 1, .int .u8 2] 5)).alloc (.cells #[.string { data := #[5, 6] }, .string { data := #[128, 1] }] 9)) (some ⟨w.heap.size, 0, none⟩) ([(1 : UInt8), 2].map bv) :=
    Rd.of_block (heap_old _ _ (heap_new _ _))
  have hB : Rd ((w.alloc (.cells #[.int .u8 1, .int .u8 2] 5)).alloc (.cells #[.string { data := #[5, 6] }, .string { data := #[128, 1] }] 9)) (some ⟨w.heap.size + 1, 0, none⟩) ([[(5 : UInt8), 6], [128, 1]].map fun p => .string (sb p)) := by
    have := Rd.of_block (heap_new (w.alloc (.cells #[.int .u8 1, .int .u8 2] 5)) (.cells #[.string { data := #[5, 6] }, .string { data := #[128, 1] }] 9))
    rw [show (w.alloc (.cells #[.int .u8 1, .int .u8 2] 5)).heap.size = w.heap.size + 1 from by simp] at this
    exact this
  have hx : Ext w ((w.alloc (.cells #[.int .u8 1, .int .u8 2] 5)).alloc (.cells #[.string { data := #[5, 6] }, .string { data := #[128, 1] }] 9)) := ((Ext.refl w).alloc _).alloc _
  refine (combine_any [1, 2] [[5, 6], [128, 1]] _ _ 2 2 2 2 _ (HT.out.ext hx) rfl rfl (by omega) (by decide) hA hB).mono ?_
  rw [show sb (Gf.combS [1, 2] [[5, 6], [128, 1]]) = { data := #[24, 4] } from by rw [show Gf.combS [1, 2] [[5, 6], [128, 1]] = [24, 4] from by decide +kernel]; rfl, show Gf.combE [1, 2] [[5, 6], [128, 1]] = 0 from by decide +kernel]
  clear hA hB
  rintro e w1 ⟨rfl, hx1⟩
  have HX := Lib.hid (hx.trans hx1)
  clear hx hx1
  go_wp2_with fail
  refine (mul_lit 2 128 29 (by decide +kernel) _ (HT.out.ext HX.out) (by omega) (by omega) (by omega) (by omega)).mono ?_
  rintro e w' ⟨rfl, rfl⟩
  go_wp2_with fail
  refine (mul_lit 3 7 9 (by decide +kernel) _ (HT.out.ext HX.out) (by omega) (by omega) (by omega) (by omega)).mono ?_
  rintro e w' ⟨rfl, rfl⟩
  go_wp2_with fail
  refine (exp_lit 8 29 (by decide +kernel) _ (HT.out.ext HX.out) (by omega) (by omega)).mono ?_
  rintro e w' ⟨rfl, rfl⟩
  go_wp2_with fail
  refine (exp_lit (-1) 142 (by decide +kernel) _ (HT.out.ext HX.out) (by omega) (by omega)).mono ?_
  rintro e w' ⟨rfl, rfl⟩
  go_wp2_with fail
  refine (exp_lit 255 1 (by decide +kernel) _ (HT.out.ext HX.out) (by omega) (by omega)).mono ?_
  rintro e w' ⟨rfl, rfl⟩
  go_wp2_with fail
  refine (pow_lit 3 2 5 (by decide +kernel) _ (HT.out.ext HX.out) (by omega) (by omega) (by omega) (by omega)).mono ?_
  rintro e w' ⟨rfl, rfl⟩
  go_wp2_with fail
  refine (pow_lit 0 0 1 (by decide +kernel) _ (HT.out.ext HX.out) (by omega) (by omega) (by omega) (by omega)).mono ?_
  rintro e w' ⟨rfl, rfl⟩
  go_wp2_with fail
  refine (pow_lit 0 (-5) 0 (by decide +kernel) _ (HT.out.ext HX.out) (by omega) (by omega) (by omega) (by omega)).mono ?_
  rintro e w' ⟨rfl, rfl⟩
  go_wp2_with fail
  refine (sum_lit _ _ { data := #[0, 98] } (by rw [show Gf.sum (bl { data := #[97, 98] }) (bl { data := #[97] }) = [0, 98] from by decide +kernel]; rfl) _ (by decide +kernel) (by decide +kernel)).mono ?_
  rintro e w2 ⟨rfl, hx2⟩
  go_wp2_with fail
  go_ret
  exact ⟨rfl, HX.out.trans hx2⟩
end Go.Proofs.YtheeafhpjffbkaaDoor
