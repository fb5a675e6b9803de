/- THE WALK over OnesCount, for small numbers. -/
import Derived.Test.YtgkohfmgdejkpaaDoorLib
import Derived.Test.YtgkohfmgdejkpaaDoorChecked
namespace Ones
def cntF : Nat → Nat → Nat
  | 0, _ => 0
  | k + 1, n => n % 2 + cntF k (n / 2)
/-- How many elements a set has. -/
def cnt (n : Nat) : Nat := cntF 16 n
/-- What OnesCount64 reckons, for small numbers. -/
def pop (n : Nat) : Nat :=
  let x := (n / 2 &&& 6148914691236517205) + (n &&& 6148914691236517205)
  let y := (x / 4 &&& 3689348814741910323) + (x &&& 3689348814741910323)
  let z := (y / 16 + y) &&& 1085102592571150095
  (z + z / 256) &&& 127
theorem pop_all : (List.range 16384).all (fun n => pop n == cnt n) = true := by kernel_rfl
theorem pop_cnt {n : Nat} (h : n < 16384) : pop n = cnt n := by
  have := List.all_eq_true.1 pop_all n (by simpa using h)
  simpa using this
end Ones
namespace Go.Proofs.YtgkohfmgdejkpaaDoor
open Go.RowKit
theorem andU (a b : Nat) (ha : a < 9223372036854775808) (hb : b < 9223372036854775808) : bits .and .u64 (a : Int) (b : Int) = ((a &&& b : Nat) : Int) := by
  have hx : a &&& b < 2 ^ 63 := Nat.and_lt_two_pow _ (by omega)
  show IntKind.u64.wrap ((BitVec.ofInt 64 (a : Int) &&& BitVec.ofInt 64 (b : Int)).toNat : Int) = _
  rw [BitVec.toNat_and, ofInt64 a ha, ofInt64 b hb, IntKind.wrap_u64]
  omega
theorem ones64 (n : Nat) (w : World) (hn : n < 16384) :
    Calls Tryd.prog 73 #[.int .u64 n] w fun e w' => e = .returned (.int .i64 (Ones.cnt n : Nat)) ∧ w = w' := by
  obtain ⟨x1, hx1⟩ : ∃ x1, n / 2 &&& 6148914691236517205 = x1 := ⟨_, rfl⟩
  obtain ⟨x2, hx2⟩ : ∃ x2, n &&& 6148914691236517205 = x2 := ⟨_, rfl⟩
  obtain ⟨y1, hy1⟩ : ∃ y1, (x1 + x2) / 4 &&& 3689348814741910323 = y1 := ⟨_, rfl⟩
  obtain ⟨y2, hy2⟩ : ∃ y2, (x1 + x2) &&& 3689348814741910323 = y2 := ⟨_, rfl⟩
  obtain ⟨z, hz⟩ : ∃ z, ((y1 + y2) / 16 + (y1 + y2)) &&& 1085102592571150095 = z := ⟨_, rfl⟩
  obtain ⟨r, hr⟩ : ∃ r, (z + z / 256) &&& 127 = r := ⟨_, rfl⟩
  have hp : r = Ones.cnt n := by
    rw [← Ones.pop_cnt hn, ← hr, ← hz, ← hy1, ← hy2, ← hx1, ← hx2]
    rfl
  have b1 : x1 ≤ 8192 := by rw [← hx1]; exact Nat.le_trans Nat.and_le_left (by omega)
  have b2 : x2 ≤ 16384 := by rw [← hx2]; exact Nat.le_trans Nat.and_le_left (by omega)
  have b3 : y1 ≤ 8192 := by rw [← hy1]; exact Nat.le_trans Nat.and_le_left (by omega)
  have b4 : y2 ≤ 32768 := by rw [← hy2]; exact Nat.le_trans Nat.and_le_left (by omega)
  have b5 : z ≤ 60000 := by rw [← hz]; exact Nat.le_trans Nat.and_le_left (by omega)
  have e1 : bits .and .u64 ((n : Int) / 2) 6148914691236517205 = (x1 : Int) := by
    have := andU (n / 2) 6148914691236517205 (by omega) (by omega)
    rw [hx1] at this
    exact this
  have e2 : bits .and .u64 (n : Int) 6148914691236517205 = (x2 : Int) := by
    have := andU n 6148914691236517205 (by omega) (by omega)
    rw [hx2] at this
    exact this
  have e3 : bits .and .u64 (((x1 : Int) + x2) / 4) 3689348814741910323 = (y1 : Int) := by
    have := andU ((x1 + x2) / 4) 3689348814741910323 (by omega) (by omega)
    rw [hy1] at this
    exact this
  have e4 : bits .and .u64 ((x1 : Int) + x2) 3689348814741910323 = (y2 : Int) := by
    have := andU (x1 + x2) 3689348814741910323 (by omega) (by omega)
    rw [hy2] at this
    exact this
  have e5 : bits .and .u64 (((y1 : Int) + y2) / 16 + ((y1 : Int) + y2)) 1085102592571150095 = (z : Int) := by
    have := andU ((y1 + y2) / 16 + (y1 + y2)) 1085102592571150095 (by omega) (by omega)
    rw [hz] at this
    exact this
  have e6 : bits .and .i64 ((z : Int) + z / 256) 127 = (r : Int) := by
    have := and64 (z + z / 256) 127 (by omega) (by omega)
    rw [hr] at this
    exact this
  have d1 : ((z : Int) + z / 256) / 65536 = 0 := by omega
  have d2 : ((z : Int) + z / 256) / 4294967296 = 0 := by omega
  have HP := Lib.hid hp
  clear hx1 hx2 hy1 hy2 hz hr hp hn
  go_enter Tryd.func73, Tryd.ntmps73
  go_wp2_with fail
  go_ret
  exact ⟨ret_int (by rw [HP.out]), rfl⟩
set_option maxRecDepth 100000 in
theorem ones_any (n : Nat) (w : World) (hn : n < 16384) :
    Calls Tryd.prog 62 #[.int .u64 n] w fun e w' => e = .returned (.int .i64 (Ones.cnt n : Nat)) ∧ w = w' := by
  go_enter Tryd.func62, Tryd.ntmps62
  go_wp2_with fail
  refine (ones64 n _ hn).mono ?_
  rintro e w' ⟨rfl, rfl⟩
  go_wp2_with fail
  go_ret
  exact ⟨rfl, rfl⟩
end Go.Proofs.YtgkohfmgdejkpaaDoor
