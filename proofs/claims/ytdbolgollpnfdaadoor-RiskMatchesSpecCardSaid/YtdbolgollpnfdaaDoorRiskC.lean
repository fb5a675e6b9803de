/- THE WALKS over OnesCount, the closure of Least, Clone. -/
import Derived.Test.YtdbolgollpnfdaaDoorRiskN
namespace Rk
def cntF : Nat → Nat → Nat
  | 0, _ => 0
  | k + 1, n => n % 2 + cntF k (n / 2)
/-- How many elements a set has. -/
def cnt (n : Nat) : Nat := cntF 16 n
/-- What OnesCount64 reckons, for small numbers. -/
def pop (n : Nat) : Nat :=
  let x := (n / 2 &&& 6148914691236517205) + (n &&& 6148914691236517205)
  let y := (x / 4 &&& 3689348814741910323) + (x &&& 3689348814741910323)
  let z := (y / 16 + y) &&& 1085102592571150095
  (z + z / 256) &&& 127
theorem pop_all : (List.range 4096).all (fun n => pop n == cnt n) = true := by kernel_rfl
theorem pop_cnt {n : Nat} (h : n < 4096) : pop n = cnt n := by
  have := List.all_eq_true.1 pop_all n (by simpa using h)
  simpa using this
end Rk
namespace Go.Proofs.YtdbolgollpnfdaaDoor
open Go.RowKit
/-- Does a set come first of two with as many elements? -/
def firstB (a b : Nat) : Bool := bits .and .i64 (a : Int) (bits .and .i64 ((a ^^^ b : Nat) : Int) (-((a ^^^ b : Nat) : Int))) != 0
theorem andU (a b : Nat) (ha : a < 9223372036854775808) (hb : b < 9223372036854775808) : bits .and .u64 (a : Int) (b : Int) = ((a &&& b : Nat) : Int) := by
  have hx : a &&& b < 2 ^ 63 := Nat.and_lt_two_pow _ (by omega)
  show IntKind.u64.wrap ((BitVec.ofInt 64 (a : Int) &&& BitVec.ofInt 64 (b : Int)).toNat : Int) = _
  rw [BitVec.toNat_and, ofInt64 a ha, ofInt64 b hb, IntKind.wrap_u64]
  omega
theorem ones64 (n : Nat) (w : World) (hn : n < 4096) :
    Calls Tryd.prog 36 #[.int .u64 n] w fun e w' => e = .returned (.int .i64 (Rk.cnt n : Nat)) ∧ w = w' := by
  obtain ⟨x1, hx1⟩ : ∃ x1, n / 2 &&& 6148914691236517205 = x1 := ⟨_, rfl⟩
  obtain ⟨x2, hx2⟩ : ∃ x2, n &&& 6148914691236517205 = x2 := ⟨_, rfl⟩
  obtain ⟨y1, hy1⟩ : ∃ y1, (x1 + x2) / 4 &&& 3689348814741910323 = y1 := ⟨_, rfl⟩
  obtain ⟨y2, hy2⟩ : ∃ y2, (x1 + x2) &&& 3689348814741910323 = y2 := ⟨_, rfl⟩
  obtain ⟨z, hz⟩ : ∃ z, ((y1 + y2) / 16 + (y1 + y2)) &&& 1085102592571150095 = z := ⟨_, rfl⟩
  obtain ⟨r, hr⟩ : ∃ r, (z + z / 256) &&& 127 = r := ⟨_, rfl⟩
  have hp : r = Rk.cnt n := by
    rw [← Rk.pop_cnt hn, ← hr, ← hz, ← hy1, ← hy2, ← hx1, ← hx2]
    rfl
  have b1 : x1 ≤ 2048 := by rw [← hx1]; exact Nat.le_trans Nat.and_le_left (by omega)
  have b2 : x2 ≤ 4096 := by rw [← hx2]; exact Nat.le_trans Nat.and_le_left (by omega)
  have b3 : y1 ≤ 2048 := by rw [← hy1]; exact Nat.le_trans Nat.and_le_left (by omega)
  have b4 : y2 ≤ 8192 := by rw [← hy2]; exact Nat.le_trans Nat.and_le_left (by omega)
  have b5 : z ≤ 20000 := by rw [← hz]; exact Nat.le_trans Nat.and_le_left (by omega)
  have e1 : bits .and .u64 ((n : Int) / 2) 6148914691236517205 = (x1 : Int) := by
    have := andU (n / 2) 6148914691236517205 (by omega) (by omega)
    rw [hx1] at this
    exact this
  have e2 : bits .and .u64 (n : Int) 6148914691236517205 = (x2 : Int) := by
    have := andU n 6148914691236517205 (by omega) (by omega)
    rw [hx2] at this
    exact this
  have e3 : bits .and .u64 (((x1 : Int) + x2) / 4) 3689348814741910323 = (y1 : Int) := by
    have := andU ((x1 + x2) / 4) 3689348814741910323 (by omega) (by omega)
    rw [hy1] at this
    exact this
  have e4 : bits .and .u64 ((x1 : Int) + x2) 3689348814741910323 = (y2 : Int) := by
    have := andU (x1 + x2) 3689348814741910323 (by omega) (by omega)
    rw [hy2] at this
    exact this
  have e5 : bits .and .u64 (((y1 : Int) + y2) / 16 + ((y1 : Int) + y2)) 1085102592571150095 = (z : Int) := by
    have := andU ((y1 + y2) / 16 + (y1 + y2)) 1085102592571150095 (by omega) (by omega)
    rw [hz] at this
    exact this
  have e6 : bits .and .i64 ((z : Int) + z / 256) 127 = (r : Int) := by
    have := and64 (z + z / 256) 127 (by omega) (by omega)
    rw [hr] at this
    exact this
  have d1 : ((z : Int) + z / 256) / 65536 = 0 := by omega
  have d2 : ((z : Int) + z / 256) / 4294967296 = 0 := by omega
  have HP := Lib.hid hp
  clear hx1 hx2 hy1 hy2 hz hr hp hn
  go_enter Tryd.func36, Tryd.ntmps36
  go_wp2_with fail
  go_ret
  exact ⟨ret_int (by rw [HP.out]), rfl⟩
set_option maxRecDepth 100000 in
theorem ones_any (n : Nat) (w : World) (hn : n < 4096) :
    Calls Tryd.prog 25 #[.int .u64 n] w fun e w' => e = .returned (.int .i64 (Rk.cnt n : Nat)) ∧ w = w' := by
  go_enter Tryd.func25, Tryd.ntmps25
  go_wp2_with fail
  refine (ones64 n _ hn).mono ?_
  rintro e w' ⟨rfl, rfl⟩
  go_wp2_with fail
  go_ret
  exact ⟨rfl, rfl⟩
set_option maxRecDepth 100000 in
theorem least1 (a b : Nat) (w : World) (ha : a < 4096) (hb : b < 4096) :
    Calls Tryd.prog 24 #[.int .i64 a, .int .i64 b] w fun e w' => e = .returned (.bool (firstB a b)) ∧ w = w' := by
  have hx := xor64 a b (by omega) (by omega)
  have hlt : a ^^^ b < 2 ^ 12 := Nat.xor_lt_two_pow ha hb
  obtain ⟨d, hd⟩ : ∃ d, a ^^^ b = d := ⟨_, rfl⟩
  have hf : firstB a b = (bits .and .i64 (a : Int) (bits .and .i64 (d : Int) (-(d : Int))) != 0) := by unfold firstB; rw [hd]
  rw [hd] at hx hlt
  have HF := Lib.hid hf
  clear hf hd
  go_enter Tryd.func24, Tryd.ntmps24
  go_wp2_with fail
  go_ret
  exact ⟨ret_bool (by rw [HF.out]), rfl⟩
theorem info_int : (Tryd.prog.info? 3).map (fun i => (i.zero, i.size, i.bytes)) = some (some (.int .i64 0), 1, 8) := by kernel_rfl
set_option maxRecDepth 100000 in
theorem clone_any (l : List Int) (A : Addr) (c : Nat) (w : World) (hA : Rd w (some A) (l.map (.int .i64))) (hn : 0 < l.length) (hn2 : l.length ≤ 1000) :
    Calls Tryd.prog 31 #[.slice (some A) l.length c] w fun e w' => ∃ g c', e = .returned (.slice (some ⟨g, 0, none⟩) l.length c') ∧ Owns w w' [⟨.slice (some ⟨g, 0, none⟩) l.length c', 3, 1, l.length, l.map (.int .i64)⟩] := by
  have HA := Lib.hid hA
  clear hA
  have hO0 : Owns w (w.alloc (.cells #[] 3)) [⟨.slice (some ⟨w.heap.size, 0, none⟩) 0 0, 3, 1, 0, []⟩] := (Owns.start w (L := [no]) (by intro r hr; simp at hr; subst hr; exact ⟨rfl, rfl, rfl⟩)).new 0 #[] 3 (by simp [maxLen])
  have HO0 := Lib.hid hO0
  clear hO0
  have hnews : ∀ (j : Nat) (u : Value), (l.map (Value.int .i64))[j]? = some u → (w.alloc (.cells #[] 3)).cell? (A.add j) = some u := fun j u hj =>
    (((Ext.refl w).alloc _).cell (HA.out.all (List.getElem?_eq_some_iff.1 hj).1)).trans (by rw [(List.getElem?_eq_some_iff.1 hj).2])
  have hone : ∀ u ∈ l.map (Value.int .i64), u.oneCell' = true := by intro u hu; simp at hu; obtain ⟨b, _, rfl⟩ := hu; rfl
  have HN := Lib.hid (And.intro hnews hone)
  clear hnews hone
  have he : ∀ w : World, (binOp .eql 25 (.slice (some A) l.length c) (.slice none 0 0)).run Tryd.prog w = .ok (.bool false) w := fun _ => rfl
  go_enter Tryd.func31, Tryd.ntmps31
  go_wp2_with (refine wpl_append_all 25 3 rfl (.tmp 5) (.tmp 6) rfl Tryd.underlying25 info_int rfl HO0.out 0 rfl rfl rfl (List.length_map _) HN.out.1 HN.out.2 hn (by omega) (by decide) ?_; intro g1 c1 w3 hO3 _)
  go_ret
  have hO3' : Owns w w3 [⟨.slice (some ⟨g1, 0, none⟩) l.length c1, 3, 1, l.length, l.map (.int .i64)⟩] := by simpa using hO3
  refine ⟨g1, c1, ?_, hO3'⟩
  simp
end Go.Proofs.YtdbolgollpnfdaaDoor
