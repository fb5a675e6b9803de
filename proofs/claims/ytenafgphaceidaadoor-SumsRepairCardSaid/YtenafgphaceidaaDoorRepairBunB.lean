/- What the program's functions do, step by step: part B of the texts for this claim; no condition beyond what each theorem states. -/
import Derived.Test.YtenafgphaceidaaDoorRepairBunA
/- THE DRAWN REGION OF Valid: what is wrong with a hop. -/
namespace Go.Proofs.YtenafgphaceidaaDoor
open Go.RowKit
theorem wanted_undef {ops : Array Oper} {o : Oper} {a : Act} {g t : Nat} {want : Bool} (hg : o.guard = some (g, want)) (hd : (ops[g]?).bind (·.dst) = some t) (he : a.eval (.tmp t) = undef) : Region.wanted o (yielded ops a.tmps) = false := by
  have ht : yielded ops a.tmps g = none := by
    unfold yielded
    rw [hd]
    simp only [Act.eval, Array.getD_eq_getD_getElem?] at he
    cases h : a.tmps[t]? with
    | none => simp [h]
    | some v => rw [h] at he; simp at he; simp [h, he, undef]
  unfold Region.wanted
  rw [hg]
  simp [ht]
noncomputable def hop_0_code : Code := ((Tryd.f14.body.bind (regionOf 8)).getD .skip)
def hop_0_dsts : List (Option Nat) := [some 32, some 33, some 34, some 35, some 36, some 37, some 38, some 39, some 40, some 41, some 42, some 43, some 44, some 45, some 46, some 47, some 48, some 49, some 50, some 51, some 52, some 53, some 54, some 55, some 56, some 57, some 58, some 59, some 60, some 61, some 62, some 63, some 64, some 65, some 66, some 67, some 68, some 69, some 70, some 71, some 72, some 73, some 74, some 75, some 76, some 77, some 78, some 79, some 80, some 81, some 82, some 83, some 84, some 85, some 86, some 87, some 88, some 89, some 90, some 91, some 92, some 93]
theorem hop_0_apart : apartD hop_0_dsts = true := by decide +kernel
set_option maxRecDepth 1000000 in
set_option maxHeartbeats 16000000 in
theorem hop_0 (wr : World) (ff : Int) (X n : Nat) (x0 : wr.cell? ⟨X, 0, none⟩ = some (.int .i64 ff)) (q0 : ff < 0) (c0 c1 c2 c3 c4 c6 c7 c9 c10 c11 c12 c13 c14 c15 c16 c17 c18 c19 c20 c21 c22 c23 c24 c25 c26 c27 c28 c29 c30 c31 c32 c33 c34 c35 c36 c37 c38 c39 c40 c41 c42 c43 c44 c45 c46 c47 c48 c49 c50 c51 c52 c53 c54 c55 c56 c57 c58 c59 c60 c61 c62 c63 c64 c65 c66 c67 c68 c69 c70 c71 c72 c73 c74 c75 c76 c77 c78 c79 c80 c81 c82 c83 c84 c85 c86 c87 c88 c89 c90 c91 c92 c93 c94 c95 c96 c97 c98 c99 c100 c101 c102 c103 c104 c105 c106 c107 c108 c109 c110 c111 c112 c113 c114 c115 c116 c117 c118 c119 c120 c121 c122 c123 c124 c125 c126 c127 c128 c129 c130 c131 c132 c133 c134 c135 c136 c137 c138 c139 c140 : Value) (df : List Deferred) (K : Act → World → Prop)
    (hK : ∀  (u32 u33 u34 u35 u36 u37 u38 u39 u40 u41 u42 u43 u44 u45 u46 u47 u48 u49 u50 u51 u52 u53 u54 u55 u56 u57 u58 u59 u60 u61 u62 u63 u64 u65 u66 u67 u68 u69 u70 u71 u72 u73 u74 u75 u76 u77 u78 u79 u80 u81 u82 u83 u84 u85 u86 u87 u88 u89 u90 u91 u92 : Value) (wx : World), Ext wr wx → K ⟨#[c0, c1, c2, c3, c4, .int .i64 (n : Nat), c6, c7, .pointer (some ⟨X, 0, none⟩), c9, c10, c11, c12, c13, c14, c15, c16, c17, c18, c19, c20, c21, c22, c23, c24, c25, c26, c27, c28, c29, c30, c31, u32, u33, u34, u35, u36, u37, u38, u39, u40, u41, u42, u43, u44, u45, u46, u47, u48, u49, u50, u51, u52, u53, u54, u55, u56, u57, u58, u59, u60, u61, u62, u63, u64, u65, u66, u67, u68, u69, u70, u71, u72, u73, u74, u75, u76, u77, u78, u79, u80, u81, u82, u83, u84, u85, u86, u87, u88, u89, u90, u91, u92, .bool true, c94, c95, c96, c97, c98, c99, c100, c101, c102, c103, c104, c105, c106, c107, c108, c109, c110, c111, c112, c113, c114, c115, c116, c117, c118, c119, c120, c121, c122, c123, c124, c125, c126, c127, c128, c129, c130, c131, c132, c133, c134, c135, c136, c137, c138, c139, c140], df⟩ wx) :
    Code.wp Tryd.prog hop_0_code (AtEnd K) ⟨#[c0, c1, c2, c3, c4, .int .i64 (n : Nat), c6, c7, .pointer (some ⟨X, 0, none⟩), c9, c10, c11, c12, c13, c14, c15, c16, c17, c18, c19, c20, c21, c22, c23, c24, c25, c26, c27, c28, c29, c30, c31, c32, c33, c34, c35, c36, c37, c38, c39, c40, c41, c42, c43, c44, c45, c46, c47, c48, c49, c50, c51, c52, c53, c54, c55, c56, c57, c58, c59, c60, c61, c62, c63, c64, c65, c66, c67, c68, c69, c70, c71, c72, c73, c74, c75, c76, c77, c78, c79, c80, c81, c82, c83, c84, c85, c86, c87, c88, c89, c90, c91, c92, c93, c94, c95, c96, c97, c98, c99, c100, c101, c102, c103, c104, c105, c106, c107, c108, c109, c110, c111, c112, c113, c114, c115, c116, c117, c118, c119, c120, c121, c122, c123, c124, c125, c126, c127, c128, c129, c130, c131, c132, c133, c134, c135, c136, c137, c138, c139, c140], df⟩ wr := by
  conv => arg 2; whnf
  refine region_inv (by kernel_rfl) [[], [0], [1], [2], [3], [4, 3], [3], [5, 6, 3], [3, 7], [8, 3], [9], [10, 9], [11, 9], [9, 12], [13, 9], [14], [15, 14], [14], [16, 17, 14], [14, 18], [19, 14], [20], [21, 20], [20], [23, 20], [22, 24, 20], [20, 25], [26, 20], [27], [28, 27], [27], [30, 27], [29, 31, 27], [27, 32], [33, 27], [34], [35, 34], [34], [37, 34], [36, 38, 34], [39, 34], [34], [41, 34], [40, 42, 34], [43, 34], [44, 34], [34, 45], [46, 34], [47], [48, 47], [49, 47, 47], [50], [50], [52, 50], [51, 53, 50], [54, 50], [55, 50], [50], [57, 50], [56, 58, 50], [50, 59, 47], [47, 60]] (by kernel_rfl) [0, 1, 2, 3, 4, 5, 6, 7, 8, 9, 10, 11, 12, 13, 14, 15, 16, 17, 18, 19, 20, 21, 22, 23, 24, 25, 26, 27, 28, 29, 30, 31, 32, 33, 34, 35, 36, 37, 38, 39, 40, 41, 42, 43, 44, 45, 46, 47, 48, 49, 50, 51, 52, 53, 54, 55, 56, 57, 58, 59, 60, 61] (by decide +kernel) (by decide +kernel) (by decide +kernel) (fun L a wc => Inv hop_0_dsts [.pointer (some ⟨X, 0, none⟩), .int .i64 ff, .bool true, .bool true, undef, undef, undef, undef, .bool true, .bool true, undef, undef, undef, .bool true, .bool true, undef, undef, undef, undef, .bool true, .bool true, undef, undef, undef, undef, undef, .bool true, .bool true, undef, undef, undef, undef, undef, .bool true, .bool true, undef, undef, undef, undef, undef, undef, undef, undef, undef, undef, undef, .bool true, .bool true, undef, undef, undef, undef, undef, undef, undef, undef, undef, undef, undef, undef, undef, .bool true] ⟨#[c0, c1, c2, c3, c4, .int .i64 (n : Nat), c6, c7, .pointer (some ⟨X, 0, none⟩), c9, c10, c11, c12, c13, c14, c15, c16, c17, c18, c19, c20, c21, c22, c23, c24, c25, c26, c27, c28, c29, c30, c31, c32, c33, c34, c35, c36, c37, c38, c39, c40, c41, c42, c43, c44, c45, c46, c47, c48, c49, c50, c51, c52, c53, c54, c55, c56, c57, c58, c59, c60, c61, c62, c63, c64, c65, c66, c67, c68, c69, c70, c71, c72, c73, c74, c75, c76, c77, c78, c79, c80, c81, c82, c83, c84, c85, c86, c87, c88, c89, c90, c91, c92, c93, c94, c95, c96, c97, c98, c99, c100, c101, c102, c103, c104, c105, c106, c107, c108, c109, c110, c111, c112, c113, c114, c115, c116, c117, c118, c119, c120, c121, c122, c123, c124, c125, c126, c127, c128, c129, c130, c131, c132, c133, c134, c135, c136, c137, c138, c139, c140], df⟩ L a ∧ Hid (Ext wr wc)) ⟨Inv.start, Lib.hid ((Ext.refl wr).drew)⟩ ?_ ?_
  · refine ⟨?_, ?_, ?_, ?_, ?_, ?_, ?_, ?_, ?_, ?_, ?_, ?_, ?_, ?_, ?_, ?_, ?_, ?_, ?_, ?_, ?_, ?_, ?_, ?_, ?_, ?_, ?_, ?_, ?_, ?_, ?_, ?_, ?_, ?_, ?_, ?_, ?_, ?_, ?_, ?_, ?_, ?_, ?_, ?_, ?_, ?_, ?_, ?_, ?_, ?_, ?_, ?_, ?_, ?_, ?_, ?_, ?_, ?_, ?_, ?_, ?_, ?_, trivial⟩
    · -- 0 field
      rintro L a wc ⟨hv, HO⟩ hL hc hd
      exact wpOp_val rfl rfl (ex_field rfl ((hv.fixed 8 (by decide)).trans rfl) (by go_simp)) ⟨hv.put hop_0_apart 0 rfl (Nat.le_of_ble_eq_true rfl) (Nat.le_of_ble_eq_true rfl) rfl, HO⟩
    · -- 1 load
      rintro L a wc ⟨hv, HO⟩ hL hc hd
      have x0' : wc.cell? ⟨X, 0, none⟩ = some (.int .i64 ff) := HO.out.cell x0
      exact wpOp_val rfl rfl (ex_load rfl (hv.get 0 rfl rfl (hd 0 (by decide))) (by go_simp)) ⟨hv.put hop_0_apart 1 rfl (Nat.le_of_ble_eq_true rfl) (Nat.le_of_ble_eq_true rfl) rfl, HO⟩
    · -- 2 bin
      rintro L a wc ⟨hv, HO⟩ hL hc hd
      exact wpOp_val rfl rfl (ex_bin rfl (hv.get 1 rfl rfl (hd 1 (by decide))) rfl (by go_simp)) ⟨hv.put hop_0_apart 2 rfl (Nat.le_of_ble_eq_true rfl) (Nat.le_of_ble_eq_true rfl) rfl, HO⟩
    · -- 3 move
      rintro L a wc ⟨hv, HO⟩ hL hc hd
      exact wpOp_val rfl rfl (ex_move rfl (hv.get 2 rfl rfl (hd 2 (by decide)))) ⟨hv.put hop_0_apart 3 rfl (Nat.le_of_ble_eq_true rfl) (Nat.le_of_ble_eq_true rfl) rfl, HO⟩
    · -- 4 off
      rintro L a wc ⟨hv, HO⟩ hL hc hd
      exact wpOp_off rfl ((wanted_at rfl rfl (hv.get 3 rfl rfl (hd 3 (by decide)))).trans rfl) ⟨hv.put hop_0_apart 4 rfl (Nat.le_of_ble_eq_true rfl) (Nat.le_of_ble_eq_true rfl) rfl, HO⟩
    · -- 5 off
      rintro L a wc ⟨hv, HO⟩ hL hc hd
      exact wpOp_off rfl ((wanted_at rfl rfl (hv.get 3 rfl rfl (hd 3 (by decide)))).trans rfl) ⟨hv.put hop_0_apart 5 rfl (Nat.le_of_ble_eq_true rfl) (Nat.le_of_ble_eq_true rfl) rfl, HO⟩
    · -- 6 off
      rintro L a wc ⟨hv, HO⟩ hL hc hd
      exact wpOp_off rfl ((wanted_at rfl rfl (hv.get 3 rfl rfl (hd 3 (by decide)))).trans rfl) ⟨hv.put hop_0_apart 6 rfl (Nat.le_of_ble_eq_true rfl) (Nat.le_of_ble_eq_true rfl) rfl, HO⟩
    · -- 7 off
      rintro L a wc ⟨hv, HO⟩ hL hc hd
      exact wpOp_off rfl ((wanted_at rfl rfl (hv.get 3 rfl rfl (hd 3 (by decide)))).trans rfl) ⟨hv.put hop_0_apart 7 rfl (Nat.le_of_ble_eq_true rfl) (Nat.le_of_ble_eq_true rfl) rfl, HO⟩
    · -- 8 pick
      rintro L a wc ⟨hv, HO⟩ hL hc hd
      exact wpOp_val rfl rfl (ex_pick rfl (hv.get 3 rfl rfl (hd 3 (by decide))) rfl) ⟨hv.put hop_0_apart 8 rfl (Nat.le_of_ble_eq_true rfl) (Nat.le_of_ble_eq_true rfl) rfl, HO⟩
    · -- 9 move
      rintro L a wc ⟨hv, HO⟩ hL hc hd
      exact wpOp_val rfl rfl (ex_move rfl (hv.get 8 rfl rfl (hd 8 (by decide)))) ⟨hv.put hop_0_apart 9 rfl (Nat.le_of_ble_eq_true rfl) (Nat.le_of_ble_eq_true rfl) rfl, HO⟩
    · -- 10 off
      rintro L a wc ⟨hv, HO⟩ hL hc hd
      exact wpOp_off rfl ((wanted_at rfl rfl (hv.get 9 rfl rfl (hd 9 (by decide)))).trans rfl) ⟨hv.put hop_0_apart 10 rfl (Nat.le_of_ble_eq_true rfl) (Nat.le_of_ble_eq_true rfl) rfl, HO⟩
    · -- 11 off
      rintro L a wc ⟨hv, HO⟩ hL hc hd
      exact wpOp_off rfl ((wanted_at rfl rfl (hv.get 9 rfl rfl (hd 9 (by decide)))).trans rfl) ⟨hv.put hop_0_apart 11 rfl (Nat.le_of_ble_eq_true rfl) (Nat.le_of_ble_eq_true rfl) rfl, HO⟩
    · -- 12 off
      rintro L a wc ⟨hv, HO⟩ hL hc hd
      exact wpOp_off rfl ((wanted_at rfl rfl (hv.get 9 rfl rfl (hd 9 (by decide)))).trans rfl) ⟨hv.put hop_0_apart 12 rfl (Nat.le_of_ble_eq_true rfl) (Nat.le_of_ble_eq_true rfl) rfl, HO⟩
    · -- 13 pick
      rintro L a wc ⟨hv, HO⟩ hL hc hd
      exact wpOp_val rfl rfl (ex_pick rfl (hv.get 9 rfl rfl (hd 9 (by decide))) rfl) ⟨hv.put hop_0_apart 13 rfl (Nat.le_of_ble_eq_true rfl) (Nat.le_of_ble_eq_true rfl) rfl, HO⟩
    · -- 14 move
      rintro L a wc ⟨hv, HO⟩ hL hc hd
      exact wpOp_val rfl rfl (ex_move rfl (hv.get 13 rfl rfl (hd 13 (by decide)))) ⟨hv.put hop_0_apart 14 rfl (Nat.le_of_ble_eq_true rfl) (Nat.le_of_ble_eq_true rfl) rfl, HO⟩
    · -- 15 off
      rintro L a wc ⟨hv, HO⟩ hL hc hd
      exact wpOp_off rfl ((wanted_at rfl rfl (hv.get 14 rfl rfl (hd 14 (by decide)))).trans rfl) ⟨hv.put hop_0_apart 15 rfl (Nat.le_of_ble_eq_true rfl) (Nat.le_of_ble_eq_true rfl) rfl, HO⟩
    · -- 16 off
      rintro L a wc ⟨hv, HO⟩ hL hc hd
      exact wpOp_off rfl ((wanted_at rfl rfl (hv.get 14 rfl rfl (hd 14 (by decide)))).trans rfl) ⟨hv.put hop_0_apart 16 rfl (Nat.le_of_ble_eq_true rfl) (Nat.le_of_ble_eq_true rfl) rfl, HO⟩
    · -- 17 off
      rintro L a wc ⟨hv, HO⟩ hL hc hd
      exact wpOp_off rfl ((wanted_at rfl rfl (hv.get 14 rfl rfl (hd 14 (by decide)))).trans rfl) ⟨hv.put hop_0_apart 17 rfl (Nat.le_of_ble_eq_true rfl) (Nat.le_of_ble_eq_true rfl) rfl, HO⟩
    · -- 18 off
      rintro L a wc ⟨hv, HO⟩ hL hc hd
      exact wpOp_off rfl ((wanted_at rfl rfl (hv.get 14 rfl rfl (hd 14 (by decide)))).trans rfl) ⟨hv.put hop_0_apart 18 rfl (Nat.le_of_ble_eq_true rfl) (Nat.le_of_ble_eq_true rfl) rfl, HO⟩
    · -- 19 pick
      rintro L a wc ⟨hv, HO⟩ hL hc hd
      exact wpOp_val rfl rfl (ex_pick rfl (hv.get 14 rfl rfl (hd 14 (by decide))) rfl) ⟨hv.put hop_0_apart 19 rfl (Nat.le_of_ble_eq_true rfl) (Nat.le_of_ble_eq_true rfl) rfl, HO⟩
    · -- 20 move
      rintro L a wc ⟨hv, HO⟩ hL hc hd
      exact wpOp_val rfl rfl (ex_move rfl (hv.get 19 rfl rfl (hd 19 (by decide)))) ⟨hv.put hop_0_apart 20 rfl (Nat.le_of_ble_eq_true rfl) (Nat.le_of_ble_eq_true rfl) rfl, HO⟩
    · -- 21 off
      rintro L a wc ⟨hv, HO⟩ hL hc hd
      exact wpOp_off rfl ((wanted_at rfl rfl (hv.get 20 rfl rfl (hd 20 (by decide)))).trans rfl) ⟨hv.put hop_0_apart 21 rfl (Nat.le_of_ble_eq_true rfl) (Nat.le_of_ble_eq_true rfl) rfl, HO⟩
    · -- 22 off
      rintro L a wc ⟨hv, HO⟩ hL hc hd
      exact wpOp_off rfl ((wanted_at rfl rfl (hv.get 20 rfl rfl (hd 20 (by decide)))).trans rfl) ⟨hv.put hop_0_apart 22 rfl (Nat.le_of_ble_eq_true rfl) (Nat.le_of_ble_eq_true rfl) rfl, HO⟩
    · -- 23 off
      rintro L a wc ⟨hv, HO⟩ hL hc hd
      exact wpOp_off rfl ((wanted_at rfl rfl (hv.get 20 rfl rfl (hd 20 (by decide)))).trans rfl) ⟨hv.put hop_0_apart 23 rfl (Nat.le_of_ble_eq_true rfl) (Nat.le_of_ble_eq_true rfl) rfl, HO⟩
    · -- 24 off
      rintro L a wc ⟨hv, HO⟩ hL hc hd
      exact wpOp_off rfl ((wanted_at rfl rfl (hv.get 20 rfl rfl (hd 20 (by decide)))).trans rfl) ⟨hv.put hop_0_apart 24 rfl (Nat.le_of_ble_eq_true rfl) (Nat.le_of_ble_eq_true rfl) rfl, HO⟩
    · -- 25 off
      rintro L a wc ⟨hv, HO⟩ hL hc hd
      exact wpOp_off rfl ((wanted_at rfl rfl (hv.get 20 rfl rfl (hd 20 (by decide)))).trans rfl) ⟨hv.put hop_0_apart 25 rfl (Nat.le_of_ble_eq_true rfl) (Nat.le_of_ble_eq_true rfl) rfl, HO⟩
    · -- 26 pick
      rintro L a wc ⟨hv, HO⟩ hL hc hd
      exact wpOp_val rfl rfl (ex_pick rfl (hv.get 20 rfl rfl (hd 20 (by decide))) rfl) ⟨hv.put hop_0_apart 26 rfl (Nat.le_of_ble_eq_true rfl) (Nat.le_of_ble_eq_true rfl) rfl, HO⟩
    · -- 27 move
      rintro L a wc ⟨hv, HO⟩ hL hc hd
      exact wpOp_val rfl rfl (ex_move rfl (hv.get 26 rfl rfl (hd 26 (by decide)))) ⟨hv.put hop_0_apart 27 rfl (Nat.le_of_ble_eq_true rfl) (Nat.le_of_ble_eq_true rfl) rfl, HO⟩
    · -- 28 off
      rintro L a wc ⟨hv, HO⟩ hL hc hd
      exact wpOp_off rfl ((wanted_at rfl rfl (hv.get 27 rfl rfl (hd 27 (by decide)))).trans rfl) ⟨hv.put hop_0_apart 28 rfl (Nat.le_of_ble_eq_true rfl) (Nat.le_of_ble_eq_true rfl) rfl, HO⟩
    · -- 29 off
      rintro L a wc ⟨hv, HO⟩ hL hc hd
      exact wpOp_off rfl ((wanted_at rfl rfl (hv.get 27 rfl rfl (hd 27 (by decide)))).trans rfl) ⟨hv.put hop_0_apart 29 rfl (Nat.le_of_ble_eq_true rfl) (Nat.le_of_ble_eq_true rfl) rfl, HO⟩
    · -- 30 off
      rintro L a wc ⟨hv, HO⟩ hL hc hd
      exact wpOp_off rfl ((wanted_at rfl rfl (hv.get 27 rfl rfl (hd 27 (by decide)))).trans rfl) ⟨hv.put hop_0_apart 30 rfl (Nat.le_of_ble_eq_true rfl) (Nat.le_of_ble_eq_true rfl) rfl, HO⟩
    · -- 31 off
      rintro L a wc ⟨hv, HO⟩ hL hc hd
      exact wpOp_off rfl ((wanted_at rfl rfl (hv.get 27 rfl rfl (hd 27 (by decide)))).trans rfl) ⟨hv.put hop_0_apart 31 rfl (Nat.le_of_ble_eq_true rfl) (Nat.le_of_ble_eq_true rfl) rfl, HO⟩
    · -- 32 off
      rintro L a wc ⟨hv, HO⟩ hL hc hd
      exact wpOp_off rfl ((wanted_at rfl rfl (hv.get 27 rfl rfl (hd 27 (by decide)))).trans rfl) ⟨hv.put hop_0_apart 32 rfl (Nat.le_of_ble_eq_true rfl) (Nat.le_of_ble_eq_true rfl) rfl, HO⟩
    · -- 33 pick
      rintro L a wc ⟨hv, HO⟩ hL hc hd
      exact wpOp_val rfl rfl (ex_pick rfl (hv.get 27 rfl rfl (hd 27 (by decide))) rfl) ⟨hv.put hop_0_apart 33 rfl (Nat.le_of_ble_eq_true rfl) (Nat.le_of_ble_eq_true rfl) rfl, HO⟩
    · -- 34 move
      rintro L a wc ⟨hv, HO⟩ hL hc hd
      exact wpOp_val rfl rfl (ex_move rfl (hv.get 33 rfl rfl (hd 33 (by decide)))) ⟨hv.put hop_0_apart 34 rfl (Nat.le_of_ble_eq_true rfl) (Nat.le_of_ble_eq_true rfl) rfl, HO⟩
    · -- 35 off
      rintro L a wc ⟨hv, HO⟩ hL hc hd
      exact wpOp_off rfl ((wanted_at rfl rfl (hv.get 34 rfl rfl (hd 34 (by decide)))).trans rfl) ⟨hv.put hop_0_apart 35 rfl (Nat.le_of_ble_eq_true rfl) (Nat.le_of_ble_eq_true rfl) rfl, HO⟩
    · -- 36 off
      rintro L a wc ⟨hv, HO⟩ hL hc hd
      exact wpOp_off rfl ((wanted_at rfl rfl (hv.get 34 rfl rfl (hd 34 (by decide)))).trans rfl) ⟨hv.put hop_0_apart 36 rfl (Nat.le_of_ble_eq_true rfl) (Nat.le_of_ble_eq_true rfl) rfl, HO⟩
    · -- 37 off
      rintro L a wc ⟨hv, HO⟩ hL hc hd
      exact wpOp_off rfl ((wanted_at rfl rfl (hv.get 34 rfl rfl (hd 34 (by decide)))).trans rfl) ⟨hv.put hop_0_apart 37 rfl (Nat.le_of_ble_eq_true rfl) (Nat.le_of_ble_eq_true rfl) rfl, HO⟩
    · -- 38 off
      rintro L a wc ⟨hv, HO⟩ hL hc hd
      exact wpOp_off rfl ((wanted_at rfl rfl (hv.get 34 rfl rfl (hd 34 (by decide)))).trans rfl) ⟨hv.put hop_0_apart 38 rfl (Nat.le_of_ble_eq_true rfl) (Nat.le_of_ble_eq_true rfl) rfl, HO⟩
    · -- 39 off
      rintro L a wc ⟨hv, HO⟩ hL hc hd
      exact wpOp_off rfl ((wanted_at rfl rfl (hv.get 34 rfl rfl (hd 34 (by decide)))).trans rfl) ⟨hv.put hop_0_apart 39 rfl (Nat.le_of_ble_eq_true rfl) (Nat.le_of_ble_eq_true rfl) rfl, HO⟩
    · -- 40 off
      rintro L a wc ⟨hv, HO⟩ hL hc hd
      exact wpOp_off rfl ((wanted_at rfl rfl (hv.get 34 rfl rfl (hd 34 (by decide)))).trans rfl) ⟨hv.put hop_0_apart 40 rfl (Nat.le_of_ble_eq_true rfl) (Nat.le_of_ble_eq_true rfl) rfl, HO⟩
    · -- 41 off
      rintro L a wc ⟨hv, HO⟩ hL hc hd
      exact wpOp_off rfl ((wanted_at rfl rfl (hv.get 34 rfl rfl (hd 34 (by decide)))).trans rfl) ⟨hv.put hop_0_apart 41 rfl (Nat.le_of_ble_eq_true rfl) (Nat.le_of_ble_eq_true rfl) rfl, HO⟩
    · -- 42 off
      rintro L a wc ⟨hv, HO⟩ hL hc hd
      exact wpOp_off rfl ((wanted_at rfl rfl (hv.get 34 rfl rfl (hd 34 (by decide)))).trans rfl) ⟨hv.put hop_0_apart 42 rfl (Nat.le_of_ble_eq_true rfl) (Nat.le_of_ble_eq_true rfl) rfl, HO⟩
    · -- 43 off
      rintro L a wc ⟨hv, HO⟩ hL hc hd
      exact wpOp_off rfl ((wanted_at rfl rfl (hv.get 34 rfl rfl (hd 34 (by decide)))).trans rfl) ⟨hv.put hop_0_apart 43 rfl (Nat.le_of_ble_eq_true rfl) (Nat.le_of_ble_eq_true rfl) rfl, HO⟩
    · -- 44 off
      rintro L a wc ⟨hv, HO⟩ hL hc hd
      exact wpOp_off rfl ((wanted_at rfl rfl (hv.get 34 rfl rfl (hd 34 (by decide)))).trans rfl) ⟨hv.put hop_0_apart 44 rfl (Nat.le_of_ble_eq_true rfl) (Nat.le_of_ble_eq_true rfl) rfl, HO⟩
    · -- 45 off
      rintro L a wc ⟨hv, HO⟩ hL hc hd
      exact wpOp_off rfl ((wanted_at rfl rfl (hv.get 34 rfl rfl (hd 34 (by decide)))).trans rfl) ⟨hv.put hop_0_apart 45 rfl (Nat.le_of_ble_eq_true rfl) (Nat.le_of_ble_eq_true rfl) rfl, HO⟩
    · -- 46 pick
      rintro L a wc ⟨hv, HO⟩ hL hc hd
      exact wpOp_val rfl rfl (ex_pick rfl (hv.get 34 rfl rfl (hd 34 (by decide))) rfl) ⟨hv.put hop_0_apart 46 rfl (Nat.le_of_ble_eq_true rfl) (Nat.le_of_ble_eq_true rfl) rfl, HO⟩
    · -- 47 move
      rintro L a wc ⟨hv, HO⟩ hL hc hd
      exact wpOp_val rfl rfl (ex_move rfl (hv.get 46 rfl rfl (hd 46 (by decide)))) ⟨hv.put hop_0_apart 47 rfl (Nat.le_of_ble_eq_true rfl) (Nat.le_of_ble_eq_true rfl) rfl, HO⟩
    · -- 48 off
      rintro L a wc ⟨hv, HO⟩ hL hc hd
      exact wpOp_off rfl ((wanted_at rfl rfl (hv.get 47 rfl rfl (hd 47 (by decide)))).trans rfl) ⟨hv.put hop_0_apart 48 rfl (Nat.le_of_ble_eq_true rfl) (Nat.le_of_ble_eq_true rfl) rfl, HO⟩
    · -- 49 off
      rintro L a wc ⟨hv, HO⟩ hL hc hd
      exact wpOp_off rfl ((wanted_at rfl rfl (hv.get 47 rfl rfl (hd 47 (by decide)))).trans rfl) ⟨hv.put hop_0_apart 49 rfl (Nat.le_of_ble_eq_true rfl) (Nat.le_of_ble_eq_true rfl) rfl, HO⟩
    · -- 50 off
      rintro L a wc ⟨hv, HO⟩ hL hc hd
      exact wpOp_off rfl ((wanted_at rfl rfl (hv.get 47 rfl rfl (hd 47 (by decide)))).trans rfl) ⟨hv.put hop_0_apart 50 rfl (Nat.le_of_ble_eq_true rfl) (Nat.le_of_ble_eq_true rfl) rfl, HO⟩
    · -- 51 off
      rintro L a wc ⟨hv, HO⟩ hL hc hd
      exact wpOp_off rfl (wanted_undef rfl rfl (hv.get 50 rfl rfl (hd 50 (by decide)))) ⟨hv.put hop_0_apart 51 rfl (Nat.le_of_ble_eq_true rfl) (Nat.le_of_ble_eq_true rfl) rfl, HO⟩
    · -- 52 off
      rintro L a wc ⟨hv, HO⟩ hL hc hd
      exact wpOp_off rfl (wanted_undef rfl rfl (hv.get 50 rfl rfl (hd 50 (by decide)))) ⟨hv.put hop_0_apart 52 rfl (Nat.le_of_ble_eq_true rfl) (Nat.le_of_ble_eq_true rfl) rfl, HO⟩
    · -- 53 off
      rintro L a wc ⟨hv, HO⟩ hL hc hd
      exact wpOp_off rfl (wanted_undef rfl rfl (hv.get 50 rfl rfl (hd 50 (by decide)))) ⟨hv.put hop_0_apart 53 rfl (Nat.le_of_ble_eq_true rfl) (Nat.le_of_ble_eq_true rfl) rfl, HO⟩
    · -- 54 off
      rintro L a wc ⟨hv, HO⟩ hL hc hd
      exact wpOp_off rfl (wanted_undef rfl rfl (hv.get 50 rfl rfl (hd 50 (by decide)))) ⟨hv.put hop_0_apart 54 rfl (Nat.le_of_ble_eq_true rfl) (Nat.le_of_ble_eq_true rfl) rfl, HO⟩
    · -- 55 off
      rintro L a wc ⟨hv, HO⟩ hL hc hd
      exact wpOp_off rfl (wanted_undef rfl rfl (hv.get 50 rfl rfl (hd 50 (by decide)))) ⟨hv.put hop_0_apart 55 rfl (Nat.le_of_ble_eq_true rfl) (Nat.le_of_ble_eq_true rfl) rfl, HO⟩
    · -- 56 off
      rintro L a wc ⟨hv, HO⟩ hL hc hd
      exact wpOp_off rfl (wanted_undef rfl rfl (hv.get 50 rfl rfl (hd 50 (by decide)))) ⟨hv.put hop_0_apart 56 rfl (Nat.le_of_ble_eq_true rfl) (Nat.le_of_ble_eq_true rfl) rfl, HO⟩
    · -- 57 off
      rintro L a wc ⟨hv, HO⟩ hL hc hd
      exact wpOp_off rfl (wanted_undef rfl rfl (hv.get 50 rfl rfl (hd 50 (by decide)))) ⟨hv.put hop_0_apart 57 rfl (Nat.le_of_ble_eq_true rfl) (Nat.le_of_ble_eq_true rfl) rfl, HO⟩
    · -- 58 off
      rintro L a wc ⟨hv, HO⟩ hL hc hd
      exact wpOp_off rfl (wanted_undef rfl rfl (hv.get 50 rfl rfl (hd 50 (by decide)))) ⟨hv.put hop_0_apart 58 rfl (Nat.le_of_ble_eq_true rfl) (Nat.le_of_ble_eq_true rfl) rfl, HO⟩
    · -- 59 off
      rintro L a wc ⟨hv, HO⟩ hL hc hd
      exact wpOp_off rfl (wanted_undef rfl rfl (hv.get 50 rfl rfl (hd 50 (by decide)))) ⟨hv.put hop_0_apart 59 rfl (Nat.le_of_ble_eq_true rfl) (Nat.le_of_ble_eq_true rfl) rfl, HO⟩
    · -- 60 off
      rintro L a wc ⟨hv, HO⟩ hL hc hd
      exact wpOp_off rfl ((wanted_at rfl rfl (hv.get 47 rfl rfl (hd 47 (by decide)))).trans rfl) ⟨hv.put hop_0_apart 60 rfl (Nat.le_of_ble_eq_true rfl) (Nat.le_of_ble_eq_true rfl) rfl, HO⟩
    · -- 61 pick
      rintro L a wc ⟨hv, HO⟩ hL hc hd
      exact wpOp_val rfl rfl (ex_pick rfl (hv.get 47 rfl rfl (hd 47 (by decide))) rfl) ⟨hv.put hop_0_apart 61 rfl (Nat.le_of_ble_eq_true rfl) (Nat.le_of_ble_eq_true rfl) rfl, HO⟩
  · rintro L a wc ⟨hv, HO⟩ hall
    show K a wc
    have ha := act_lit a
    rw [hv.size, hv.defers] at ha
    have hl : ∀ f : Nat → Value, ((List.range (⟨#[c0, c1, c2, c3, c4, .int .i64 (n : Nat), c6, c7, .pointer (some ⟨X, 0, none⟩), c9, c10, c11, c12, c13, c14, c15, c16, c17, c18, c19, c20, c21, c22, c23, c24, c25, c26, c27, c28, c29, c30, c31, c32, c33, c34, c35, c36, c37, c38, c39, c40, c41, c42, c43, c44, c45, c46, c47, c48, c49, c50, c51, c52, c53, c54, c55, c56, c57, c58, c59, c60, c61, c62, c63, c64, c65, c66, c67, c68, c69, c70, c71, c72, c73, c74, c75, c76, c77, c78, c79, c80, c81, c82, c83, c84, c85, c86, c87, c88, c89, c90, c91, c92, c93, c94, c95, c96, c97, c98, c99, c100, c101, c102, c103, c104, c105, c106, c107, c108, c109, c110, c111, c112, c113, c114, c115, c116, c117, c118, c119, c120, c121, c122, c123, c124, c125, c126, c127, c128, c129, c130, c131, c132, c133, c134, c135, c136, c137, c138, c139, c140], df⟩ : Act).tmps.size).map f).toArray = #[f 0, f 1, f 2, f 3, f 4, f 5, f 6, f 7, f 8, f 9, f 10, f 11, f 12, f 13, f 14, f 15, f 16, f 17, f 18, f 19, f 20, f 21, f 22, f 23, f 24, f 25, f 26, f 27, f 28, f 29, f 30, f 31, f 32, f 33, f 34, f 35, f 36, f 37, f 38, f 39, f 40, f 41, f 42, f 43, f 44, f 45, f 46, f 47, f 48, f 49, f 50, f 51, f 52, f 53, f 54, f 55, f 56, f 57, f 58, f 59, f 60, f 61, f 62, f 63, f 64, f 65, f 66, f 67, f 68, f 69, f 70, f 71, f 72, f 73, f 74, f 75, f 76, f 77, f 78, f 79, f 80, f 81, f 82, f 83, f 84, f 85, f 86, f 87, f 88, f 89, f 90, f 91, f 92, f 93, f 94, f 95, f 96, f 97, f 98, f 99, f 100, f 101, f 102, f 103, f 104, f 105, f 106, f 107, f 108, f 109, f 110, f 111, f 112, f 113, f 114, f 115, f 116, f 117, f 118, f 119, f 120, f 121, f 122, f 123, f 124, f 125, f 126, f 127, f 128, f 129, f 130, f 131, f 132, f 133, f 134, f 135, f 136, f 137, f 138, f 139, f 140] := fun _ => rfl
    rw [hl] at ha
    simp only [hv.fixed 0 (by decide), hv.fixed 1 (by decide), hv.fixed 2 (by decide), hv.fixed 3 (by decide), hv.fixed 4 (by decide), hv.fixed 5 (by decide), hv.fixed 6 (by decide), hv.fixed 7 (by decide), hv.fixed 8 (by decide), hv.fixed 9 (by decide), hv.fixed 10 (by decide), hv.fixed 11 (by decide), hv.fixed 12 (by decide), hv.fixed 13 (by decide), hv.fixed 14 (by decide), hv.fixed 15 (by decide), hv.fixed 16 (by decide), hv.fixed 17 (by decide), hv.fixed 18 (by decide), hv.fixed 19 (by decide), hv.fixed 20 (by decide), hv.fixed 21 (by decide), hv.fixed 22 (by decide), hv.fixed 23 (by decide), hv.fixed 24 (by decide), hv.fixed 25 (by decide), hv.fixed 26 (by decide), hv.fixed 27 (by decide), hv.fixed 28 (by decide), hv.fixed 29 (by decide), hv.fixed 30 (by decide), hv.fixed 31 (by decide), hv.fixed 94 (by decide), hv.fixed 95 (by decide), hv.fixed 96 (by decide), hv.fixed 97 (by decide), hv.fixed 98 (by decide), hv.fixed 99 (by decide), hv.fixed 100 (by decide), hv.fixed 101 (by decide), hv.fixed 102 (by decide), hv.fixed 103 (by decide), hv.fixed 104 (by decide), hv.fixed 105 (by decide), hv.fixed 106 (by decide), hv.fixed 107 (by decide), hv.fixed 108 (by decide), hv.fixed 109 (by decide), hv.fixed 110 (by decide), hv.fixed 111 (by decide), hv.fixed 112 (by decide), hv.fixed 113 (by decide), hv.fixed 114 (by decide), hv.fixed 115 (by decide), hv.fixed 116 (by decide), hv.fixed 117 (by decide), hv.fixed 118 (by decide), hv.fixed 119 (by decide), hv.fixed 120 (by decide), hv.fixed 121 (by decide), hv.fixed 122 (by decide), hv.fixed 123 (by decide), hv.fixed 124 (by decide), hv.fixed 125 (by decide), hv.fixed 126 (by decide), hv.fixed 127 (by decide), hv.fixed 128 (by decide), hv.fixed 129 (by decide), hv.fixed 130 (by decide), hv.fixed 131 (by decide), hv.fixed 132 (by decide), hv.fixed 133 (by decide), hv.fixed 134 (by decide), hv.fixed 135 (by decide), hv.fixed 136 (by decide), hv.fixed 137 (by decide), hv.fixed 138 (by decide), hv.fixed 139 (by decide), hv.fixed 140 (by decide), hv.get 61 (d := 93) rfl rfl (hall 61 (by decide))] at ha
    rw [ha]
    exact hK _ _ _ _ _ _ _ _ _ _ _ _ _ _ _ _ _ _ _ _ _ _ _ _ _ _ _ _ _ _ _ _ _ _ _ _ _ _ _ _ _ _ _ _ _ _ _ _ _ _ _ _ _ _ _ _ _ _ _ _ _ wc HO.out
noncomputable def hop_1_code : Code := ((Tryd.f14.body.bind (regionOf 8)).getD .skip)
def hop_1_dsts : List (Option Nat) := [some 32, some 33, some 34, some 35, some 36, some 37, some 38, some 39, some 40, some 41, some 42, some 43, some 44, some 45, some 46, some 47, some 48, some 49, some 50, some 51, some 52, some 53, some 54, some 55, some 56, some 57, some 58, some 59, some 60, some 61, some 62, some 63, some 64, some 65, some 66, some 67, some 68, some 69, some 70, some 71, some 72, some 73, some 74, some 75, some 76, some 77, some 78, some 79, some 80, some 81, some 82, some 83, some 84, some 85, some 86, some 87, some 88, some 89, some 90, some 91, some 92, some 93]
theorem hop_1_apart : apartD hop_1_dsts = true := by decide +kernel
set_option maxRecDepth 1000000 in
set_option maxHeartbeats 16000000 in
theorem hop_1 (wr : World) (ff : Int) (X n : Nat) (x0 : wr.cell? ⟨X, 0, none⟩ = some (.int .i64 ff)) (q0 : ¬ ff < 0) (q1 : (n : Int) ≤ ff) (c0 c1 c2 c3 c4 c6 c7 c9 c10 c11 c12 c13 c14 c15 c16 c17 c18 c19 c20 c21 c22 c23 c24 c25 c26 c27 c28 c29 c30 c31 c32 c33 c34 c35 c36 c37 c38 c39 c40 c41 c42 c43 c44 c45 c46 c47 c48 c49 c50 c51 c52 c53 c54 c55 c56 c57 c58 c59 c60 c61 c62 c63 c64 c65 c66 c67 c68 c69 c70 c71 c72 c73 c74 c75 c76 c77 c78 c79 c80 c81 c82 c83 c84 c85 c86 c87 c88 c89 c90 c91 c92 c93 c94 c95 c96 c97 c98 c99 c100 c101 c102 c103 c104 c105 c106 c107 c108 c109 c110 c111 c112 c113 c114 c115 c116 c117 c118 c119 c120 c121 c122 c123 c124 c125 c126 c127 c128 c129 c130 c131 c132 c133 c134 c135 c136 c137 c138 c139 c140 : Value) (df : List Deferred) (K : Act → World → Prop)
    (hK : ∀  (u32 u33 u34 u35 u36 u37 u38 u39 u40 u41 u42 u43 u44 u45 u46 u47 u48 u49 u50 u51 u52 u53 u54 u55 u56 u57 u58 u59 u60 u61 u62 u63 u64 u65 u66 u67 u68 u69 u70 u71 u72 u73 u74 u75 u76 u77 u78 u79 u80 u81 u82 u83 u84 u85 u86 u87 u88 u89 u90 u91 u92 : Value) (wx : World), Ext wr wx → K ⟨#[c0, c1, c2, c3, c4, .int .i64 (n : Nat), c6, c7, .pointer (some ⟨X, 0, none⟩), c9, c10, c11, c12, c13, c14, c15, c16, c17, c18, c19, c20, c21, c22, c23, c24, c25, c26, c27, c28, c29, c30, c31, u32, u33, u34, u35, u36, u37, u38, u39, u40, u41, u42, u43, u44, u45, u46, u47, u48, u49, u50, u51, u52, u53, u54, u55, u56, u57, u58, u59, u60, u61, u62, u63, u64, u65, u66, u67, u68, u69, u70, u71, u72, u73, u74, u75, u76, u77, u78, u79, u80, u81, u82, u83, u84, u85, u86, u87, u88, u89, u90, u91, u92, .bool true, c94, c95, c96, c97, c98, c99, c100, c101, c102, c103, c104, c105, c106, c107, c108, c109, c110, c111, c112, c113, c114, c115, c116, c117, c118, c119, c120, c121, c122, c123, c124, c125, c126, c127, c128, c129, c130, c131, c132, c133, c134, c135, c136, c137, c138, c139, c140], df⟩ wx) :
    Code.wp Tryd.prog hop_1_code (AtEnd K) ⟨#[c0, c1, c2, c3, c4, .int .i64 (n : Nat), c6, c7, .pointer (some ⟨X, 0, none⟩), c9, c10, c11, c12, c13, c14, c15, c16, c17, c18, c19, c20, c21, c22, c23, c24, c25, c26, c27, c28, c29, c30, c31, c32, c33, c34, c35, c36, c37, c38, c39, c40, c41, c42, c43, c44, c45, c46, c47, c48, c49, c50, c51, c52, c53, c54, c55, c56, c57, c58, c59, c60, c61, c62, c63, c64, c65, c66, c67, c68, c69, c70, c71, c72, c73, c74, c75, c76, c77, c78, c79, c80, c81, c82, c83, c84, c85, c86, c87, c88, c89, c90, c91, c92, c93, c94, c95, c96, c97, c98, c99, c100, c101, c102, c103, c104, c105, c106, c107, c108, c109, c110, c111, c112, c113, c114, c115, c116, c117, c118, c119, c120, c121, c122, c123, c124, c125, c126, c127, c128, c129, c130, c131, c132, c133, c134, c135, c136, c137, c138, c139, c140], df⟩ wr := by
  conv => arg 2; whnf
  refine region_inv (by kernel_rfl) [[], [0], [1], [2], [3], [4, 3], [3], [5, 6, 3], [3, 7], [8, 3], [9], [10, 9], [11, 9], [9, 12], [13, 9], [14], [15, 14], [14], [16, 17, 14], [14, 18], [19, 14], [20], [21, 20], [20], [23, 20], [22, 24, 20], [20, 25], [26, 20], [27], [28, 27], [27], [30, 27], [29, 31, 27], [27, 32], [33, 27], [34], [35, 34], [34], [37, 34], [36, 38, 34], [39, 34], [34], [41, 34], [40, 42, 34], [43, 34], [44, 34], [34, 45], [46, 34], [47], [48, 47], [49, 47, 47], [50], [50], [52, 50], [51, 53, 50], [54, 50], [55, 50], [50], [57, 50], [56, 58, 50], [50, 59, 47], [47, 60]] (by kernel_rfl) [0, 1, 2, 3, 4, 5, 6, 7, 8, 9, 10, 11, 12, 13, 14, 15, 16, 17, 18, 19, 20, 21, 22, 23, 24, 25, 26, 27, 28, 29, 30, 31, 32, 33, 34, 35, 36, 37, 38, 39, 40, 41, 42, 43, 44, 45, 46, 47, 48, 49, 50, 51, 52, 53, 54, 55, 56, 57, 58, 59, 60, 61] (by decide +kernel) (by decide +kernel) (by decide +kernel) (fun L a wc => Inv hop_1_dsts [.pointer (some ⟨X, 0, none⟩), .int .i64 ff, .bool false, .bool false, .pointer (some ⟨X, 0, none⟩), .int .i64 ff, .int .i64 (n : Nat), .bool true, .bool true, .bool true, undef, undef, undef, .bool true, .bool true, undef, undef, undef, undef, .bool true, .bool true, undef, undef, undef, undef, undef, .bool true, .bool true, undef, undef, undef, undef, undef, .bool true, .bool true, undef, undef, undef, undef, undef, undef, undef, undef, undef, undef, undef, .bool true, .bool true, undef, undef, undef, undef, undef, undef, undef, undef, undef, undef, undef, undef, undef, .bool true] ⟨#[c0, c1, c2, c3, c4, .int .i64 (n : Nat), c6, c7, .pointer (some ⟨X, 0, none⟩), c9, c10, c11, c12, c13, c14, c15, c16, c17, c18, c19, c20, c21, c22, c23, c24, c25, c26, c27, c28, c29, c30, c31, c32, c33, c34, c35, c36, c37, c38, c39, c40, c41, c42, c43, c44, c45, c46, c47, c48, c49, c50, c51, c52, c53, c54, c55, c56, c57, c58, c59, c60, c61, c62, c63, c64, c65, c66, c67, c68, c69, c70, c71, c72, c73, c74, c75, c76, c77, c78, c79, c80, c81, c82, c83, c84, c85, c86, c87, c88, c89, c90, c91, c92, c93, c94, c95, c96, c97, c98, c99, c100, c101, c102, c103, c104, c105, c106, c107, c108, c109, c110, c111, c112, c113, c114, c115, c116, c117, c118, c119, c120, c121, c122, c123, c124, c125, c126, c127, c128, c129, c130, c131, c132, c133, c134, c135, c136, c137, c138, c139, c140], df⟩ L a ∧ Hid (Ext wr wc)) ⟨Inv.start, Lib.hid ((Ext.refl wr).drew)⟩ ?_ ?_
  · refine ⟨?_, ?_, ?_, ?_, ?_, ?_, ?_, ?_, ?_, ?_, ?_, ?_, ?_, ?_, ?_, ?_, ?_, ?_, ?_, ?_, ?_, ?_, ?_, ?_, ?_, ?_, ?_, ?_, ?_, ?_, ?_, ?_, ?_, ?_, ?_, ?_, ?_, ?_, ?_, ?_, ?_, ?_, ?_, ?_, ?_, ?_, ?_, ?_, ?_, ?_, ?_, ?_, ?_, ?_, ?_, ?_, ?_, ?_, ?_, ?_, ?_, ?_, trivial⟩
    · -- 0 field
      rintro L a wc ⟨hv, HO⟩ hL hc hd
      exact wpOp_val rfl rfl (ex_field rfl ((hv.fixed 8 (by decide)).trans rfl) (by go_simp)) ⟨hv.put hop_1_apart 0 rfl (Nat.le_of_ble_eq_true rfl) (Nat.le_of_ble_eq_true rfl) rfl, HO⟩
    · -- 1 load
      rintro L a wc ⟨hv, HO⟩ hL hc hd
      have x0' : wc.cell? ⟨X, 0, none⟩ = some (.int .i64 ff) := HO.out.cell x0
      exact wpOp_val rfl rfl (ex_load rfl (hv.get 0 rfl rfl (hd 0 (by decide))) (by go_simp)) ⟨hv.put hop_1_apart 1 rfl (Nat.le_of_ble_eq_true rfl) (Nat.le_of_ble_eq_true rfl) rfl, HO⟩
    · -- 2 bin
      rintro L a wc ⟨hv, HO⟩ hL hc hd
      exact wpOp_val rfl rfl (ex_bin rfl (hv.get 1 rfl rfl (hd 1 (by decide))) rfl (by go_simp)) ⟨hv.put hop_1_apart 2 rfl (Nat.le_of_ble_eq_true rfl) (Nat.le_of_ble_eq_true rfl) rfl, HO⟩
    · -- 3 move
      rintro L a wc ⟨hv, HO⟩ hL hc hd
      exact wpOp_val rfl rfl (ex_move rfl (hv.get 2 rfl rfl (hd 2 (by decide)))) ⟨hv.put hop_1_apart 3 rfl (Nat.le_of_ble_eq_true rfl) (Nat.le_of_ble_eq_true rfl) rfl, HO⟩
    · -- 4 field
      rintro L a wc ⟨hv, HO⟩ hL hc hd
      exact wpOp_val rfl ((wanted_at rfl rfl (hv.get 3 rfl rfl (hd 3 (by decide)))).trans rfl) (ex_field rfl ((hv.fixed 8 (by decide)).trans rfl) (by go_simp)) ⟨hv.put hop_1_apart 4 rfl (Nat.le_of_ble_eq_true rfl) (Nat.le_of_ble_eq_true rfl) rfl, HO⟩
    · -- 5 load
      rintro L a wc ⟨hv, HO⟩ hL hc hd
      have x0' : wc.cell? ⟨X, 0, none⟩ = some (.int .i64 ff) := HO.out.cell x0
      exact wpOp_val rfl ((wanted_at rfl rfl (hv.get 3 rfl rfl (hd 3 (by decide)))).trans rfl) (ex_load rfl (hv.get 4 rfl rfl (hd 4 (by decide))) (by go_simp)) ⟨hv.put hop_1_apart 5 rfl (Nat.le_of_ble_eq_true rfl) (Nat.le_of_ble_eq_true rfl) rfl, HO⟩
    · -- 6 move
      rintro L a wc ⟨hv, HO⟩ hL hc hd
      exact wpOp_val rfl ((wanted_at rfl rfl (hv.get 3 rfl rfl (hd 3 (by decide)))).trans rfl) (ex_move rfl ((hv.fixed 5 (by decide)).trans rfl)) ⟨hv.put hop_1_apart 6 rfl (Nat.le_of_ble_eq_true rfl) (Nat.le_of_ble_eq_true rfl) rfl, HO⟩
    · -- 7 bin
      rintro L a wc ⟨hv, HO⟩ hL hc hd
      exact wpOp_val rfl ((wanted_at rfl rfl (hv.get 3 rfl rfl (hd 3 (by decide)))).trans rfl) (ex_bin rfl (hv.get 5 rfl rfl (hd 5 (by decide))) (hv.get 6 rfl rfl (hd 6 (by decide))) (by go_simp)) ⟨hv.put hop_1_apart 7 rfl (Nat.le_of_ble_eq_true rfl) (Nat.le_of_ble_eq_true rfl) rfl, HO⟩
    · -- 8 pick
      rintro L a wc ⟨hv, HO⟩ hL hc hd
      exact wpOp_val rfl rfl (ex_pick rfl (hv.get 3 rfl rfl (hd 3 (by decide))) ((if_neg (by simp)).trans (hv.get 7 rfl rfl (hd 7 (by decide))))) ⟨hv.put hop_1_apart 8 rfl (Nat.le_of_ble_eq_true rfl) (Nat.le_of_ble_eq_true rfl) rfl, HO⟩
    · -- 9 move
      rintro L a wc ⟨hv, HO⟩ hL hc hd
      exact wpOp_val rfl rfl (ex_move rfl (hv.get 8 rfl rfl (hd 8 (by decide)))) ⟨hv.put hop_1_apart 9 rfl (Nat.le_of_ble_eq_true rfl) (Nat.le_of_ble_eq_true rfl) rfl, HO⟩
    · -- 10 off
      rintro L a wc ⟨hv, HO⟩ hL hc hd
      exact wpOp_off rfl ((wanted_at rfl rfl (hv.get 9 rfl rfl (hd 9 (by decide)))).trans rfl) ⟨hv.put hop_1_apart 10 rfl (Nat.le_of_ble_eq_true rfl) (Nat.le_of_ble_eq_true rfl) rfl, HO⟩
    · -- 11 off
      rintro L a wc ⟨hv, HO⟩ hL hc hd
      exact wpOp_off rfl ((wanted_at rfl rfl (hv.get 9 rfl rfl (hd 9 (by decide)))).trans rfl) ⟨hv.put hop_1_apart 11 rfl (Nat.le_of_ble_eq_true rfl) (Nat.le_of_ble_eq_true rfl) rfl, HO⟩
    · -- 12 off
      rintro L a wc ⟨hv, HO⟩ hL hc hd
      exact wpOp_off rfl ((wanted_at rfl rfl (hv.get 9 rfl rfl (hd 9 (by decide)))).trans rfl) ⟨hv.put hop_1_apart 12 rfl (Nat.le_of_ble_eq_true rfl) (Nat.le_of_ble_eq_true rfl) rfl, HO⟩
    · -- 13 pick
      rintro L a wc ⟨hv, HO⟩ hL hc hd
      exact wpOp_val rfl rfl (ex_pick rfl (hv.get 9 rfl rfl (hd 9 (by decide))) rfl) ⟨hv.put hop_1_apart 13 rfl (Nat.le_of_ble_eq_true rfl) (Nat.le_of_ble_eq_true rfl) rfl, HO⟩
    · -- 14 move
      rintro L a wc ⟨hv, HO⟩ hL hc hd
      exact wpOp_val rfl rfl (ex_move rfl (hv.get 13 rfl rfl (hd 13 (by decide)))) ⟨hv.put hop_1_apart 14 rfl (Nat.le_of_ble_eq_true rfl) (Nat.le_of_ble_eq_true rfl) rfl, HO⟩
    · -- 15 off
      rintro L a wc ⟨hv, HO⟩ hL hc hd
      exact wpOp_off rfl ((wanted_at rfl rfl (hv.get 14 rfl rfl (hd 14 (by decide)))).trans rfl) ⟨hv.put hop_1_apart 15 rfl (Nat.le_of_ble_eq_true rfl) (Nat.le_of_ble_eq_true rfl) rfl, HO⟩
    · -- 16 off
      rintro L a wc ⟨hv, HO⟩ hL hc hd
      exact wpOp_off rfl ((wanted_at rfl rfl (hv.get 14 rfl rfl (hd 14 (by decide)))).trans rfl) ⟨hv.put hop_1_apart 16 rfl (Nat.le_of_ble_eq_true rfl) (Nat.le_of_ble_eq_true rfl) rfl, HO⟩
    · -- 17 off
      rintro L a wc ⟨hv, HO⟩ hL hc hd
      exact wpOp_off rfl ((wanted_at rfl rfl (hv.get 14 rfl rfl (hd 14 (by decide)))).trans rfl) ⟨hv.put hop_1_apart 17 rfl (Nat.le_of_ble_eq_true rfl) (Nat.le_of_ble_eq_true rfl) rfl, HO⟩
    · -- 18 off
      rintro L a wc ⟨hv, HO⟩ hL hc hd
      exact wpOp_off rfl ((wanted_at rfl rfl (hv.get 14 rfl rfl (hd 14 (by decide)))).trans rfl) ⟨hv.put hop_1_apart 18 rfl (Nat.le_of_ble_eq_true rfl) (Nat.le_of_ble_eq_true rfl) rfl, HO⟩
    · -- 19 pick
      rintro L a wc ⟨hv, HO⟩ hL hc hd
      exact wpOp_val rfl rfl (ex_pick rfl (hv.get 14 rfl rfl (hd 14 (by decide))) rfl) ⟨hv.put hop_1_apart 19 rfl (Nat.le_of_ble_eq_true rfl) (Nat.le_of_ble_eq_true rfl) rfl, HO⟩
    · -- 20 move
      rintro L a wc ⟨hv, HO⟩ hL hc hd
      exact wpOp_val rfl rfl (ex_move rfl (hv.get 19 rfl rfl (hd 19 (by decide)))) ⟨hv.put hop_1_apart 20 rfl (Nat.le_of_ble_eq_true rfl) (Nat.le_of_ble_eq_true rfl) rfl, HO⟩
    · -- 21 off
      rintro L a wc ⟨hv, HO⟩ hL hc hd
      exact wpOp_off rfl ((wanted_at rfl rfl (hv.get 20 rfl rfl (hd 20 (by decide)))).trans rfl) ⟨hv.put hop_1_apart 21 rfl (Nat.le_of_ble_eq_true rfl) (Nat.le_of_ble_eq_true rfl) rfl, HO⟩
    · -- 22 off
      rintro L a wc ⟨hv, HO⟩ hL hc hd
      exact wpOp_off rfl ((wanted_at rfl rfl (hv.get 20 rfl rfl (hd 20 (by decide)))).trans rfl) ⟨hv.put hop_1_apart 22 rfl (Nat.le_of_ble_eq_true rfl) (Nat.le_of_ble_eq_true rfl) rfl, HO⟩
    · -- 23 off
      rintro L a wc ⟨hv, HO⟩ hL hc hd
      exact wpOp_off rfl ((wanted_at rfl rfl (hv.get 20 rfl rfl (hd 20 (by decide)))).trans rfl) ⟨hv.put hop_1_apart 23 rfl (Nat.le_of_ble_eq_true rfl) (Nat.le_of_ble_eq_true rfl) rfl, HO⟩
    · -- 24 off
      rintro L a wc ⟨hv, HO⟩ hL hc hd
      exact wpOp_off rfl ((wanted_at rfl rfl (hv.get 20 rfl rfl (hd 20 (by decide)))).trans rfl) ⟨hv.put hop_1_apart 24 rfl (Nat.le_of_ble_eq_true rfl) (Nat.le_of_ble_eq_true rfl) rfl, HO⟩
    · -- 25 off
      rintro L a wc ⟨hv, HO⟩ hL hc hd
      exact wpOp_off rfl ((wanted_at rfl rfl (hv.get 20 rfl rfl (hd 20 (by decide)))).trans rfl) ⟨hv.put hop_1_apart 25 rfl (Nat.le_of_ble_eq_true rfl) (Nat.le_of_ble_eq_true rfl) rfl, HO⟩
    · -- 26 pick
      rintro L a wc ⟨hv, HO⟩ hL hc hd
      exact wpOp_val rfl rfl (ex_pick rfl (hv.get 20 rfl rfl (hd 20 (by decide))) rfl) ⟨hv.put hop_1_apart 26 rfl (Nat.le_of_ble_eq_true rfl) (Nat.le_of_ble_eq_true rfl) rfl, HO⟩
    · -- 27 move
      rintro L a wc ⟨hv, HO⟩ hL hc hd
      exact wpOp_val rfl rfl (ex_move rfl (hv.get 26 rfl rfl (hd 26 (by decide)))) ⟨hv.put hop_1_apart 27 rfl (Nat.le_of_ble_eq_true rfl) (Nat.le_of_ble_eq_true rfl) rfl, HO⟩
    · -- 28 off
      rintro L a wc ⟨hv, HO⟩ hL hc hd
      exact wpOp_off rfl ((wanted_at rfl rfl (hv.get 27 rfl rfl (hd 27 (by decide)))).trans rfl) ⟨hv.put hop_1_apart 28 rfl (Nat.le_of_ble_eq_true rfl) (Nat.le_of_ble_eq_true rfl) rfl, HO⟩
    · -- 29 off
      rintro L a wc ⟨hv, HO⟩ hL hc hd
      exact wpOp_off rfl ((wanted_at rfl rfl (hv.get 27 rfl rfl (hd 27 (by decide)))).trans rfl) ⟨hv.put hop_1_apart 29 rfl (Nat.le_of_ble_eq_true rfl) (Nat.le_of_ble_eq_true rfl) rfl, HO⟩
    · -- 30 off
      rintro L a wc ⟨hv, HO⟩ hL hc hd
      exact wpOp_off rfl ((wanted_at rfl rfl (hv.get 27 rfl rfl (hd 27 (by decide)))).trans rfl) ⟨hv.put hop_1_apart 30 rfl (Nat.le_of_ble_eq_true rfl) (Nat.le_of_ble_eq_true rfl) rfl, HO⟩
    · -- 31 off
      rintro L a wc ⟨hv, HO⟩ hL hc hd
      exact wpOp_off rfl ((wanted_at rfl rfl (hv.get 27 rfl rfl (hd 27 (by decide)))).trans rfl) ⟨hv.put hop_1_apart 31 rfl (Nat.le_of_ble_eq_true rfl) (Nat.le_of_ble_eq_true rfl) rfl, HO⟩
    · -- 32 off
      rintro L a wc ⟨hv, HO⟩ hL hc hd
      exact wpOp_off rfl ((wanted_at rfl rfl (hv.get 27 rfl rfl (hd 27 (by decide)))).trans rfl) ⟨hv.put hop_1_apart 32 rfl (Nat.le_of_ble_eq_true rfl) (Nat.le_of_ble_eq_true rfl) rfl, HO⟩
    · -- 33 pick
      rintro L a wc ⟨hv, HO⟩ hL hc hd
      exact wpOp_val rfl rfl (ex_pick rfl (hv.get 27 rfl rfl (hd 27 (by decide))) rfl) ⟨hv.put hop_1_apart 33 rfl (Nat.le_of_ble_eq_true rfl) (Nat.le_of_ble_eq_true rfl) rfl, HO⟩
    · -- 34 move
      rintro L a wc ⟨hv, HO⟩ hL hc hd
      exact wpOp_val rfl rfl (ex_move rfl (hv.get 33 rfl rfl (hd 33 (by decide)))) ⟨hv.put hop_1_apart 34 rfl (Nat.le_of_ble_eq_true rfl) (Nat.le_of_ble_eq_true rfl) rfl, HO⟩
    · -- 35 off
      rintro L a wc ⟨hv, HO⟩ hL hc hd
      exact wpOp_off rfl ((wanted_at rfl rfl (hv.get 34 rfl rfl (hd 34 (by decide)))).trans rfl) ⟨hv.put hop_1_apart 35 rfl (Nat.le_of_ble_eq_true rfl) (Nat.le_of_ble_eq_true rfl) rfl, HO⟩
    · -- 36 off
      rintro L a wc ⟨hv, HO⟩ hL hc hd
      exact wpOp_off rfl ((wanted_at rfl rfl (hv.get 34 rfl rfl (hd 34 (by decide)))).trans rfl) ⟨hv.put hop_1_apart 36 rfl (Nat.le_of_ble_eq_true rfl) (Nat.le_of_ble_eq_true rfl) rfl, HO⟩
    · -- 37 off
      rintro L a wc ⟨hv, HO⟩ hL hc hd
      exact wpOp_off rfl ((wanted_at rfl rfl (hv.get 34 rfl rfl (hd 34 (by decide)))).trans rfl) ⟨hv.put hop_1_apart 37 rfl (Nat.le_of_ble_eq_true rfl) (Nat.le_of_ble_eq_true rfl) rfl, HO⟩
    · -- 38 off
      rintro L a wc ⟨hv, HO⟩ hL hc hd
      exact wpOp_off rfl ((wanted_at rfl rfl (hv.get 34 rfl rfl (hd 34 (by decide)))).trans rfl) ⟨hv.put hop_1_apart 38 rfl (Nat.le_of_ble_eq_true rfl) (Nat.le_of_ble_eq_true rfl) rfl, HO⟩
    · -- 39 off
      rintro L a wc ⟨hv, HO⟩ hL hc hd
      exact wpOp_off rfl ((wanted_at rfl rfl (hv.get 34 rfl rfl (hd 34 (by decide)))).trans rfl) ⟨hv.put hop_1_apart 39 rfl (Nat.le_of_ble_eq_true rfl) (Nat.le_of_ble_eq_true rfl) rfl, HO⟩
    · -- 40 off
      rintro L a wc ⟨hv, HO⟩ hL hc hd
      exact wpOp_off rfl ((wanted_at rfl rfl (hv.get 34 rfl rfl (hd 34 (by decide)))).trans rfl) ⟨hv.put hop_1_apart 40 rfl (Nat.le_of_ble_eq_true rfl) (Nat.le_of_ble_eq_true rfl) rfl, HO⟩
    · -- 41 off
      rintro L a wc ⟨hv, HO⟩ hL hc hd
      exact wpOp_off rfl ((wanted_at rfl rfl (hv.get 34 rfl rfl (hd 34 (by decide)))).trans rfl) ⟨hv.put hop_1_apart 41 rfl (Nat.le_of_ble_eq_true rfl) (Nat.le_of_ble_eq_true rfl) rfl, HO⟩
    · -- 42 off
      rintro L a wc ⟨hv, HO⟩ hL hc hd
      exact wpOp_off rfl ((wanted_at rfl rfl (hv.get 34 rfl rfl (hd 34 (by decide)))).trans rfl) ⟨hv.put hop_1_apart 42 rfl (Nat.le_of_ble_eq_true rfl) (Nat.le_of_ble_eq_true rfl) rfl, HO⟩
    · -- 43 off
      rintro L a wc ⟨hv, HO⟩ hL hc hd
      exact wpOp_off rfl ((wanted_at rfl rfl (hv.get 34 rfl rfl (hd 34 (by decide)))).trans rfl) ⟨hv.put hop_1_apart 43 rfl (Nat.le_of_ble_eq_true rfl) (Nat.le_of_ble_eq_true rfl) rfl, HO⟩
    · -- 44 off
      rintro L a wc ⟨hv, HO⟩ hL hc hd
      exact wpOp_off rfl ((wanted_at rfl rfl (hv.get 34 rfl rfl (hd 34 (by decide)))).trans rfl) ⟨hv.put hop_1_apart 44 rfl (Nat.le_of_ble_eq_true rfl) (Nat.le_of_ble_eq_true rfl) rfl, HO⟩
    · -- 45 off
      rintro L a wc ⟨hv, HO⟩ hL hc hd
      exact wpOp_off rfl ((wanted_at rfl rfl (hv.get 34 rfl rfl (hd 34 (by decide)))).trans rfl) ⟨hv.put hop_1_apart 45 rfl (Nat.le_of_ble_eq_true rfl) (Nat.le_of_ble_eq_true rfl) rfl, HO⟩
    · -- 46 pick
      rintro L a wc ⟨hv, HO⟩ hL hc hd
      exact wpOp_val rfl rfl (ex_pick rfl (hv.get 34 rfl rfl (hd 34 (by decide))) rfl) ⟨hv.put hop_1_apart 46 rfl (Nat.le_of_ble_eq_true rfl) (Nat.le_of_ble_eq_true rfl) rfl, HO⟩
    · -- 47 move
      rintro L a wc ⟨hv, HO⟩ hL hc hd
      exact wpOp_val rfl rfl (ex_move rfl (hv.get 46 rfl rfl (hd 46 (by decide)))) ⟨hv.put hop_1_apart 47 rfl (Nat.le_of_ble_eq_true rfl) (Nat.le_of_ble_eq_true rfl) rfl, HO⟩
    · -- 48 off
      rintro L a wc ⟨hv, HO⟩ hL hc hd
      exact wpOp_off rfl ((wanted_at rfl rfl (hv.get 47 rfl rfl (hd 47 (by decide)))).trans rfl) ⟨hv.put hop_1_apart 48 rfl (Nat.le_of_ble_eq_true rfl) (Nat.le_of_ble_eq_true rfl) rfl, HO⟩
    · -- 49 off
      rintro L a wc ⟨hv, HO⟩ hL hc hd
      exact wpOp_off rfl ((wanted_at rfl rfl (hv.get 47 rfl rfl (hd 47 (by decide)))).trans rfl) ⟨hv.put hop_1_apart 49 rfl (Nat.le_of_ble_eq_true rfl) (Nat.le_of_ble_eq_true rfl) rfl, HO⟩
    · -- 50 off
      rintro L a wc ⟨hv, HO⟩ hL hc hd
      exact wpOp_off rfl ((wanted_at rfl rfl (hv.get 47 rfl rfl (hd 47 (by decide)))).trans rfl) ⟨hv.put hop_1_apart 50 rfl (Nat.le_of_ble_eq_true rfl) (Nat.le_of_ble_eq_true rfl) rfl, HO⟩
    · -- 51 off
      rintro L a wc ⟨hv, HO⟩ hL hc hd
      exact wpOp_off rfl (wanted_undef rfl rfl (hv.get 50 rfl rfl (hd 50 (by decide)))) ⟨hv.put hop_1_apart 51 rfl (Nat.le_of_ble_eq_true rfl) (Nat.le_of_ble_eq_true rfl) rfl, HO⟩
    · -- 52 off
      rintro L a wc ⟨hv, HO⟩ hL hc hd
      exact wpOp_off rfl (wanted_undef rfl rfl (hv.get 50 rfl rfl (hd 50 (by decide)))) ⟨hv.put hop_1_apart 52 rfl (Nat.le_of_ble_eq_true rfl) (Nat.le_of_ble_eq_true rfl) rfl, HO⟩
    · -- 53 off
      rintro L a wc ⟨hv, HO⟩ hL hc hd
      exact wpOp_off rfl (wanted_undef rfl rfl (hv.get 50 rfl rfl (hd 50 (by decide)))) ⟨hv.put hop_1_apart 53 rfl (Nat.le_of_ble_eq_true rfl) (Nat.le_of_ble_eq_true rfl) rfl, HO⟩
    · -- 54 off
      rintro L a wc ⟨hv, HO⟩ hL hc hd
      exact wpOp_off rfl (wanted_undef rfl rfl (hv.get 50 rfl rfl (hd 50 (by decide)))) ⟨hv.put hop_1_apart 54 rfl (Nat.le_of_ble_eq_true rfl) (Nat.le_of_ble_eq_true rfl) rfl, HO⟩
    · -- 55 off
      rintro L a wc ⟨hv, HO⟩ hL hc hd
      exact wpOp_off rfl (wanted_undef rfl rfl (hv.get 50 rfl rfl (hd 50 (by decide)))) ⟨hv.put hop_1_apart 55 rfl (Nat.le_of_ble_eq_true rfl) (Nat.le_of_ble_eq_true rfl) rfl, HO⟩
    · -- 56 off
      rintro L a wc ⟨hv, HO⟩ hL hc hd
      exact wpOp_off rfl (wanted_undef rfl rfl (hv.get 50 rfl rfl (hd 50 (by decide)))) ⟨hv.put hop_1_apart 56 rfl (Nat.le_of_ble_eq_true rfl) (Nat.le_of_ble_eq_true rfl) rfl, HO⟩
    · -- 57 off
      rintro L a wc ⟨hv, HO⟩ hL hc hd
      exact wpOp_off rfl (wanted_undef rfl rfl (hv.get 50 rfl rfl (hd 50 (by decide)))) ⟨hv.put hop_1_apart 57 rfl (Nat.le_of_ble_eq_true rfl) (Nat.le_of_ble_eq_true rfl) rfl, HO⟩
    · -- 58 off
      rintro L a wc ⟨hv, HO⟩ hL hc hd
      exact wpOp_off rfl (wanted_undef rfl rfl (hv.get 50 rfl rfl (hd 50 (by decide)))) ⟨hv.put hop_1_apart 58 rfl (Nat.le_of_ble_eq_true rfl) (Nat.le_of_ble_eq_true rfl) rfl, HO⟩
    · -- 59 off
      rintro L a wc ⟨hv, HO⟩ hL hc hd
      exact wpOp_off rfl (wanted_undef rfl rfl (hv.get 50 rfl rfl (hd 50 (by decide)))) ⟨hv.put hop_1_apart 59 rfl (Nat.le_of_ble_eq_true rfl) (Nat.le_of_ble_eq_true rfl) rfl, HO⟩
    · -- 60 off
      rintro L a wc ⟨hv, HO⟩ hL hc hd
      exact wpOp_off rfl ((wanted_at rfl rfl (hv.get 47 rfl rfl (hd 47 (by decide)))).trans rfl) ⟨hv.put hop_1_apart 60 rfl (Nat.le_of_ble_eq_true rfl) (Nat.le_of_ble_eq_true rfl) rfl, HO⟩
    · -- 61 pick
      rintro L a wc ⟨hv, HO⟩ hL hc hd
      exact wpOp_val rfl rfl (ex_pick rfl (hv.get 47 rfl rfl (hd 47 (by decide))) rfl) ⟨hv.put hop_1_apart 61 rfl (Nat.le_of_ble_eq_true rfl) (Nat.le_of_ble_eq_true rfl) rfl, HO⟩
  · rintro L a wc ⟨hv, HO⟩ hall
    show K a wc
    have ha := act_lit a
    rw [hv.size, hv.defers] at ha
    have hl : ∀ f : Nat → Value, ((List.range (⟨#[c0, c1, c2, c3, c4, .int .i64 (n : Nat), c6, c7, .pointer (some ⟨X, 0, none⟩), c9, c10, c11, c12, c13, c14, c15, c16, c17, c18, c19, c20, c21, c22, c23, c24, c25, c26, c27, c28, c29, c30, c31, c32, c33, c34, c35, c36, c37, c38, c39, c40, c41, c42, c43, c44, c45, c46, c47, c48, c49, c50, c51, c52, c53, c54, c55, c56, c57, c58, c59, c60, c61, c62, c63, c64, c65, c66, c67, c68, c69, c70, c71, c72, c73, c74, c75, c76, c77, c78, c79, c80, c81, c82, c83, c84, c85, c86, c87, c88, c89, c90, c91, c92, c93, c94, c95, c96, c97, c98, c99, c100, c101, c102, c103, c104, c105, c106, c107, c108, c109, c110, c111, c112, c113, c114, c115, c116, c117, c118, c119, c120, c121, c122, c123, c124, c125, c126, c127, c128, c129, c130, c131, c132, c133, c134, c135, c136, c137, c138, c139, c140], df⟩ : Act).tmps.size).map f).toArray = #[f 0, f 1, f 2, f 3, f 4, f 5, f 6, f 7, f 8, f 9, f 10, f 11, f 12, f 13, f 14, f 15, f 16, f 17, f 18, f 19, f 20, f 21, f 22, f 23, f 24, f 25, f 26, f 27, f 28, f 29, f 30, f 31, f 32, f 33, f 34, f 35, f 36, f 37, f 38, f 39, f 40, f 41, f 42, f 43, f 44, f 45, f 46, f 47, f 48, f 49, f 50, f 51, f 52, f 53, f 54, f 55, f 56, f 57, f 58, f 59, f 60, f 61, f 62, f 63, f 64, f 65, f 66, f 67, f 68, f 69, f 70, f 71, f 72, f 73, f 74, f 75, f 76, f 77, f 78, f 79, f 80, f 81, f 82, f 83, f 84, f 85, f 86, f 87, f 88, f 89, f 90, f 91, f 92, f 93, f 94, f 95, f 96, f 97, f 98, f 99, f 100, f 101, f 102, f 103, f 104, f 105, f 106, f 107, f 108, f 109, f 110, f 111, f 112, f 113, f 114, f 115, f 116, f 117, f 118, f 119, f 120, f 121, f 122, f 123, f 124, f 125, f 126, f 127, f 128, f 129, f 130, f 131, f 132, f 133, f 134, f 135, f 136, f 137, f 138, f 139, f 140] := fun _ => rfl
    rw [hl] at ha
    simp only [hv.fixed 0 (by decide), hv.fixed 1 (by decide), hv.fixed 2 (by decide), hv.fixed 3 (by decide), hv.fixed 4 (by decide), hv.fixed 5 (by decide), hv.fixed 6 (by decide), hv.fixed 7 (by decide), hv.fixed 8 (by decide), hv.fixed 9 (by decide), hv.fixed 10 (by decide), hv.fixed 11 (by decide), hv.fixed 12 (by decide), hv.fixed 13 (by decide), hv.fixed 14 (by decide), hv.fixed 15 (by decide), hv.fixed 16 (by decide), hv.fixed 17 (by decide), hv.fixed 18 (by decide), hv.fixed 19 (by decide), hv.fixed 20 (by decide), hv.fixed 21 (by decide), hv.fixed 22 (by decide), hv.fixed 23 (by decide), hv.fixed 24 (by decide), hv.fixed 25 (by decide), hv.fixed 26 (by decide), hv.fixed 27 (by decide), hv.fixed 28 (by decide), hv.fixed 29 (by decide), hv.fixed 30 (by decide), hv.fixed 31 (by decide), hv.fixed 94 (by decide), hv.fixed 95 (by decide), hv.fixed 96 (by decide), hv.fixed 97 (by decide), hv.fixed 98 (by decide), hv.fixed 99 (by decide), hv.fixed 100 (by decide), hv.fixed 101 (by decide), hv.fixed 102 (by decide), hv.fixed 103 (by decide), hv.fixed 104 (by decide), hv.fixed 105 (by decide), hv.fixed 106 (by decide), hv.fixed 107 (by decide), hv.fixed 108 (by decide), hv.fixed 109 (by decide), hv.fixed 110 (by decide), hv.fixed 111 (by decide), hv.fixed 112 (by decide), hv.fixed 113 (by decide), hv.fixed 114 (by decide), hv.fixed 115 (by decide), hv.fixed 116 (by decide), hv.fixed 117 (by decide), hv.fixed 118 (by decide), hv.fixed 119 (by decide), hv.fixed 120 (by decide), hv.fixed 121 (by decide), hv.fixed 122 (by decide), hv.fixed 123 (by decide), hv.fixed 124 (by decide), hv.fixed 125 (by decide), hv.fixed 126 (by decide), hv.fixed 127 (by decide), hv.fixed 128 (by decide), hv.fixed 129 (by decide), hv.fixed 130 (by decide), hv.fixed 131 (by decide), hv.fixed 132 (by decide), hv.fixed 133 (by decide), hv.fixed 134 (by decide), hv.fixed 135 (by decide), hv.fixed 136 (by decide), hv.fixed 137 (by decide), hv.fixed 138 (by decide), hv.fixed 139 (by decide), hv.fixed 140 (by decide), hv.get 61 (d := 93) rfl rfl (hall 61 (by decide))] at ha
    rw [ha]
    exact hK _ _ _ _ _ _ _ _ _ _ _ _ _ _ _ _ _ _ _ _ _ _ _ _ _ _ _ _ _ _ _ _ _ _ _ _ _ _ _ _ _ _ _ _ _ _ _ _ _ _ _ _ _ _ _ _ _ _ _ _ _ wc HO.out
noncomputable def hop_2_code : Code := ((Tryd.f14.body.bind (regionOf 8)).getD .skip)
def hop_2_dsts : List (Option Nat) := [some 32, some 33, some 34, some 35, some 36, some 37, some 38, some 39, some 40, some 41, some 42, some 43, some 44, some 45, some 46, some 47, some 48, some 49, some 50, some 51, some 52, some 53, some 54, some 55, some 56, some 57, some 58, some 59, some 60, some 61, some 62, some 63, some 64, some 65, some 66, some 67, some 68, some 69, some 70, some 71, some 72, some 73, some 74, some 75, some 76, some 77, some 78, some 79, some 80, some 81, some 82, some 83, some 84, some 85, some 86, some 87, some 88, some 89, some 90, some 91, some 92, some 93]
theorem hop_2_apart : apartD hop_2_dsts = true := by decide +kernel
set_option maxRecDepth 1000000 in
set_option maxHeartbeats 16000000 in
theorem hop_2 (wr : World) (ff tt : Int) (X n : Nat) (x0 : wr.cell? ⟨X, 0, none⟩ = some (.int .i64 ff)) (x1 : wr.cell? ⟨X, 1, none⟩ = some (.int .i64 tt)) (q0 : ¬ ff < 0) (q1 : ¬ (n : Int) ≤ ff) (q2 : tt < 0) (c0 c1 c2 c3 c4 c6 c7 c9 c10 c11 c12 c13 c14 c15 c16 c17 c18 c19 c20 c21 c22 c23 c24 c25 c26 c27 c28 c29 c30 c31 c32 c33 c34 c35 c36 c37 c38 c39 c40 c41 c42 c43 c44 c45 c46 c47 c48 c49 c50 c51 c52 c53 c54 c55 c56 c57 c58 c59 c60 c61 c62 c63 c64 c65 c66 c67 c68 c69 c70 c71 c72 c73 c74 c75 c76 c77 c78 c79 c80 c81 c82 c83 c84 c85 c86 c87 c88 c89 c90 c91 c92 c93 c94 c95 c96 c97 c98 c99 c100 c101 c102 c103 c104 c105 c106 c107 c108 c109 c110 c111 c112 c113 c114 c115 c116 c117 c118 c119 c120 c121 c122 c123 c124 c125 c126 c127 c128 c129 c130 c131 c132 c133 c134 c135 c136 c137 c138 c139 c140 : Value) (df : List Deferred) (K : Act → World → Prop)
    (hK : ∀  (u32 u33 u34 u35 u36 u37 u38 u39 u40 u41 u42 u43 u44 u45 u46 u47 u48 u49 u50 u51 u52 u53 u54 u55 u56 u57 u58 u59 u60 u61 u62 u63 u64 u65 u66 u67 u68 u69 u70 u71 u72 u73 u74 u75 u76 u77 u78 u79 u80 u81 u82 u83 u84 u85 u86 u87 u88 u89 u90 u91 u92 : Value) (wx : World), Ext wr wx → K ⟨#[c0, c1, c2, c3, c4, .int .i64 (n : Nat), c6, c7, .pointer (some ⟨X, 0, none⟩), c9, c10, c11, c12, c13, c14, c15, c16, c17, c18, c19, c20, c21, c22, c23, c24, c25, c26, c27, c28, c29, c30, c31, u32, u33, u34, u35, u36, u37, u38, u39, u40, u41, u42, u43, u44, u45, u46, u47, u48, u49, u50, u51, u52, u53, u54, u55, u56, u57, u58, u59, u60, u61, u62, u63, u64, u65, u66, u67, u68, u69, u70, u71, u72, u73, u74, u75, u76, u77, u78, u79, u80, u81, u82, u83, u84, u85, u86, u87, u88, u89, u90, u91, u92, .bool true, c94, c95, c96, c97, c98, c99, c100, c101, c102, c103, c104, c105, c106, c107, c108, c109, c110, c111, c112, c113, c114, c115, c116, c117, c118, c119, c120, c121, c122, c123, c124, c125, c126, c127, c128, c129, c130, c131, c132, c133, c134, c135, c136, c137, c138, c139, c140], df⟩ wx) :
    Code.wp Tryd.prog hop_2_code (AtEnd K) ⟨#[c0, c1, c2, c3, c4, .int .i64 (n : Nat), c6, c7, .pointer (some ⟨X, 0, none⟩), c9, c10, c11, c12, c13, c14, c15, c16, c17, c18, c19, c20, c21, c22, c23, c24, c25, c26, c27, c28, c29, c30, c31, c32, c33, c34, c35, c36, c37, c38, c39, c40, c41, c42, c43, c44, c45, c46, c47, c48, c49, c50, c51, c52, c53, c54, c55, c56, c57, c58, c59, c60, c61, c62, c63, c64, c65, c66, c67, c68, c69, c70, c71, c72, c73, c74, c75, c76, c77, c78, c79, c80, c81, c82, c83, c84, c85, c86, c87, c88, c89, c90, c91, c92, c93, c94, c95, c96, c97, c98, c99, c100, c101, c102, c103, c104, c105, c106, c107, c108, c109, c110, c111, c112, c113, c114, c115, c116, c117, c118, c119, c120, c121, c122, c123, c124, c125, c126, c127, c128, c129, c130, c131, c132, c133, c134, c135, c136, c137, c138, c139, c140], df⟩ wr := by
  conv => arg 2; whnf
  refine region_inv (by kernel_rfl) [[], [0], [1], [2], [3], [4, 3], [3], [5, 6, 3], [3, 7], [8, 3], [9], [10, 9], [11, 9], [9, 12], [13, 9], [14], [15, 14], [14], [16, 17, 14], [14, 18], [19, 14], [20], [21, 20], [20], [23, 20], [22, 24, 20], [20, 25], [26, 20], [27], [28, 27], [27], [30, 27], [29, 31, 27], [27, 32], [33, 27], [34], [35, 34], [34], [37, 34], [36, 38, 34], [39, 34], [34], [41, 34], [40, 42, 34], [43, 34], [44, 34], [34, 45], [46, 34], [47], [48, 47], [49, 47, 47], [50], [50], [52, 50], [51, 53, 50], [54, 50], [55, 50], [50], [57, 50], [56, 58, 50], [50, 59, 47], [47, 60]] (by kernel_rfl) [0, 1, 2, 3, 4, 5, 6, 7, 8, 9, 10, 11, 12, 13, 14, 15, 16, 17, 18, 19, 20, 21, 22, 23, 24, 25, 26, 27, 28, 29, 30, 31, 32, 33, 34, 35, 36, 37, 38, 39, 40, 41, 42, 43, 44, 45, 46, 47, 48, 49, 50, 51, 52, 53, 54, 55, 56, 57, 58, 59, 60, 61] (by decide +kernel) (by decide +kernel) (by decide +kernel) (fun L a wc => Inv hop_2_dsts [.pointer (some ⟨X, 0, none⟩), .int .i64 ff, .bool false, .bool false, .pointer (some ⟨X, 0, none⟩), .int .i64 ff, .int .i64 (n : Nat), .bool false, .bool false, .bool false, .pointer (some ⟨X, 1, none⟩), .int .i64 tt, .bool true, .bool true, .bool true, undef, undef, undef, undef, .bool true, .bool true, undef, undef, undef, undef, undef, .bool true, .bool true, undef, undef, undef, undef, undef, .bool true, .bool true, undef, undef, undef, undef, undef, undef, undef, undef, undef, undef, undef, .bool true, .bool true, undef, undef, undef, undef, undef, undef, undef, undef, undef, undef, undef, undef, undef, .bool true] ⟨#[c0, c1, c2, c3, c4, .int .i64 (n : Nat), c6, c7, .pointer (some ⟨X, 0, none⟩), c9, c10, c11, c12, c13, c14, c15, c16, c17, c18, c19, c20, c21, c22, c23, c24, c25, c26, c27, c28, c29, c30, c31, c32, c33, c34, c35, c36, c37, c38, c39, c40, c41, c42, c43, c44, c45, c46, c47, c48, c49, c50, c51, c52, c53, c54, c55, c56, c57, c58, c59, c60, c61, c62, c63, c64, c65, c66, c67, c68, c69, c70, c71, c72, c73, c74, c75, c76, c77, c78, c79, c80, c81, c82, c83, c84, c85, c86, c87, c88, c89, c90, c91, c92, c93, c94, c95, c96, c97, c98, c99, c100, c101, c102, c103, c104, c105, c106, c107, c108, c109, c110, c111, c112, c113, c114, c115, c116, c117, c118, c119, c120, c121, c122, c123, c124, c125, c126, c127, c128, c129, c130, c131, c132, c133, c134, c135, c136, c137, c138, c139, c140], df⟩ L a ∧ Hid (Ext wr wc)) ⟨Inv.start, Lib.hid ((Ext.refl wr).drew)⟩ ?_ ?_
  · refine ⟨?_, ?_, ?_, ?_, ?_, ?_, ?_, ?_, ?_, ?_, ?_, ?_, ?_, ?_, ?_, ?_, ?_, ?_, ?_, ?_, ?_, ?_, ?_, ?_, ?_, ?_, ?_, ?_, ?_, ?_, ?_, ?_, ?_, ?_, ?_, ?_, ?_, ?_, ?_, ?_, ?_, ?_, ?_, ?_, ?_, ?_, ?_, ?_, ?_, ?_, ?_, ?_, ?_, ?_, ?_, ?_, ?_, ?_, ?_, ?_, ?_, ?_, trivial⟩
    · -- 0 field
      rintro L a wc ⟨hv, HO⟩ hL hc hd
      exact wpOp_val rfl rfl (ex_field rfl ((hv.fixed 8 (by decide)).trans rfl) (by go_simp)) ⟨hv.put hop_2_apart 0 rfl (Nat.le_of_ble_eq_true rfl) (Nat.le_of_ble_eq_true rfl) rfl, HO⟩
    · -- 1 load
      rintro L a wc ⟨hv, HO⟩ hL hc hd
      have x0' : wc.cell? ⟨X, 0, none⟩ = some (.int .i64 ff) := HO.out.cell x0
      exact wpOp_val rfl rfl (ex_load rfl (hv.get 0 rfl rfl (hd 0 (by decide))) (by go_simp)) ⟨hv.put hop_2_apart 1 rfl (Nat.le_of_ble_eq_true rfl) (Nat.le_of_ble_eq_true rfl) rfl, HO⟩
    · -- 2 bin
      rintro L a wc ⟨hv, HO⟩ hL hc hd
      exact wpOp_val rfl rfl (ex_bin rfl (hv.get 1 rfl rfl (hd 1 (by decide))) rfl (by go_simp)) ⟨hv.put hop_2_apart 2 rfl (Nat.le_of_ble_eq_true rfl) (Nat.le_of_ble_eq_true rfl) rfl, HO⟩
    · -- 3 move
      rintro L a wc ⟨hv, HO⟩ hL hc hd
      exact wpOp_val rfl rfl (ex_move rfl (hv.get 2 rfl rfl (hd 2 (by decide)))) ⟨hv.put hop_2_apart 3 rfl (Nat.le_of_ble_eq_true rfl) (Nat.le_of_ble_eq_true rfl) rfl, HO⟩
    · -- 4 field
      rintro L a wc ⟨hv, HO⟩ hL hc hd
      exact wpOp_val rfl ((wanted_at rfl rfl (hv.get 3 rfl rfl (hd 3 (by decide)))).trans rfl) (ex_field rfl ((hv.fixed 8 (by decide)).trans rfl) (by go_simp)) ⟨hv.put hop_2_apart 4 rfl (Nat.le_of_ble_eq_true rfl) (Nat.le_of_ble_eq_true rfl) rfl, HO⟩
    · -- 5 load
      rintro L a wc ⟨hv, HO⟩ hL hc hd
      have x0' : wc.cell? ⟨X, 0, none⟩ = some (.int .i64 ff) := HO.out.cell x0
      exact wpOp_val rfl ((wanted_at rfl rfl (hv.get 3 rfl rfl (hd 3 (by decide)))).trans rfl) (ex_load rfl (hv.get 4 rfl rfl (hd 4 (by decide))) (by go_simp)) ⟨hv.put hop_2_apart 5 rfl (Nat.le_of_ble_eq_true rfl) (Nat.le_of_ble_eq_true rfl) rfl, HO⟩
    · -- 6 move
      rintro L a wc ⟨hv, HO⟩ hL hc hd
      exact wpOp_val rfl ((wanted_at rfl rfl (hv.get 3 rfl rfl (hd 3 (by decide)))).trans rfl) (ex_move rfl ((hv.fixed 5 (by decide)).trans rfl)) ⟨hv.put hop_2_apart 6 rfl (Nat.le_of_ble_eq_true rfl) (Nat.le_of_ble_eq_true rfl) rfl, HO⟩
    · -- 7 bin
      rintro L a wc ⟨hv, HO⟩ hL hc hd
      exact wpOp_val rfl ((wanted_at rfl rfl (hv.get 3 rfl rfl (hd 3 (by decide)))).trans rfl) (ex_bin rfl (hv.get 5 rfl rfl (hd 5 (by decide))) (hv.get 6 rfl rfl (hd 6 (by decide))) (by go_simp)) ⟨hv.put hop_2_apart 7 rfl (Nat.le_of_ble_eq_true rfl) (Nat.le_of_ble_eq_true rfl) rfl, HO⟩
    · -- 8 pick
      rintro L a wc ⟨hv, HO⟩ hL hc hd
      exact wpOp_val rfl rfl (ex_pick rfl (hv.get 3 rfl rfl (hd 3 (by decide))) ((if_neg (by simp)).trans (hv.get 7 rfl rfl (hd 7 (by decide))))) ⟨hv.put hop_2_apart 8 rfl (Nat.le_of_ble_eq_true rfl) (Nat.le_of_ble_eq_true rfl) rfl, HO⟩
    · -- 9 move
      rintro L a wc ⟨hv, HO⟩ hL hc hd
      exact wpOp_val rfl rfl (ex_move rfl (hv.get 8 rfl rfl (hd 8 (by decide)))) ⟨hv.put hop_2_apart 9 rfl (Nat.le_of_ble_eq_true rfl) (Nat.le_of_ble_eq_true rfl) rfl, HO⟩
    · -- 10 field
      rintro L a wc ⟨hv, HO⟩ hL hc hd
      exact wpOp_val rfl ((wanted_at rfl rfl (hv.get 9 rfl rfl (hd 9 (by decide)))).trans rfl) (ex_field rfl ((hv.fixed 8 (by decide)).trans rfl) (by go_simp)) ⟨hv.put hop_2_apart 10 rfl (Nat.le_of_ble_eq_true rfl) (Nat.le_of_ble_eq_true rfl) rfl, HO⟩
    · -- 11 load
      rintro L a wc ⟨hv, HO⟩ hL hc hd
      have x1' : wc.cell? ⟨X, 1, none⟩ = some (.int .i64 tt) := HO.out.cell x1
      exact wpOp_val rfl ((wanted_at rfl rfl (hv.get 9 rfl rfl (hd 9 (by decide)))).trans rfl) (ex_load rfl (hv.get 10 rfl rfl (hd 10 (by decide))) (by go_simp)) ⟨hv.put hop_2_apart 11 rfl (Nat.le_of_ble_eq_true rfl) (Nat.le_of_ble_eq_true rfl) rfl, HO⟩
    · -- 12 bin
      rintro L a wc ⟨hv, HO⟩ hL hc hd
      exact wpOp_val rfl ((wanted_at rfl rfl (hv.get 9 rfl rfl (hd 9 (by decide)))).trans rfl) (ex_bin rfl (hv.get 11 rfl rfl (hd 11 (by decide))) rfl (by go_simp)) ⟨hv.put hop_2_apart 12 rfl (Nat.le_of_ble_eq_true rfl) (Nat.le_of_ble_eq_true rfl) rfl, HO⟩
    · -- 13 pick
      rintro L a wc ⟨hv, HO⟩ hL hc hd
      exact wpOp_val rfl rfl (ex_pick rfl (hv.get 9 rfl rfl (hd 9 (by decide))) ((if_neg (by simp)).trans (hv.get 12 rfl rfl (hd 12 (by decide))))) ⟨hv.put hop_2_apart 13 rfl (Nat.le_of_ble_eq_true rfl) (Nat.le_of_ble_eq_true rfl) rfl, HO⟩
    · -- 14 move
      rintro L a wc ⟨hv, HO⟩ hL hc hd
      exact wpOp_val rfl rfl (ex_move rfl (hv.get 13 rfl rfl (hd 13 (by decide)))) ⟨hv.put hop_2_apart 14 rfl (Nat.le_of_ble_eq_true rfl) (Nat.le_of_ble_eq_true rfl) rfl, HO⟩
    · -- 15 off
      rintro L a wc ⟨hv, HO⟩ hL hc hd
      exact wpOp_off rfl ((wanted_at rfl rfl (hv.get 14 rfl rfl (hd 14 (by decide)))).trans rfl) ⟨hv.put hop_2_apart 15 rfl (Nat.le_of_ble_eq_true rfl) (Nat.le_of_ble_eq_true rfl) rfl, HO⟩
    · -- 16 off
      rintro L a wc ⟨hv, HO⟩ hL hc hd
      exact wpOp_off rfl ((wanted_at rfl rfl (hv.get 14 rfl rfl (hd 14 (by decide)))).trans rfl) ⟨hv.put hop_2_apart 16 rfl (Nat.le_of_ble_eq_true rfl) (Nat.le_of_ble_eq_true rfl) rfl, HO⟩
    · -- 17 off
      rintro L a wc ⟨hv, HO⟩ hL hc hd
      exact wpOp_off rfl ((wanted_at rfl rfl (hv.get 14 rfl rfl (hd 14 (by decide)))).trans rfl) ⟨hv.put hop_2_apart 17 rfl (Nat.le_of_ble_eq_true rfl) (Nat.le_of_ble_eq_true rfl) rfl, HO⟩
    · -- 18 off
      rintro L a wc ⟨hv, HO⟩ hL hc hd
      exact wpOp_off rfl ((wanted_at rfl rfl (hv.get 14 rfl rfl (hd 14 (by decide)))).trans rfl) ⟨hv.put hop_2_apart 18 rfl (Nat.le_of_ble_eq_true rfl) (Nat.le_of_ble_eq_true rfl) rfl, HO⟩
    · -- 19 pick
      rintro L a wc ⟨hv, HO⟩ hL hc hd
      exact wpOp_val rfl rfl (ex_pick rfl (hv.get 14 rfl rfl (hd 14 (by decide))) rfl) ⟨hv.put hop_2_apart 19 rfl (Nat.le_of_ble_eq_true rfl) (Nat.le_of_ble_eq_true rfl) rfl, HO⟩
    · -- 20 move
      rintro L a wc ⟨hv, HO⟩ hL hc hd
      exact wpOp_val rfl rfl (ex_move rfl (hv.get 19 rfl rfl (hd 19 (by decide)))) ⟨hv.put hop_2_apart 20 rfl (Nat.le_of_ble_eq_true rfl) (Nat.le_of_ble_eq_true rfl) rfl, HO⟩
    · -- 21 off
      rintro L a wc ⟨hv, HO⟩ hL hc hd
      exact wpOp_off rfl ((wanted_at rfl rfl (hv.get 20 rfl rfl (hd 20 (by decide)))).trans rfl) ⟨hv.put hop_2_apart 21 rfl (Nat.le_of_ble_eq_true rfl) (Nat.le_of_ble_eq_true rfl) rfl, HO⟩
    · -- 22 off
      rintro L a wc ⟨hv, HO⟩ hL hc hd
      exact wpOp_off rfl ((wanted_at rfl rfl (hv.get 20 rfl rfl (hd 20 (by decide)))).trans rfl) ⟨hv.put hop_2_apart 22 rfl (Nat.le_of_ble_eq_true rfl) (Nat.le_of_ble_eq_true rfl) rfl, HO⟩
    · -- 23 off
      rintro L a wc ⟨hv, HO⟩ hL hc hd
      exact wpOp_off rfl ((wanted_at rfl rfl (hv.get 20 rfl rfl (hd 20 (by decide)))).trans rfl) ⟨hv.put hop_2_apart 23 rfl (Nat.le_of_ble_eq_true rfl) (Nat.le_of_ble_eq_true rfl) rfl, HO⟩
    · -- 24 off
      rintro L a wc ⟨hv, HO⟩ hL hc hd
      exact wpOp_off rfl ((wanted_at rfl rfl (hv.get 20 rfl rfl (hd 20 (by decide)))).trans rfl) ⟨hv.put hop_2_apart 24 rfl (Nat.le_of_ble_eq_true rfl) (Nat.le_of_ble_eq_true rfl) rfl, HO⟩
    · -- 25 off
      rintro L a wc ⟨hv, HO⟩ hL hc hd
      exact wpOp_off rfl ((wanted_at rfl rfl (hv.get 20 rfl rfl (hd 20 (by decide)))).trans rfl) ⟨hv.put hop_2_apart 25 rfl (Nat.le_of_ble_eq_true rfl) (Nat.le_of_ble_eq_true rfl) rfl, HO⟩
    · -- 26 pick
      rintro L a wc ⟨hv, HO⟩ hL hc hd
      exact wpOp_val rfl rfl (ex_pick rfl (hv.get 20 rfl rfl (hd 20 (by decide))) rfl) ⟨hv.put hop_2_apart 26 rfl (Nat.le_of_ble_eq_true rfl) (Nat.le_of_ble_eq_true rfl) rfl, HO⟩
    · -- 27 move
      rintro L a wc ⟨hv, HO⟩ hL hc hd
      exact wpOp_val rfl rfl (ex_move rfl (hv.get 26 rfl rfl (hd 26 (by decide)))) ⟨hv.put hop_2_apart 27 rfl (Nat.le_of_ble_eq_true rfl) (Nat.le_of_ble_eq_true rfl) rfl, HO⟩
    · -- 28 off
      rintro L a wc ⟨hv, HO⟩ hL hc hd
      exact wpOp_off rfl ((wanted_at rfl rfl (hv.get 27 rfl rfl (hd 27 (by decide)))).trans rfl) ⟨hv.put hop_2_apart 28 rfl (Nat.le_of_ble_eq_true rfl) (Nat.le_of_ble_eq_true rfl) rfl, HO⟩
    · -- 29 off
      rintro L a wc ⟨hv, HO⟩ hL hc hd
      exact wpOp_off rfl ((wanted_at rfl rfl (hv.get 27 rfl rfl (hd 27 (by decide)))).trans rfl) ⟨hv.put hop_2_apart 29 rfl (Nat.le_of_ble_eq_true rfl) (Nat.le_of_ble_eq_true rfl) rfl, HO⟩
    · -- 30 off
      rintro L a wc ⟨hv, HO⟩ hL hc hd
      exact wpOp_off rfl ((wanted_at rfl rfl (hv.get 27 rfl rfl (hd 27 (by decide)))).trans rfl) ⟨hv.put hop_2_apart 30 rfl (Nat.le_of_ble_eq_true rfl) (Nat.le_of_ble_eq_true rfl) rfl, HO⟩
    · -- 31 off
      rintro L a wc ⟨hv, HO⟩ hL hc hd
      exact wpOp_off rfl ((wanted_at rfl rfl (hv.get 27 rfl rfl (hd 27 (by decide)))).trans rfl) ⟨hv.put hop_2_apart 31 rfl (Nat.le_of_ble_eq_true rfl) (Nat.le_of_ble_eq_true rfl) rfl, HO⟩
    · -- 32 off
      rintro L a wc ⟨hv, HO⟩ hL hc hd
      exact wpOp_off rfl ((wanted_at rfl rfl (hv.get 27 rfl rfl (hd 27 (by decide)))).trans rfl) ⟨hv.put hop_2_apart 32 rfl (Nat.le_of_ble_eq_true rfl) (Nat.le_of_ble_eq_true rfl) rfl, HO⟩
    · -- 33 pick
      rintro L a wc ⟨hv, HO⟩ hL hc hd
      exact wpOp_val rfl rfl (ex_pick rfl (hv.get 27 rfl rfl (hd 27 (by decide))) rfl) ⟨hv.put hop_2_apart 33 rfl (Nat.le_of_ble_eq_true rfl) (Nat.le_of_ble_eq_true rfl) rfl, HO⟩
    · -- 34 move
      rintro L a wc ⟨hv, HO⟩ hL hc hd
      exact wpOp_val rfl rfl (ex_move rfl (hv.get 33 rfl rfl (hd 33 (by decide)))) ⟨hv.put hop_2_apart 34 rfl (Nat.le_of_ble_eq_true rfl) (Nat.le_of_ble_eq_true rfl) rfl, HO⟩
    · -- 35 off
      rintro L a wc ⟨hv, HO⟩ hL hc hd
      exact wpOp_off rfl ((wanted_at rfl rfl (hv.get 34 rfl rfl (hd 34 (by decide)))).trans rfl) ⟨hv.put hop_2_apart 35 rfl (Nat.le_of_ble_eq_true rfl) (Nat.le_of_ble_eq_true rfl) rfl, HO⟩
    · -- 36 off
      rintro L a wc ⟨hv, HO⟩ hL hc hd
      exact wpOp_off rfl ((wanted_at rfl rfl (hv.get 34 rfl rfl (hd 34 (by decide)))).trans rfl) ⟨hv.put hop_2_apart 36 rfl (Nat.le_of_ble_eq_true rfl) (Nat.le_of_ble_eq_true rfl) rfl, HO⟩
    · -- 37 off
      rintro L a wc ⟨hv, HO⟩ hL hc hd
      exact wpOp_off rfl ((wanted_at rfl rfl (hv.get 34 rfl rfl (hd 34 (by decide)))).trans rfl) ⟨hv.put hop_2_apart 37 rfl (Nat.le_of_ble_eq_true rfl) (Nat.le_of_ble_eq_true rfl) rfl, HO⟩
    · -- 38 off
      rintro L a wc ⟨hv, HO⟩ hL hc hd
      exact wpOp_off rfl ((wanted_at rfl rfl (hv.get 34 rfl rfl (hd 34 (by decide)))).trans rfl) ⟨hv.put hop_2_apart 38 rfl (Nat.le_of_ble_eq_true rfl) (Nat.le_of_ble_eq_true rfl) rfl, HO⟩
    · -- 39 off
      rintro L a wc ⟨hv, HO⟩ hL hc hd
      exact wpOp_off rfl ((wanted_at rfl rfl (hv.get 34 rfl rfl (hd 34 (by decide)))).trans rfl) ⟨hv.put hop_2_apart 39 rfl (Nat.le_of_ble_eq_true rfl) (Nat.le_of_ble_eq_true rfl) rfl, HO⟩
    · -- 40 off
      rintro L a wc ⟨hv, HO⟩ hL hc hd
      exact wpOp_off rfl ((wanted_at rfl rfl (hv.get 34 rfl rfl (hd 34 (by decide)))).trans rfl) ⟨hv.put hop_2_apart 40 rfl (Nat.le_of_ble_eq_true rfl) (Nat.le_of_ble_eq_true rfl) rfl, HO⟩
    · -- 41 off
      rintro L a wc ⟨hv, HO⟩ hL hc hd
      exact wpOp_off rfl ((wanted_at rfl rfl (hv.get 34 rfl rfl (hd 34 (by decide)))).trans rfl) ⟨hv.put hop_2_apart 41 rfl (Nat.le_of_ble_eq_true rfl) (Nat.le_of_ble_eq_true rfl) rfl, HO⟩
    · -- 42 off
      rintro L a wc ⟨hv, HO⟩ hL hc hd
      exact wpOp_off rfl ((wanted_at rfl rfl (hv.get 34 rfl rfl (hd 34 (by decide)))).trans rfl) ⟨hv.put hop_2_apart 42 rfl (Nat.le_of_ble_eq_true rfl) (Nat.le_of_ble_eq_true rfl) rfl, HO⟩
    · -- 43 off
      rintro L a wc ⟨hv, HO⟩ hL hc hd
      exact wpOp_off rfl ((wanted_at rfl rfl (hv.get 34 rfl rfl (hd 34 (by decide)))).trans rfl) ⟨hv.put hop_2_apart 43 rfl (Nat.le_of_ble_eq_true rfl) (Nat.le_of_ble_eq_true rfl) rfl, HO⟩
    · -- 44 off
      rintro L a wc ⟨hv, HO⟩ hL hc hd
      exact wpOp_off rfl ((wanted_at rfl rfl (hv.get 34 rfl rfl (hd 34 (by decide)))).trans rfl) ⟨hv.put hop_2_apart 44 rfl (Nat.le_of_ble_eq_true rfl) (Nat.le_of_ble_eq_true rfl) rfl, HO⟩
    · -- 45 off
      rintro L a wc ⟨hv, HO⟩ hL hc hd
      exact wpOp_off rfl ((wanted_at rfl rfl (hv.get 34 rfl rfl (hd 34 (by decide)))).trans rfl) ⟨hv.put hop_2_apart 45 rfl (Nat.le_of_ble_eq_true rfl) (Nat.le_of_ble_eq_true rfl) rfl, HO⟩
    · -- 46 pick
      rintro L a wc ⟨hv, HO⟩ hL hc hd
      exact wpOp_val rfl rfl (ex_pick rfl (hv.get 34 rfl rfl (hd 34 (by decide))) rfl) ⟨hv.put hop_2_apart 46 rfl (Nat.le_of_ble_eq_true rfl) (Nat.le_of_ble_eq_true rfl) rfl, HO⟩
    · -- 47 move
      rintro L a wc ⟨hv, HO⟩ hL hc hd
      exact wpOp_val rfl rfl (ex_move rfl (hv.get 46 rfl rfl (hd 46 (by decide)))) ⟨hv.put hop_2_apart 47 rfl (Nat.le_of_ble_eq_true rfl) (Nat.le_of_ble_eq_true rfl) rfl, HO⟩
    · -- 48 off
      rintro L a wc ⟨hv, HO⟩ hL hc hd
      exact wpOp_off rfl ((wanted_at rfl rfl (hv.get 47 rfl rfl (hd 47 (by decide)))).trans rfl) ⟨hv.put hop_2_apart 48 rfl (Nat.le_of_ble_eq_true rfl) (Nat.le_of_ble_eq_true rfl) rfl, HO⟩
    · -- 49 off
      rintro L a wc ⟨hv, HO⟩ hL hc hd
      exact wpOp_off rfl ((wanted_at rfl rfl (hv.get 47 rfl rfl (hd 47 (by decide)))).trans rfl) ⟨hv.put hop_2_apart 49 rfl (Nat.le_of_ble_eq_true rfl) (Nat.le_of_ble_eq_true rfl) rfl, HO⟩
    · -- 50 off
      rintro L a wc ⟨hv, HO⟩ hL hc hd
      exact wpOp_off rfl ((wanted_at rfl rfl (hv.get 47 rfl rfl (hd 47 (by decide)))).trans rfl) ⟨hv.put hop_2_apart 50 rfl (Nat.le_of_ble_eq_true rfl) (Nat.le_of_ble_eq_true rfl) rfl, HO⟩
    · -- 51 off
      rintro L a wc ⟨hv, HO⟩ hL hc hd
      exact wpOp_off rfl (wanted_undef rfl rfl (hv.get 50 rfl rfl (hd 50 (by decide)))) ⟨hv.put hop_2_apart 51 rfl (Nat.le_of_ble_eq_true rfl) (Nat.le_of_ble_eq_true rfl) rfl, HO⟩
    · -- 52 off
      rintro L a wc ⟨hv, HO⟩ hL hc hd
      exact wpOp_off rfl (wanted_undef rfl rfl (hv.get 50 rfl rfl (hd 50 (by decide)))) ⟨hv.put hop_2_apart 52 rfl (Nat.le_of_ble_eq_true rfl) (Nat.le_of_ble_eq_true rfl) rfl, HO⟩
    · -- 53 off
      rintro L a wc ⟨hv, HO⟩ hL hc hd
      exact wpOp_off rfl (wanted_undef rfl rfl (hv.get 50 rfl rfl (hd 50 (by decide)))) ⟨hv.put hop_2_apart 53 rfl (Nat.le_of_ble_eq_true rfl) (Nat.le_of_ble_eq_true rfl) rfl, HO⟩
    · -- 54 off
      rintro L a wc ⟨hv, HO⟩ hL hc hd
      exact wpOp_off rfl (wanted_undef rfl rfl (hv.get 50 rfl rfl (hd 50 (by decide)))) ⟨hv.put hop_2_apart 54 rfl (Nat.le_of_ble_eq_true rfl) (Nat.le_of_ble_eq_true rfl) rfl, HO⟩
    · -- 55 off
      rintro L a wc ⟨hv, HO⟩ hL hc hd
      exact wpOp_off rfl (wanted_undef rfl rfl (hv.get 50 rfl rfl (hd 50 (by decide)))) ⟨hv.put hop_2_apart 55 rfl (Nat.le_of_ble_eq_true rfl) (Nat.le_of_ble_eq_true rfl) rfl, HO⟩
    · -- 56 off
      rintro L a wc ⟨hv, HO⟩ hL hc hd
      exact wpOp_off rfl (wanted_undef rfl rfl (hv.get 50 rfl rfl (hd 50 (by decide)))) ⟨hv.put hop_2_apart 56 rfl (Nat.le_of_ble_eq_true rfl) (Nat.le_of_ble_eq_true rfl) rfl, HO⟩
    · -- 57 off
      rintro L a wc ⟨hv, HO⟩ hL hc hd
      exact wpOp_off rfl (wanted_undef rfl rfl (hv.get 50 rfl rfl (hd 50 (by decide)))) ⟨hv.put hop_2_apart 57 rfl (Nat.le_of_ble_eq_true rfl) (Nat.le_of_ble_eq_true rfl) rfl, HO⟩
    · -- 58 off
      rintro L a wc ⟨hv, HO⟩ hL hc hd
      exact wpOp_off rfl (wanted_undef rfl rfl (hv.get 50 rfl rfl (hd 50 (by decide)))) ⟨hv.put hop_2_apart 58 rfl (Nat.le_of_ble_eq_true rfl) (Nat.le_of_ble_eq_true rfl) rfl, HO⟩
    · -- 59 off
      rintro L a wc ⟨hv, HO⟩ hL hc hd
      exact wpOp_off rfl (wanted_undef rfl rfl (hv.get 50 rfl rfl (hd 50 (by decide)))) ⟨hv.put hop_2_apart 59 rfl (Nat.le_of_ble_eq_true rfl) (Nat.le_of_ble_eq_true rfl) rfl, HO⟩
    · -- 60 off
      rintro L a wc ⟨hv, HO⟩ hL hc hd
      exact wpOp_off rfl ((wanted_at rfl rfl (hv.get 47 rfl rfl (hd 47 (by decide)))).trans rfl) ⟨hv.put hop_2_apart 60 rfl (Nat.le_of_ble_eq_true rfl) (Nat.le_of_ble_eq_true rfl) rfl, HO⟩
    · -- 61 pick
      rintro L a wc ⟨hv, HO⟩ hL hc hd
      exact wpOp_val rfl rfl (ex_pick rfl (hv.get 47 rfl rfl (hd 47 (by decide))) rfl) ⟨hv.put hop_2_apart 61 rfl (Nat.le_of_ble_eq_true rfl) (Nat.le_of_ble_eq_true rfl) rfl, HO⟩
  · rintro L a wc ⟨hv, HO⟩ hall
    show K a wc
    have ha := act_lit a
    rw [hv.size, hv.defers] at ha
    have hl : ∀ f : Nat → Value, ((List.range (⟨#[c0, c1, c2, c3, c4, .int .i64 (n : Nat), c6, c7, .pointer (some ⟨X, 0, none⟩), c9, c10, c11, c12, c13, c14, c15, c16, c17, c18, c19, c20, c21, c22, c23, c24, c25, c26, c27, c28, c29, c30, c31, c32, c33, c34, c35, c36, c37, c38, c39, c40, c41, c42, c43, c44, c45, c46, c47, c48, c49, c50, c51, c52, c53, c54, c55, c56, c57, c58, c59, c60, c61, c62, c63, c64, c65, c66, c67, c68, c69, c70, c71, c72, c73, c74, c75, c76, c77, c78, c79, c80, c81, c82, c83, c84, c85, c86, c87, c88, c89, c90, c91, c92, c93, c94, c95, c96, c97, c98, c99, c100, c101, c102, c103, c104, c105, c106, c107, c108, c109, c110, c111, c112, c113, c114, c115, c116, c117, c118, c119, c120, c121, c122, c123, c124, c125, c126, c127, c128, c129, c130, c131, c132, c133, c134, c135, c136, c137, c138, c139, c140], df⟩ : Act).tmps.size).map f).toArray = #[f 0, f 1, f 2, f 3, f 4, f 5, f 6, f 7, f 8, f 9, f 10, f 11, f 12, f 13, f 14, f 15, f 16, f 17, f 18, f 19, f 20, f 21, f 22, f 23, f 24, f 25, f 26, f 27, f 28, f 29, f 30, f 31, f 32, f 33, f 34, f 35, f 36, f 37, f 38, f 39, f 40, f 41, f 42, f 43, f 44, f 45, f 46, f 47, f 48, f 49, f 50, f 51, f 52, f 53, f 54, f 55, f 56, f 57, f 58, f 59, f 60, f 61, f 62, f 63, f 64, f 65, f 66, f 67, f 68, f 69, f 70, f 71, f 72, f 73, f 74, f 75, f 76, f 77, f 78, f 79, f 80, f 81, f 82, f 83, f 84, f 85, f 86, f 87, f 88, f 89, f 90, f 91, f 92, f 93, f 94, f 95, f 96, f 97, f 98, f 99, f 100, f 101, f 102, f 103, f 104, f 105, f 106, f 107, f 108, f 109, f 110, f 111, f 112, f 113, f 114, f 115, f 116, f 117, f 118, f 119, f 120, f 121, f 122, f 123, f 124, f 125, f 126, f 127, f 128, f 129, f 130, f 131, f 132, f 133, f 134, f 135, f 136, f 137, f 138, f 139, f 140] := fun _ => rfl
    rw [hl] at ha
    simp only [hv.fixed 0 (by decide), hv.fixed 1 (by decide), hv.fixed 2 (by decide), hv.fixed 3 (by decide), hv.fixed 4 (by decide), hv.fixed 5 (by decide), hv.fixed 6 (by decide), hv.fixed 7 (by decide), hv.fixed 8 (by decide), hv.fixed 9 (by decide), hv.fixed 10 (by decide), hv.fixed 11 (by decide), hv.fixed 12 (by decide), hv.fixed 13 (by decide), hv.fixed 14 (by decide), hv.fixed 15 (by decide), hv.fixed 16 (by decide), hv.fixed 17 (by decide), hv.fixed 18 (by decide), hv.fixed 19 (by decide), hv.fixed 20 (by decide), hv.fixed 21 (by decide), hv.fixed 22 (by decide), hv.fixed 23 (by decide), hv.fixed 24 (by decide), hv.fixed 25 (by decide), hv.fixed 26 (by decide), hv.fixed 27 (by decide), hv.fixed 28 (by decide), hv.fixed 29 (by decide), hv.fixed 30 (by decide), hv.fixed 31 (by decide), hv.fixed 94 (by decide), hv.fixed 95 (by decide), hv.fixed 96 (by decide), hv.fixed 97 (by decide), hv.fixed 98 (by decide), hv.fixed 99 (by decide), hv.fixed 100 (by decide), hv.fixed 101 (by decide), hv.fixed 102 (by decide), hv.fixed 103 (by decide), hv.fixed 104 (by decide), hv.fixed 105 (by decide), hv.fixed 106 (by decide), hv.fixed 107 (by decide), hv.fixed 108 (by decide), hv.fixed 109 (by decide), hv.fixed 110 (by decide), hv.fixed 111 (by decide), hv.fixed 112 (by decide), hv.fixed 113 (by decide), hv.fixed 114 (by decide), hv.fixed 115 (by decide), hv.fixed 116 (by decide), hv.fixed 117 (by decide), hv.fixed 118 (by decide), hv.fixed 119 (by decide), hv.fixed 120 (by decide), hv.fixed 121 (by decide), hv.fixed 122 (by decide), hv.fixed 123 (by decide), hv.fixed 124 (by decide), hv.fixed 125 (by decide), hv.fixed 126 (by decide), hv.fixed 127 (by decide), hv.fixed 128 (by decide), hv.fixed 129 (by decide), hv.fixed 130 (by decide), hv.fixed 131 (by decide), hv.fixed 132 (by decide), hv.fixed 133 (by decide), hv.fixed 134 (by decide), hv.fixed 135 (by decide), hv.fixed 136 (by decide), hv.fixed 137 (by decide), hv.fixed 138 (by decide), hv.fixed 139 (by decide), hv.fixed 140 (by decide), hv.get 61 (d := 93) rfl rfl (hall 61 (by decide))] at ha
    rw [ha]
    exact hK _ _ _ _ _ _ _ _ _ _ _ _ _ _ _ _ _ _ _ _ _ _ _ _ _ _ _ _ _ _ _ _ _ _ _ _ _ _ _ _ _ _ _ _ _ _ _ _ _ _ _ _ _ _ _ _ _ _ _ _ _ wc HO.out
noncomputable def hop_3_code : Code := ((Tryd.f14.body.bind (regionOf 8)).getD .skip)
def hop_3_dsts : List (Option Nat) := [some 32, some 33, some 34, some 35, some 36, some 37, some 38, some 39, some 40, some 41, some 42, some 43, some 44, some 45, some 46, some 47, some 48, some 49, some 50, some 51, some 52, some 53, some 54, some 55, some 56, some 57, some 58, some 59, some 60, some 61, some 62, some 63, some 64, some 65, some 66, some 67, some 68, some 69, some 70, some 71, some 72, some 73, some 74, some 75, some 76, some 77, some 78, some 79, some 80, some 81, some 82, some 83, some 84, some 85, some 86, some 87, some 88, some 89, some 90, some 91, some 92, some 93]
theorem hop_3_apart : apartD hop_3_dsts = true := by decide +kernel
set_option maxRecDepth 1000000 in
set_option maxHeartbeats 16000000 in
theorem hop_3 (wr : World) (ff tt : Int) (X n : Nat) (x0 : wr.cell? ⟨X, 0, none⟩ = some (.int .i64 ff)) (x1 : wr.cell? ⟨X, 1, none⟩ = some (.int .i64 tt)) (q0 : ¬ ff < 0) (q1 : ¬ (n : Int) ≤ ff) (q2 : ¬ tt < 0) (q3 : (n : Int) ≤ tt) (c0 c1 c2 c3 c4 c6 c7 c9 c10 c11 c12 c13 c14 c15 c16 c17 c18 c19 c20 c21 c22 c23 c24 c25 c26 c27 c28 c29 c30 c31 c32 c33 c34 c35 c36 c37 c38 c39 c40 c41 c42 c43 c44 c45 c46 c47 c48 c49 c50 c51 c52 c53 c54 c55 c56 c57 c58 c59 c60 c61 c62 c63 c64 c65 c66 c67 c68 c69 c70 c71 c72 c73 c74 c75 c76 c77 c78 c79 c80 c81 c82 c83 c84 c85 c86 c87 c88 c89 c90 c91 c92 c93 c94 c95 c96 c97 c98 c99 c100 c101 c102 c103 c104 c105 c106 c107 c108 c109 c110 c111 c112 c113 c114 c115 c116 c117 c118 c119 c120 c121 c122 c123 c124 c125 c126 c127 c128 c129 c130 c131 c132 c133 c134 c135 c136 c137 c138 c139 c140 : Value) (df : List Deferred) (K : Act → World → Prop)
    (hK : ∀  (u32 u33 u34 u35 u36 u37 u38 u39 u40 u41 u42 u43 u44 u45 u46 u47 u48 u49 u50 u51 u52 u53 u54 u55 u56 u57 u58 u59 u60 u61 u62 u63 u64 u65 u66 u67 u68 u69 u70 u71 u72 u73 u74 u75 u76 u77 u78 u79 u80 u81 u82 u83 u84 u85 u86 u87 u88 u89 u90 u91 u92 : Value) (wx : World), Ext wr wx → K ⟨#[c0, c1, c2, c3, c4, .int .i64 (n : Nat), c6, c7, .pointer (some ⟨X, 0, none⟩), c9, c10, c11, c12, c13, c14, c15, c16, c17, c18, c19, c20, c21, c22, c23, c24, c25, c26, c27, c28, c29, c30, c31, u32, u33, u34, u35, u36, u37, u38, u39, u40, u41, u42, u43, u44, u45, u46, u47, u48, u49, u50, u51, u52, u53, u54, u55, u56, u57, u58, u59, u60, u61, u62, u63, u64, u65, u66, u67, u68, u69, u70, u71, u72, u73, u74, u75, u76, u77, u78, u79, u80, u81, u82, u83, u84, u85, u86, u87, u88, u89, u90, u91, u92, .bool true, c94, c95, c96, c97, c98, c99, c100, c101, c102, c103, c104, c105, c106, c107, c108, c109, c110, c111, c112, c113, c114, c115, c116, c117, c118, c119, c120, c121, c122, c123, c124, c125, c126, c127, c128, c129, c130, c131, c132, c133, c134, c135, c136, c137, c138, c139, c140], df⟩ wx) :
    Code.wp Tryd.prog hop_3_code (AtEnd K) ⟨#[c0, c1, c2, c3, c4, .int .i64 (n : Nat), c6, c7, .pointer (some ⟨X, 0, none⟩), c9, c10, c11, c12, c13, c14, c15, c16, c17, c18, c19, c20, c21, c22, c23, c24, c25, c26, c27, c28, c29, c30, c31, c32, c33, c34, c35, c36, c37, c38, c39, c40, c41, c42, c43, c44, c45, c46, c47, c48, c49, c50, c51, c52, c53, c54, c55, c56, c57, c58, c59, c60, c61, c62, c63, c64, c65, c66, c67, c68, c69, c70, c71, c72, c73, c74, c75, c76, c77, c78, c79, c80, c81, c82, c83, c84, c85, c86, c87, c88, c89, c90, c91, c92, c93, c94, c95, c96, c97, c98, c99, c100, c101, c102, c103, c104, c105, c106, c107, c108, c109, c110, c111, c112, c113, c114, c115, c116, c117, c118, c119, c120, c121, c122, c123, c124, c125, c126, c127, c128, c129, c130, c131, c132, c133, c134, c135, c136, c137, c138, c139, c140], df⟩ wr := by
  conv => arg 2; whnf
  refine region_inv (by kernel_rfl) [[], [0], [1], [2], [3], [4, 3], [3], [5, 6, 3], [3, 7], [8, 3], [9], [10, 9], [11, 9], [9, 12], [13, 9], [14], [15, 14], [14], [16, 17, 14], [14, 18], [19, 14], [20], [21, 20], [20], [23, 20], [22, 24, 20], [20, 25], [26, 20], [27], [28, 27], [27], [30, 27], [29, 31, 27], [27, 32], [33, 27], [34], [35, 34], [34], [37, 34], [36, 38, 34], [39, 34], [34], [41, 34], [40, 42, 34], [43, 34], [44, 34], [34, 45], [46, 34], [47], [48, 47], [49, 47, 47], [50], [50], [52, 50], [51, 53, 50], [54, 50], [55, 50], [50], [57, 50], [56, 58, 50], [50, 59, 47], [47, 60]] (by kernel_rfl) [0, 1, 2, 3, 4, 5, 6, 7, 8, 9, 10, 11, 12, 13, 14, 15, 16, 17, 18, 19, 20, 21, 22, 23, 24, 25, 26, 27, 28, 29, 30, 31, 32, 33, 34, 35, 36, 37, 38, 39, 40, 41, 42, 43, 44, 45, 46, 47, 48, 49, 50, 51, 52, 53, 54, 55, 56, 57, 58, 59, 60, 61] (by decide +kernel) (by decide +kernel) (by decide +kernel) (fun L a wc => Inv hop_3_dsts [.pointer (some ⟨X, 0, none⟩), .int .i64 ff, .bool false, .bool false, .pointer (some ⟨X, 0, none⟩), .int .i64 ff, .int .i64 (n : Nat), .bool false, .bool false, .bool false, .pointer (some ⟨X, 1, none⟩), .int .i64 tt, .bool false, .bool false, .bool false, .pointer (some ⟨X, 1, none⟩), .int .i64 tt, .int .i64 (n : Nat), .bool true, .bool true, .bool true, undef, undef, undef, undef, undef, .bool true, .bool true, undef, undef, undef, undef, undef, .bool true, .bool true, undef, undef, undef, undef, undef, undef, undef, undef, undef, undef, undef, .bool true, .bool true, undef, undef, undef, undef, undef, undef, undef, undef, undef, undef, undef, undef, undef, .bool true] ⟨#[c0, c1, c2, c3, c4, .int .i64 (n : Nat), c6, c7, .pointer (some ⟨X, 0, none⟩), c9, c10, c11, c12, c13, c14, c15, c16, c17, c18, c19, c20, c21, c22, c23, c24, c25, c26, c27, c28, c29, c30, c31, c32, c33, c34, c35, c36, c37, c38, c39, c40, c41, c42, c43, c44, c45, c46, c47, c48, c49, c50, c51, c52, c53, c54, c55, c56, c57, c58, c59, c60, c61, c62, c63, c64, c65, c66, c67, c68, c69, c70, c71, c72, c73, c74, c75, c76, c77, c78, c79, c80, c81, c82, c83, c84, c85, c86, c87, c88, c89, c90, c91, c92, c93, c94, c95, c96, c97, c98, c99, c100, c101, c102, c103, c104, c105, c106, c107, c108, c109, c110, c111, c112, c113, c114, c115, c116, c117, c118, c119, c120, c121, c122, c123, c124, c125, c126, c127, c128, c129, c130, c131, c132, c133, c134, c135, c136, c137, c138, c139, c140], df⟩ L a ∧ Hid (Ext wr wc)) ⟨Inv.start, Lib.hid ((Ext.refl wr).drew)⟩ ?_ ?_
  · refine ⟨?_, ?_, ?_, ?_, ?_, ?_, ?_, ?_, ?_, ?_, ?_, ?_, ?_, ?_, ?_, ?_, ?_, ?_, ?_, ?_, ?_, ?_, ?_, ?_, ?_, ?_, ?_, ?_, ?_, ?_, ?_, ?_, ?_, ?_, ?_, ?_, ?_, ?_, ?_, ?_, ?_, ?_, ?_, ?_, ?_, ?_, ?_, ?_, ?_, ?_, ?_, ?_, ?_, ?_, ?_, ?_, ?_, ?_, ?_, ?_, ?_, ?_, trivial⟩
    · -- 0 field
      rintro L a wc ⟨hv, HO⟩ hL hc hd
      exact wpOp_val rfl rfl (ex_field rfl ((hv.fixed 8 (by decide)).trans rfl) (by go_simp)) ⟨hv.put hop_3_apart 0 rfl (Nat.le_of_ble_eq_true rfl) (Nat.le_of_ble_eq_true rfl) rfl, HO⟩
    · -- 1 load
      rintro L a wc ⟨hv, HO⟩ hL hc hd
      have x0' : wc.cell? ⟨X, 0, none⟩ = some (.int .i64 ff) := HO.out.cell x0
      exact wpOp_val rfl rfl (ex_load rfl (hv.get 0 rfl rfl (hd 0 (by decide))) (by go_simp)) ⟨hv.put hop_3_apart 1 rfl (Nat.le_of_ble_eq_true rfl) (Nat.le_of_ble_eq_true rfl) rfl, HO⟩
    · -- 2 bin
      rintro L a wc ⟨hv, HO⟩ hL hc hd
      exact wpOp_val rfl rfl (ex_bin rfl (hv.get 1 rfl rfl (hd 1 (by decide))) rfl (by go_simp)) ⟨hv.put hop_3_apart 2 rfl (Nat.le_of_ble_eq_true rfl) (Nat.le_of_ble_eq_true rfl) rfl, HO⟩
    · -- 3 move
      rintro L a wc ⟨hv, HO⟩ hL hc hd
      exact wpOp_val rfl rfl (ex_move rfl (hv.get 2 rfl rfl (hd 2 (by decide)))) ⟨hv.put hop_3_apart 3 rfl (Nat.le_of_ble_eq_true rfl) (Nat.le_of_ble_eq_true rfl) rfl, HO⟩
    · -- 4 field
      rintro L a wc ⟨hv, HO⟩ hL hc hd
      exact wpOp_val rfl ((wanted_at rfl rfl (hv.get 3 rfl rfl (hd 3 (by decide)))).trans rfl) (ex_field rfl ((hv.fixed 8 (by decide)).trans rfl) (by go_simp)) ⟨hv.put hop_3_apart 4 rfl (Nat.le_of_ble_eq_true rfl) (Nat.le_of_ble_eq_true rfl) rfl, HO⟩
    · -- 5 load
      rintro L a wc ⟨hv, HO⟩ hL hc hd
      have x0' : wc.cell? ⟨X, 0, none⟩ = some (.int .i64 ff) := HO.out.cell x0
      exact wpOp_val rfl ((wanted_at rfl rfl (hv.get 3 rfl rfl (hd 3 (by decide)))).trans rfl) (ex_load rfl (hv.get 4 rfl rfl (hd 4 (by decide))) (by go_simp)) ⟨hv.put hop_3_apart 5 rfl (Nat.le_of_ble_eq_true rfl) (Nat.le_of_ble_eq_true rfl) rfl, HO⟩
    · -- 6 move
      rintro L a wc ⟨hv, HO⟩ hL hc hd
      exact wpOp_val rfl ((wanted_at rfl rfl (hv.get 3 rfl rfl (hd 3 (by decide)))).trans rfl) (ex_move rfl ((hv.fixed 5 (by decide)).trans rfl)) ⟨hv.put hop_3_apart 6 rfl (Nat.le_of_ble_eq_true rfl) (Nat.le_of_ble_eq_true rfl) rfl, HO⟩
    · -- 7 bin
      rintro L a wc ⟨hv, HO⟩ hL hc hd
      exact wpOp_val rfl ((wanted_at rfl rfl (hv.get 3 rfl rfl (hd 3 (by decide)))).trans rfl) (ex_bin rfl (hv.get 5 rfl rfl (hd 5 (by decide))) (hv.get 6 rfl rfl (hd 6 (by decide))) (by go_simp)) ⟨hv.put hop_3_apart 7 rfl (Nat.le_of_ble_eq_true rfl) (Nat.le_of_ble_eq_true rfl) rfl, HO⟩
    · -- 8 pick
      rintro L a wc ⟨hv, HO⟩ hL hc hd
      exact wpOp_val rfl rfl (ex_pick rfl (hv.get 3 rfl rfl (hd 3 (by decide))) ((if_neg (by simp)).trans (hv.get 7 rfl rfl (hd 7 (by decide))))) ⟨hv.put hop_3_apart 8 rfl (Nat.le_of_ble_eq_true rfl) (Nat.le_of_ble_eq_true rfl) rfl, HO⟩
    · -- 9 move
      rintro L a wc ⟨hv, HO⟩ hL hc hd
      exact wpOp_val rfl rfl (ex_move rfl (hv.get 8 rfl rfl (hd 8 (by decide)))) ⟨hv.put hop_3_apart 9 rfl (Nat.le_of_ble_eq_true rfl) (Nat.le_of_ble_eq_true rfl) rfl, HO⟩
    · -- 10 field
      rintro L a wc ⟨hv, HO⟩ hL hc hd
      exact wpOp_val rfl ((wanted_at rfl rfl (hv.get 9 rfl rfl (hd 9 (by decide)))).trans rfl) (ex_field rfl ((hv.fixed 8 (by decide)).trans rfl) (by go_simp)) ⟨hv.put hop_3_apart 10 rfl (Nat.le_of_ble_eq_true rfl) (Nat.le_of_ble_eq_true rfl) rfl, HO⟩
    · -- 11 load
      rintro L a wc ⟨hv, HO⟩ hL hc hd
      have x1' : wc.cell? ⟨X, 1, none⟩ = some (.int .i64 tt) := HO.out.cell x1
      exact wpOp_val rfl ((wanted_at rfl rfl (hv.get 9 rfl rfl (hd 9 (by decide)))).trans rfl) (ex_load rfl (hv.get 10 rfl rfl (hd 10 (by decide))) (by go_simp)) ⟨hv.put hop_3_apart 11 rfl (Nat.le_of_ble_eq_true rfl) (Nat.le_of_ble_eq_true rfl) rfl, HO⟩
    · -- 12 bin
      rintro L a wc ⟨hv, HO⟩ hL hc hd
      exact wpOp_val rfl ((wanted_at rfl rfl (hv.get 9 rfl rfl (hd 9 (by decide)))).trans rfl) (ex_bin rfl (hv.get 11 rfl rfl (hd 11 (by decide))) rfl (by go_simp)) ⟨hv.put hop_3_apart 12 rfl (Nat.le_of_ble_eq_true rfl) (Nat.le_of_ble_eq_true rfl) rfl, HO⟩
    · -- 13 pick
      rintro L a wc ⟨hv, HO⟩ hL hc hd
      exact wpOp_val rfl rfl (ex_pick rfl (hv.get 9 rfl rfl (hd 9 (by decide))) ((if_neg (by simp)).trans (hv.get 12 rfl rfl (hd 12 (by decide))))) ⟨hv.put hop_3_apart 13 rfl (Nat.le_of_ble_eq_true rfl) (Nat.le_of_ble_eq_true rfl) rfl, HO⟩
    · -- 14 move
      rintro L a wc ⟨hv, HO⟩ hL hc hd
      exact wpOp_val rfl rfl (ex_move rfl (hv.get 13 rfl rfl (hd 13 (by decide)))) ⟨hv.put hop_3_apart 14 rfl (Nat.le_of_ble_eq_true rfl) (Nat.le_of_ble_eq_true rfl) rfl, HO⟩
    · -- 15 field
      rintro L a wc ⟨hv, HO⟩ hL hc hd
      exact wpOp_val rfl ((wanted_at rfl rfl (hv.get 14 rfl rfl (hd 14 (by decide)))).trans rfl) (ex_field rfl ((hv.fixed 8 (by decide)).trans rfl) (by go_simp)) ⟨hv.put hop_3_apart 15 rfl (Nat.le_of_ble_eq_true rfl) (Nat.le_of_ble_eq_true rfl) rfl, HO⟩
    · -- 16 load
      rintro L a wc ⟨hv, HO⟩ hL hc hd
      have x1' : wc.cell? ⟨X, 1, none⟩ = some (.int .i64 tt) := HO.out.cell x1
      exact wpOp_val rfl ((wanted_at rfl rfl (hv.get 14 rfl rfl (hd 14 (by decide)))).trans rfl) (ex_load rfl (hv.get 15 rfl rfl (hd 15 (by decide))) (by go_simp)) ⟨hv.put hop_3_apart 16 rfl (Nat.le_of_ble_eq_true rfl) (Nat.le_of_ble_eq_true rfl) rfl, HO⟩
    · -- 17 move
      rintro L a wc ⟨hv, HO⟩ hL hc hd
      exact wpOp_val rfl ((wanted_at rfl rfl (hv.get 14 rfl rfl (hd 14 (by decide)))).trans rfl) (ex_move rfl ((hv.fixed 5 (by decide)).trans rfl)) ⟨hv.put hop_3_apart 17 rfl (Nat.le_of_ble_eq_true rfl) (Nat.le_of_ble_eq_true rfl) rfl, HO⟩
    · -- 18 bin
      rintro L a wc ⟨hv, HO⟩ hL hc hd
      exact wpOp_val rfl ((wanted_at rfl rfl (hv.get 14 rfl rfl (hd 14 (by decide)))).trans rfl) (ex_bin rfl (hv.get 16 rfl rfl (hd 16 (by decide))) (hv.get 17 rfl rfl (hd 17 (by decide))) (by go_simp)) ⟨hv.put hop_3_apart 18 rfl (Nat.le_of_ble_eq_true rfl) (Nat.le_of_ble_eq_true rfl) rfl, HO⟩
    · -- 19 pick
      rintro L a wc ⟨hv, HO⟩ hL hc hd
      exact wpOp_val rfl rfl (ex_pick rfl (hv.get 14 rfl rfl (hd 14 (by decide))) ((if_neg (by simp)).trans (hv.get 18 rfl rfl (hd 18 (by decide))))) ⟨hv.put hop_3_apart 19 rfl (Nat.le_of_ble_eq_true rfl) (Nat.le_of_ble_eq_true rfl) rfl, HO⟩
    · -- 20 move
      rintro L a wc ⟨hv, HO⟩ hL hc hd
      exact wpOp_val rfl rfl (ex_move rfl (hv.get 19 rfl rfl (hd 19 (by decide)))) ⟨hv.put hop_3_apart 20 rfl (Nat.le_of_ble_eq_true rfl) (Nat.le_of_ble_eq_true rfl) rfl, HO⟩
    · -- 21 off
      rintro L a wc ⟨hv, HO⟩ hL hc hd
      exact wpOp_off rfl ((wanted_at rfl rfl (hv.get 20 rfl rfl (hd 20 (by decide)))).trans rfl) ⟨hv.put hop_3_apart 21 rfl (Nat.le_of_ble_eq_true rfl) (Nat.le_of_ble_eq_true rfl) rfl, HO⟩
    · -- 22 off
      rintro L a wc ⟨hv, HO⟩ hL hc hd
      exact wpOp_off rfl ((wanted_at rfl rfl (hv.get 20 rfl rfl (hd 20 (by decide)))).trans rfl) ⟨hv.put hop_3_apart 22 rfl (Nat.le_of_ble_eq_true rfl) (Nat.le_of_ble_eq_true rfl) rfl, HO⟩
    · -- 23 off
      rintro L a wc ⟨hv, HO⟩ hL hc hd
      exact wpOp_off rfl ((wanted_at rfl rfl (hv.get 20 rfl rfl (hd 20 (by decide)))).trans rfl) ⟨hv.put hop_3_apart 23 rfl (Nat.le_of_ble_eq_true rfl) (Nat.le_of_ble_eq_true rfl) rfl, HO⟩
    · -- 24 off
      rintro L a wc ⟨hv, HO⟩ hL hc hd
      exact wpOp_off rfl ((wanted_at rfl rfl (hv.get 20 rfl rfl (hd 20 (by decide)))).trans rfl) ⟨hv.put hop_3_apart 24 rfl (Nat.le_of_ble_eq_true rfl) (Nat.le_of_ble_eq_true rfl) rfl, HO⟩
    · -- 25 off
      rintro L a wc ⟨hv, HO⟩ hL hc hd
      exact wpOp_off rfl ((wanted_at rfl rfl (hv.get 20 rfl rfl (hd 20 (by decide)))).trans rfl) ⟨hv.put hop_3_apart 25 rfl (Nat.le_of_ble_eq_true rfl) (Nat.le_of_ble_eq_true rfl) rfl, HO⟩
    · -- 26 pick
      rintro L a wc ⟨hv, HO⟩ hL hc hd
      exact wpOp_val rfl rfl (ex_pick rfl (hv.get 20 rfl rfl (hd 20 (by decide))) rfl) ⟨hv.put hop_3_apart 26 rfl (Nat.le_of_ble_eq_true rfl) (Nat.le_of_ble_eq_true rfl) rfl, HO⟩
    · -- 27 move
      rintro L a wc ⟨hv, HO⟩ hL hc hd
      exact wpOp_val rfl rfl (ex_move rfl (hv.get 26 rfl rfl (hd 26 (by decide)))) ⟨hv.put hop_3_apart 27 rfl (Nat.le_of_ble_eq_true rfl) (Nat.le_of_ble_eq_true rfl) rfl, HO⟩
    · -- 28 off
      rintro L a wc ⟨hv, HO⟩ hL hc hd
      exact wpOp_off rfl ((wanted_at rfl rfl (hv.get 27 rfl rfl (hd 27 (by decide)))).trans rfl) ⟨hv.put hop_3_apart 28 rfl (Nat.le_of_ble_eq_true rfl) (Nat.le_of_ble_eq_true rfl) rfl, HO⟩
    · -- 29 off
      rintro L a wc ⟨hv, HO⟩ hL hc hd
      exact wpOp_off rfl ((wanted_at rfl rfl (hv.get 27 rfl rfl (hd 27 (by decide)))).trans rfl) ⟨hv.put hop_3_apart 29 rfl (Nat.le_of_ble_eq_true rfl) (Nat.le_of_ble_eq_true rfl) rfl, HO⟩
    · -- 30 off
      rintro L a wc ⟨hv, HO⟩ hL hc hd
      exact wpOp_off rfl ((wanted_at rfl rfl (hv.get 27 rfl rfl (hd 27 (by decide)))).trans rfl) ⟨hv.put hop_3_apart 30 rfl (Nat.le_of_ble_eq_true rfl) (Nat.le_of_ble_eq_true rfl) rfl, HO⟩
    · -- 31 off
      rintro L a wc ⟨hv, HO⟩ hL hc hd
      exact wpOp_off rfl ((wanted_at rfl rfl (hv.get 27 rfl rfl (hd 27 (by decide)))).trans rfl) ⟨hv.put hop_3_apart 31 rfl (Nat.le_of_ble_eq_true rfl) (Nat.le_of_ble_eq_true rfl) rfl, HO⟩
    · -- 32 off
      rintro L a wc ⟨hv, HO⟩ hL hc hd
      exact wpOp_off rfl ((wanted_at rfl rfl (hv.get 27 rfl rfl (hd 27 (by decide)))).trans rfl) ⟨hv.put hop_3_apart 32 rfl (Nat.le_of_ble_eq_true rfl) (Nat.le_of_ble_eq_true rfl) rfl, HO⟩
    · -- 33 pick
      rintro L a wc ⟨hv, HO⟩ hL hc hd
      exact wpOp_val rfl rfl (ex_pick rfl (hv.get 27 rfl rfl (hd 27 (by decide))) rfl) ⟨hv.put hop_3_apart 33 rfl (Nat.le_of_ble_eq_true rfl) (Nat.le_of_ble_eq_true rfl) rfl, HO⟩
    · -- 34 move
      rintro L a wc ⟨hv, HO⟩ hL hc hd
      exact wpOp_val rfl rfl (ex_move rfl (hv.get 33 rfl rfl (hd 33 (by decide)))) ⟨hv.put hop_3_apart 34 rfl (Nat.le_of_ble_eq_true rfl) (Nat.le_of_ble_eq_true rfl) rfl, HO⟩
    · -- 35 off
      rintro L a wc ⟨hv, HO⟩ hL hc hd
      exact wpOp_off rfl ((wanted_at rfl rfl (hv.get 34 rfl rfl (hd 34 (by decide)))).trans rfl) ⟨hv.put hop_3_apart 35 rfl (Nat.le_of_ble_eq_true rfl) (Nat.le_of_ble_eq_true rfl) rfl, HO⟩
    · -- 36 off
      rintro L a wc ⟨hv, HO⟩ hL hc hd
      exact wpOp_off rfl ((wanted_at rfl rfl (hv.get 34 rfl rfl (hd 34 (by decide)))).trans rfl) ⟨hv.put hop_3_apart 36 rfl (Nat.le_of_ble_eq_true rfl) (Nat.le_of_ble_eq_true rfl) rfl, HO⟩
    · -- 37 off
      rintro L a wc ⟨hv, HO⟩ hL hc hd
      exact wpOp_off rfl ((wanted_at rfl rfl (hv.get 34 rfl rfl (hd 34 (by decide)))).trans rfl) ⟨hv.put hop_3_apart 37 rfl (Nat.le_of_ble_eq_true rfl) (Nat.le_of_ble_eq_true rfl) rfl, HO⟩
    · -- 38 off
      rintro L a wc ⟨hv, HO⟩ hL hc hd
      exact wpOp_off rfl ((wanted_at rfl rfl (hv.get 34 rfl rfl (hd 34 (by decide)))).trans rfl) ⟨hv.put hop_3_apart 38 rfl (Nat.le_of_ble_eq_true rfl) (Nat.le_of_ble_eq_true rfl) rfl, HO⟩
    · -- 39 off
      rintro L a wc ⟨hv, HO⟩ hL hc hd
      exact wpOp_off rfl ((wanted_at rfl rfl (hv.get 34 rfl rfl (hd 34 (by decide)))).trans rfl) ⟨hv.put hop_3_apart 39 rfl (Nat.le_of_ble_eq_true rfl) (Nat.le_of_ble_eq_true rfl) rfl, HO⟩
    · -- 40 off
      rintro L a wc ⟨hv, HO⟩ hL hc hd
      exact wpOp_off rfl ((wanted_at rfl rfl (hv.get 34 rfl rfl (hd 34 (by decide)))).trans rfl) ⟨hv.put hop_3_apart 40 rfl (Nat.le_of_ble_eq_true rfl) (Nat.le_of_ble_eq_true rfl) rfl, HO⟩
    · -- 41 off
      rintro L a wc ⟨hv, HO⟩ hL hc hd
      exact wpOp_off rfl ((wanted_at rfl rfl (hv.get 34 rfl rfl (hd 34 (by decide)))).trans rfl) ⟨hv.put hop_3_apart 41 rfl (Nat.le_of_ble_eq_true rfl) (Nat.le_of_ble_eq_true rfl) rfl, HO⟩
    · -- 42 off
      rintro L a wc ⟨hv, HO⟩ hL hc hd
      exact wpOp_off rfl ((wanted_at rfl rfl (hv.get 34 rfl rfl (hd 34 (by decide)))).trans rfl) ⟨hv.put hop_3_apart 42 rfl (Nat.le_of_ble_eq_true rfl) (Nat.le_of_ble_eq_true rfl) rfl, HO⟩
    · -- 43 off
      rintro L a wc ⟨hv, HO⟩ hL hc hd
      exact wpOp_off rfl ((wanted_at rfl rfl (hv.get 34 rfl rfl (hd 34 (by decide)))).trans rfl) ⟨hv.put hop_3_apart 43 rfl (Nat.le_of_ble_eq_true rfl) (Nat.le_of_ble_eq_true rfl) rfl, HO⟩
    · -- 44 off
      rintro L a wc ⟨hv, HO⟩ hL hc hd
      exact wpOp_off rfl ((wanted_at rfl rfl (hv.get 34 rfl rfl (hd 34 (by decide)))).trans rfl) ⟨hv.put hop_3_apart 44 rfl (Nat.le_of_ble_eq_true rfl) (Nat.le_of_ble_eq_true rfl) rfl, HO⟩
    · -- 45 off
      rintro L a wc ⟨hv, HO⟩ hL hc hd
      exact wpOp_off rfl ((wanted_at rfl rfl (hv.get 34 rfl rfl (hd 34 (by decide)))).trans rfl) ⟨hv.put hop_3_apart 45 rfl (Nat.le_of_ble_eq_true rfl) (Nat.le_of_ble_eq_true rfl) rfl, HO⟩
    · -- 46 pick
      rintro L a wc ⟨hv, HO⟩ hL hc hd
      exact wpOp_val rfl rfl (ex_pick rfl (hv.get 34 rfl rfl (hd 34 (by decide))) rfl) ⟨hv.put hop_3_apart 46 rfl (Nat.le_of_ble_eq_true rfl) (Nat.le_of_ble_eq_true rfl) rfl, HO⟩
    · -- 47 move
      rintro L a wc ⟨hv, HO⟩ hL hc hd
      exact wpOp_val rfl rfl (ex_move rfl (hv.get 46 rfl rfl (hd 46 (by decide)))) ⟨hv.put hop_3_apart 47 rfl (Nat.le_of_ble_eq_true rfl) (Nat.le_of_ble_eq_true rfl) rfl, HO⟩
    · -- 48 off
      rintro L a wc ⟨hv, HO⟩ hL hc hd
      exact wpOp_off rfl ((wanted_at rfl rfl (hv.get 47 rfl rfl (hd 47 (by decide)))).trans rfl) ⟨hv.put hop_3_apart 48 rfl (Nat.le_of_ble_eq_true rfl) (Nat.le_of_ble_eq_true rfl) rfl, HO⟩
    · -- 49 off
      rintro L a wc ⟨hv, HO⟩ hL hc hd
      exact wpOp_off rfl ((wanted_at rfl rfl (hv.get 47 rfl rfl (hd 47 (by decide)))).trans rfl) ⟨hv.put hop_3_apart 49 rfl (Nat.le_of_ble_eq_true rfl) (Nat.le_of_ble_eq_true rfl) rfl, HO⟩
    · -- 50 off
      rintro L a wc ⟨hv, HO⟩ hL hc hd
      exact wpOp_off rfl ((wanted_at rfl rfl (hv.get 47 rfl rfl (hd 47 (by decide)))).trans rfl) ⟨hv.put hop_3_apart 50 rfl (Nat.le_of_ble_eq_true rfl) (Nat.le_of_ble_eq_true rfl) rfl, HO⟩
    · -- 51 off
      rintro L a wc ⟨hv, HO⟩ hL hc hd
      exact wpOp_off rfl (wanted_undef rfl rfl (hv.get 50 rfl rfl (hd 50 (by decide)))) ⟨hv.put hop_3_apart 51 rfl (Nat.le_of_ble_eq_true rfl) (Nat.le_of_ble_eq_true rfl) rfl, HO⟩
    · -- 52 off
      rintro L a wc ⟨hv, HO⟩ hL hc hd
      exact wpOp_off rfl (wanted_undef rfl rfl (hv.get 50 rfl rfl (hd 50 (by decide)))) ⟨hv.put hop_3_apart 52 rfl (Nat.le_of_ble_eq_true rfl) (Nat.le_of_ble_eq_true rfl) rfl, HO⟩
    · -- 53 off
      rintro L a wc ⟨hv, HO⟩ hL hc hd
      exact wpOp_off rfl (wanted_undef rfl rfl (hv.get 50 rfl rfl (hd 50 (by decide)))) ⟨hv.put hop_3_apart 53 rfl (Nat.le_of_ble_eq_true rfl) (Nat.le_of_ble_eq_true rfl) rfl, HO⟩
    · -- 54 off
      rintro L a wc ⟨hv, HO⟩ hL hc hd
      exact wpOp_off rfl (wanted_undef rfl rfl (hv.get 50 rfl rfl (hd 50 (by decide)))) ⟨hv.put hop_3_apart 54 rfl (Nat.le_of_ble_eq_true rfl) (Nat.le_of_ble_eq_true rfl) rfl, HO⟩
    · -- 55 off
      rintro L a wc ⟨hv, HO⟩ hL hc hd
      exact wpOp_off rfl (wanted_undef rfl rfl (hv.get 50 rfl rfl (hd 50 (by decide)))) ⟨hv.put hop_3_apart 55 rfl (Nat.le_of_ble_eq_true rfl) (Nat.le_of_ble_eq_true rfl) rfl, HO⟩
    · -- 56 off
      rintro L a wc ⟨hv, HO⟩ hL hc hd
      exact wpOp_off rfl (wanted_undef rfl rfl (hv.get 50 rfl rfl (hd 50 (by decide)))) ⟨hv.put hop_3_apart 56 rfl (Nat.le_of_ble_eq_true rfl) (Nat.le_of_ble_eq_true rfl) rfl, HO⟩
    · -- 57 off
      rintro L a wc ⟨hv, HO⟩ hL hc hd
      exact wpOp_off rfl (wanted_undef rfl rfl (hv.get 50 rfl rfl (hd 50 (by decide)))) ⟨hv.put hop_3_apart 57 rfl (Nat.le_of_ble_eq_true rfl) (Nat.le_of_ble_eq_true rfl) rfl, HO⟩
    · -- 58 off
      rintro L a wc ⟨hv, HO⟩ hL hc hd
      exact wpOp_off rfl (wanted_undef rfl rfl (hv.get 50 rfl rfl (hd 50 (by decide)))) ⟨hv.put hop_3_apart 58 rfl (Nat.le_of_ble_eq_true rfl) (Nat.le_of_ble_eq_true rfl) rfl, HO⟩
    · -- 59 off
      rintro L a wc ⟨hv, HO⟩ hL hc hd
      exact wpOp_off rfl (wanted_undef rfl rfl (hv.get 50 rfl rfl (hd 50 (by decide)))) ⟨hv.put hop_3_apart 59 rfl (Nat.le_of_ble_eq_true rfl) (Nat.le_of_ble_eq_true rfl) rfl, HO⟩
    · -- 60 off
      rintro L a wc ⟨hv, HO⟩ hL hc hd
      exact wpOp_off rfl ((wanted_at rfl rfl (hv.get 47 rfl rfl (hd 47 (by decide)))).trans rfl) ⟨hv.put hop_3_apart 60 rfl (Nat.le_of_ble_eq_true rfl) (Nat.le_of_ble_eq_true rfl) rfl, HO⟩
    · -- 61 pick
      rintro L a wc ⟨hv, HO⟩ hL hc hd
      exact wpOp_val rfl rfl (ex_pick rfl (hv.get 47 rfl rfl (hd 47 (by decide))) rfl) ⟨hv.put hop_3_apart 61 rfl (Nat.le_of_ble_eq_true rfl) (Nat.le_of_ble_eq_true rfl) rfl, HO⟩
  · rintro L a wc ⟨hv, HO⟩ hall
    show K a wc
    have ha := act_lit a
    rw [hv.size, hv.defers] at ha
    have hl : ∀ f : Nat → Value, ((List.range (⟨#[c0, c1, c2, c3, c4, .int .i64 (n : Nat), c6, c7, .pointer (some ⟨X, 0, none⟩), c9, c10, c11, c12, c13, c14, c15, c16, c17, c18, c19, c20, c21, c22, c23, c24, c25, c26, c27, c28, c29, c30, c31, c32, c33, c34, c35, c36, c37, c38, c39, c40, c41, c42, c43, c44, c45, c46, c47, c48, c49, c50, c51, c52, c53, c54, c55, c56, c57, c58, c59, c60, c61, c62, c63, c64, c65, c66, c67, c68, c69, c70, c71, c72, c73, c74, c75, c76, c77, c78, c79, c80, c81, c82, c83, c84, c85, c86, c87, c88, c89, c90, c91, c92, c93, c94, c95, c96, c97, c98, c99, c100, c101, c102, c103, c104, c105, c106, c107, c108, c109, c110, c111, c112, c113, c114, c115, c116, c117, c118, c119, c120, c121, c122, c123, c124, c125, c126, c127, c128, c129, c130, c131, c132, c133, c134, c135, c136, c137, c138, c139, c140], df⟩ : Act).tmps.size).map f).toArray = #[f 0, f 1, f 2, f 3, f 4, f 5, f 6, f 7, f 8, f 9, f 10, f 11, f 12, f 13, f 14, f 15, f 16, f 17, f 18, f 19, f 20, f 21, f 22, f 23, f 24, f 25, f 26, f 27, f 28, f 29, f 30, f 31, f 32, f 33, f 34, f 35, f 36, f 37, f 38, f 39, f 40, f 41, f 42, f 43, f 44, f 45, f 46, f 47, f 48, f 49, f 50, f 51, f 52, f 53, f 54, f 55, f 56, f 57, f 58, f 59, f 60, f 61, f 62, f 63, f 64, f 65, f 66, f 67, f 68, f 69, f 70, f 71, f 72, f 73, f 74, f 75, f 76, f 77, f 78, f 79, f 80, f 81, f 82, f 83, f 84, f 85, f 86, f 87, f 88, f 89, f 90, f 91, f 92, f 93, f 94, f 95, f 96, f 97, f 98, f 99, f 100, f 101, f 102, f 103, f 104, f 105, f 106, f 107, f 108, f 109, f 110, f 111, f 112, f 113, f 114, f 115, f 116, f 117, f 118, f 119, f 120, f 121, f 122, f 123, f 124, f 125, f 126, f 127, f 128, f 129, f 130, f 131, f 132, f 133, f 134, f 135, f 136, f 137, f 138, f 139, f 140] := fun _ => rfl
    rw [hl] at ha
    simp only [hv.fixed 0 (by decide), hv.fixed 1 (by decide), hv.fixed 2 (by decide), hv.fixed 3 (by decide), hv.fixed 4 (by decide), hv.fixed 5 (by decide), hv.fixed 6 (by decide), hv.fixed 7 (by decide), hv.fixed 8 (by decide), hv.fixed 9 (by decide), hv.fixed 10 (by decide), hv.fixed 11 (by decide), hv.fixed 12 (by decide), hv.fixed 13 (by decide), hv.fixed 14 (by decide), hv.fixed 15 (by decide), hv.fixed 16 (by decide), hv.fixed 17 (by decide), hv.fixed 18 (by decide), hv.fixed 19 (by decide), hv.fixed 20 (by decide), hv.fixed 21 (by decide), hv.fixed 22 (by decide), hv.fixed 23 (by decide), hv.fixed 24 (by decide), hv.fixed 25 (by decide), hv.fixed 26 (by decide), hv.fixed 27 (by decide), hv.fixed 28 (by decide), hv.fixed 29 (by decide), hv.fixed 30 (by decide), hv.fixed 31 (by decide), hv.fixed 94 (by decide), hv.fixed 95 (by decide), hv.fixed 96 (by decide), hv.fixed 97 (by decide), hv.fixed 98 (by decide), hv.fixed 99 (by decide), hv.fixed 100 (by decide), hv.fixed 101 (by decide), hv.fixed 102 (by decide), hv.fixed 103 (by decide), hv.fixed 104 (by decide), hv.fixed 105 (by decide), hv.fixed 106 (by decide), hv.fixed 107 (by decide), hv.fixed 108 (by decide), hv.fixed 109 (by decide), hv.fixed 110 (by decide), hv.fixed 111 (by decide), hv.fixed 112 (by decide), hv.fixed 113 (by decide), hv.fixed 114 (by decide), hv.fixed 115 (by decide), hv.fixed 116 (by decide), hv.fixed 117 (by decide), hv.fixed 118 (by decide), hv.fixed 119 (by decide), hv.fixed 120 (by decide), hv.fixed 121 (by decide), hv.fixed 122 (by decide), hv.fixed 123 (by decide), hv.fixed 124 (by decide), hv.fixed 125 (by decide), hv.fixed 126 (by decide), hv.fixed 127 (by decide), hv.fixed 128 (by decide), hv.fixed 129 (by decide), hv.fixed 130 (by decide), hv.fixed 131 (by decide), hv.fixed 132 (by decide), hv.fixed 133 (by decide), hv.fixed 134 (by decide), hv.fixed 135 (by decide), hv.fixed 136 (by decide), hv.fixed 137 (by decide), hv.fixed 138 (by decide), hv.fixed 139 (by decide), hv.fixed 140 (by decide), hv.get 61 (d := 93) rfl rfl (hall 61 (by decide))] at ha
    rw [ha]
    exact hK _ _ _ _ _ _ _ _ _ _ _ _ _ _ _ _ _ _ _ _ _ _ _ _ _ _ _ _ _ _ _ _ _ _ _ _ _ _ _ _ _ _ _ _ _ _ _ _ _ _ _ _ _ _ _ _ _ _ _ _ _ wc HO.out
noncomputable def hop_4_code : Code := ((Tryd.f14.body.bind (regionOf 8)).getD .skip)
def hop_4_dsts : List (Option Nat) := [some 32, some 33, some 34, some 35, some 36, some 37, some 38, some 39, some 40, some 41, some 42, some 43, some 44, some 45, some 46, some 47, some 48, some 49, some 50, some 51, some 52, some 53, some 54, some 55, some 56, some 57, some 58, some 59, some 60, some 61, some 62, some 63, some 64, some 65, some 66, some 67, some 68, some 69, some 70, some 71, some 72, some 73, some 74, some 75, some 76, some 77, some 78, some 79, some 80, some 81, some 82, some 83, some 84, some 85, some 86, some 87, some 88, some 89, some 90, some 91, some 92, some 93]
theorem hop_4_apart : apartD hop_4_dsts = true := by decide +kernel
set_option maxRecDepth 1000000 in
set_option maxHeartbeats 16000000 in
theorem hop_4 (wr : World) (ff tt : Int) (X n : Nat) (x0 : wr.cell? ⟨X, 0, none⟩ = some (.int .i64 ff)) (x1 : wr.cell? ⟨X, 1, none⟩ = some (.int .i64 tt)) (q0 : ¬ ff < 0) (q1 : ¬ (n : Int) ≤ ff) (q2 : ¬ tt < 0) (q3 : ¬ (n : Int) ≤ tt) (u4 : (ff == tt) = true) (c0 c1 c2 c3 c4 c6 c7 c9 c10 c11 c12 c13 c14 c15 c16 c17 c18 c19 c20 c21 c22 c23 c24 c25 c26 c27 c28 c29 c30 c31 c32 c33 c34 c35 c36 c37 c38 c39 c40 c41 c42 c43 c44 c45 c46 c47 c48 c49 c50 c51 c52 c53 c54 c55 c56 c57 c58 c59 c60 c61 c62 c63 c64 c65 c66 c67 c68 c69 c70 c71 c72 c73 c74 c75 c76 c77 c78 c79 c80 c81 c82 c83 c84 c85 c86 c87 c88 c89 c90 c91 c92 c93 c94 c95 c96 c97 c98 c99 c100 c101 c102 c103 c104 c105 c106 c107 c108 c109 c110 c111 c112 c113 c114 c115 c116 c117 c118 c119 c120 c121 c122 c123 c124 c125 c126 c127 c128 c129 c130 c131 c132 c133 c134 c135 c136 c137 c138 c139 c140 : Value) (df : List Deferred) (K : Act → World → Prop)
    (hK : ∀  (u32 u33 u34 u35 u36 u37 u38 u39 u40 u41 u42 u43 u44 u45 u46 u47 u48 u49 u50 u51 u52 u53 u54 u55 u56 u57 u58 u59 u60 u61 u62 u63 u64 u65 u66 u67 u68 u69 u70 u71 u72 u73 u74 u75 u76 u77 u78 u79 u80 u81 u82 u83 u84 u85 u86 u87 u88 u89 u90 u91 u92 : Value) (wx : World), Ext wr wx → K ⟨#[c0, c1, c2, c3, c4, .int .i64 (n : Nat), c6, c7, .pointer (some ⟨X, 0, none⟩), c9, c10, c11, c12, c13, c14, c15, c16, c17, c18, c19, c20, c21, c22, c23, c24, c25, c26, c27, c28, c29, c30, c31, u32, u33, u34, u35, u36, u37, u38, u39, u40, u41, u42, u43, u44, u45, u46, u47, u48, u49, u50, u51, u52, u53, u54, u55, u56, u57, u58, u59, u60, u61, u62, u63, u64, u65, u66, u67, u68, u69, u70, u71, u72, u73, u74, u75, u76, u77, u78, u79, u80, u81, u82, u83, u84, u85, u86, u87, u88, u89, u90, u91, u92, .bool true, c94, c95, c96, c97, c98, c99, c100, c101, c102, c103, c104, c105, c106, c107, c108, c109, c110, c111, c112, c113, c114, c115, c116, c117, c118, c119, c120, c121, c122, c123, c124, c125, c126, c127, c128, c129, c130, c131, c132, c133, c134, c135, c136, c137, c138, c139, c140], df⟩ wx) :
    Code.wp Tryd.prog hop_4_code (AtEnd K) ⟨#[c0, c1, c2, c3, c4, .int .i64 (n : Nat), c6, c7, .pointer (some ⟨X, 0, none⟩), c9, c10, c11, c12, c13, c14, c15, c16, c17, c18, c19, c20, c21, c22, c23, c24, c25, c26, c27, c28, c29, c30, c31, c32, c33, c34, c35, c36, c37, c38, c39, c40, c41, c42, c43, c44, c45, c46, c47, c48, c49, c50, c51, c52, c53, c54, c55, c56, c57, c58, c59, c60, c61, c62, c63, c64, c65, c66, c67, c68, c69, c70, c71, c72, c73, c74, c75, c76, c77, c78, c79, c80, c81, c82, c83, c84, c85, c86, c87, c88, c89, c90, c91, c92, c93, c94, c95, c96, c97, c98, c99, c100, c101, c102, c103, c104, c105, c106, c107, c108, c109, c110, c111, c112, c113, c114, c115, c116, c117, c118, c119, c120, c121, c122, c123, c124, c125, c126, c127, c128, c129, c130, c131, c132, c133, c134, c135, c136, c137, c138, c139, c140], df⟩ wr := by
  conv => arg 2; whnf
  refine region_inv (by kernel_rfl) [[], [0], [1], [2], [3], [4, 3], [3], [5, 6, 3], [3, 7], [8, 3], [9], [10, 9], [11, 9], [9, 12], [13, 9], [14], [15, 14], [14], [16, 17, 14], [14, 18], [19, 14], [20], [21, 20], [20], [23, 20], [22, 24, 20], [20, 25], [26, 20], [27], [28, 27], [27], [30, 27], [29, 31, 27], [27, 32], [33, 27], [34], [35, 34], [34], [37, 34], [36, 38, 34], [39, 34], [34], [41, 34], [40, 42, 34], [43, 34], [44, 34], [34, 45], [46, 34], [47], [48, 47], [49, 47, 47], [50], [50], [52, 50], [51, 53, 50], [54, 50], [55, 50], [50], [57, 50], [56, 58, 50], [50, 59, 47], [47, 60]] (by kernel_rfl) [0, 1, 2, 3, 4, 5, 6, 7, 8, 9, 10, 11, 12, 13, 14, 15, 16, 17, 18, 19, 20, 21, 22, 23, 24, 25, 26, 27, 28, 29, 30, 31, 32, 33, 34, 35, 36, 37, 38, 39, 40, 41, 42, 43, 44, 45, 46, 47, 48, 49, 50, 51, 52, 53, 54, 55, 56, 57, 58, 59, 60, 61] (by decide +kernel) (by decide +kernel) (by decide +kernel) (fun L a wc => Inv hop_4_dsts [.pointer (some ⟨X, 0, none⟩), .int .i64 ff, .bool false, .bool false, .pointer (some ⟨X, 0, none⟩), .int .i64 ff, .int .i64 (n : Nat), .bool false, .bool false, .bool false, .pointer (some ⟨X, 1, none⟩), .int .i64 tt, .bool false, .bool false, .bool false, .pointer (some ⟨X, 1, none⟩), .int .i64 tt, .int .i64 (n : Nat), .bool false, .bool false, .bool false, .pointer (some ⟨X, 0, none⟩), .int .i64 ff, .pointer (some ⟨X, 1, none⟩), .int .i64 tt, .bool true, .bool true, .bool true, undef, undef, undef, undef, undef, .bool true, .bool true, undef, undef, undef, undef, undef, undef, undef, undef, undef, undef, undef, .bool true, .bool true, undef, undef, undef, undef, undef, undef, undef, undef, undef, undef, undef, undef, undef, .bool true] ⟨#[c0, c1, c2, c3, c4, .int .i64 (n : Nat), c6, c7, .pointer (some ⟨X, 0, none⟩), c9, c10, c11, c12, c13, c14, c15, c16, c17, c18, c19, c20, c21, c22, c23, c24, c25, c26, c27, c28, c29, c30, c31, c32, c33, c34, c35, c36, c37, c38, c39, c40, c41, c42, c43, c44, c45, c46, c47, c48, c49, c50, c51, c52, c53, c54, c55, c56, c57, c58, c59, c60, c61, c62, c63, c64, c65, c66, c67, c68, c69, c70, c71, c72, c73, c74, c75, c76, c77, c78, c79, c80, c81, c82, c83, c84, c85, c86, c87, c88, c89, c90, c91, c92, c93, c94, c95, c96, c97, c98, c99, c100, c101, c102, c103, c104, c105, c106, c107, c108, c109, c110, c111, c112, c113, c114, c115, c116, c117, c118, c119, c120, c121, c122, c123, c124, c125, c126, c127, c128, c129, c130, c131, c132, c133, c134, c135, c136, c137, c138, c139, c140], df⟩ L a ∧ Hid (Ext wr wc)) ⟨Inv.start, Lib.hid ((Ext.refl wr).drew)⟩ ?_ ?_
  · refine ⟨?_, ?_, ?_, ?_, ?_, ?_, ?_, ?_, ?_, ?_, ?_, ?_, ?_, ?_, ?_, ?_, ?_, ?_, ?_, ?_, ?_, ?_, ?_, ?_, ?_, ?_, ?_, ?_, ?_, ?_, ?_, ?_, ?_, ?_, ?_, ?_, ?_, ?_, ?_, ?_, ?_, ?_, ?_, ?_, ?_, ?_, ?_, ?_, ?_, ?_, ?_, ?_, ?_, ?_, ?_, ?_, ?_, ?_, ?_, ?_, ?_, ?_, trivial⟩
    · -- 0 field
      rintro L a wc ⟨hv, HO⟩ hL hc hd
      exact wpOp_val rfl rfl (ex_field rfl ((hv.fixed 8 (by decide)).trans rfl) (by go_simp)) ⟨hv.put hop_4_apart 0 rfl (Nat.le_of_ble_eq_true rfl) (Nat.le_of_ble_eq_true rfl) rfl, HO⟩
    · -- 1 load
      rintro L a wc ⟨hv, HO⟩ hL hc hd
      have x0' : wc.cell? ⟨X, 0, none⟩ = some (.int .i64 ff) := HO.out.cell x0
      exact wpOp_val rfl rfl (ex_load rfl (hv.get 0 rfl rfl (hd 0 (by decide))) (by go_simp)) ⟨hv.put hop_4_apart 1 rfl (Nat.le_of_ble_eq_true rfl) (Nat.le_of_ble_eq_true rfl) rfl, HO⟩
    · -- 2 bin
      rintro L a wc ⟨hv, HO⟩ hL hc hd
      exact wpOp_val rfl rfl (ex_bin rfl (hv.get 1 rfl rfl (hd 1 (by decide))) rfl (by go_simp)) ⟨hv.put hop_4_apart 2 rfl (Nat.le_of_ble_eq_true rfl) (Nat.le_of_ble_eq_true rfl) rfl, HO⟩
    · -- 3 move
      rintro L a wc ⟨hv, HO⟩ hL hc hd
      exact wpOp_val rfl rfl (ex_move rfl (hv.get 2 rfl rfl (hd 2 (by decide)))) ⟨hv.put hop_4_apart 3 rfl (Nat.le_of_ble_eq_true rfl) (Nat.le_of_ble_eq_true rfl) rfl, HO⟩
    · -- 4 field
      rintro L a wc ⟨hv, HO⟩ hL hc hd
      exact wpOp_val rfl ((wanted_at rfl rfl (hv.get 3 rfl rfl (hd 3 (by decide)))).trans rfl) (ex_field rfl ((hv.fixed 8 (by decide)).trans rfl) (by go_simp)) ⟨hv.put hop_4_apart 4 rfl (Nat.le_of_ble_eq_true rfl) (Nat.le_of_ble_eq_true rfl) rfl, HO⟩
    · -- 5 load
      rintro L a wc ⟨hv, HO⟩ hL hc hd
      have x0' : wc.cell? ⟨X, 0, none⟩ = some (.int .i64 ff) := HO.out.cell x0
      exact wpOp_val rfl ((wanted_at rfl rfl (hv.get 3 rfl rfl (hd 3 (by decide)))).trans rfl) (ex_load rfl (hv.get 4 rfl rfl (hd 4 (by decide))) (by go_simp)) ⟨hv.put hop_4_apart 5 rfl (Nat.le_of_ble_eq_true rfl) (Nat.le_of_ble_eq_true rfl) rfl, HO⟩
    · -- 6 move
      rintro L a wc ⟨hv, HO⟩ hL hc hd
      exact wpOp_val rfl ((wanted_at rfl rfl (hv.get 3 rfl rfl (hd 3 (by decide)))).trans rfl) (ex_move rfl ((hv.fixed 5 (by decide)).trans rfl)) ⟨hv.put hop_4_apart 6 rfl (Nat.le_of_ble_eq_true rfl) (Nat.le_of_ble_eq_true rfl) rfl, HO⟩
    · -- 7 bin
      rintro L a wc ⟨hv, HO⟩ hL hc hd
      exact wpOp_val rfl ((wanted_at rfl rfl (hv.get 3 rfl rfl (hd 3 (by decide)))).trans rfl) (ex_bin rfl (hv.get 5 rfl rfl (hd 5 (by decide))) (hv.get 6 rfl rfl (hd 6 (by decide))) (by go_simp)) ⟨hv.put hop_4_apart 7 rfl (Nat.le_of_ble_eq_true rfl) (Nat.le_of_ble_eq_true rfl) rfl, HO⟩
    · -- 8 pick
      rintro L a wc ⟨hv, HO⟩ hL hc hd
      exact wpOp_val rfl rfl (ex_pick rfl (hv.get 3 rfl rfl (hd 3 (by decide))) ((if_neg (by simp)).trans (hv.get 7 rfl rfl (hd 7 (by decide))))) ⟨hv.put hop_4_apart 8 rfl (Nat.le_of_ble_eq_true rfl) (Nat.le_of_ble_eq_true rfl) rfl, HO⟩
    · -- 9 move
      rintro L a wc ⟨hv, HO⟩ hL hc hd
      exact wpOp_val rfl rfl (ex_move rfl (hv.get 8 rfl rfl (hd 8 (by decide)))) ⟨hv.put hop_4_apart 9 rfl (Nat.le_of_ble_eq_true rfl) (Nat.le_of_ble_eq_true rfl) rfl, HO⟩
    · -- 10 field
      rintro L a wc ⟨hv, HO⟩ hL hc hd
      exact wpOp_val rfl ((wanted_at rfl rfl (hv.get 9 rfl rfl (hd 9 (by decide)))).trans rfl) (ex_field rfl ((hv.fixed 8 (by decide)).trans rfl) (by go_simp)) ⟨hv.put hop_4_apart 10 rfl (Nat.le_of_ble_eq_true rfl) (Nat.le_of_ble_eq_true rfl) rfl, HO⟩
    · -- 11 load
      rintro L a wc ⟨hv, HO⟩ hL hc hd
      have x1' : wc.cell? ⟨X, 1, none⟩ = some (.int .i64 tt) := HO.out.cell x1
      exact wpOp_val rfl ((wanted_at rfl rfl (hv.get 9 rfl rfl (hd 9 (by decide)))).trans rfl) (ex_load rfl (hv.get 10 rfl rfl (hd 10 (by decide))) (by go_simp)) ⟨hv.put hop_4_apart 11 rfl (Nat.le_of_ble_eq_true rfl) (Nat.le_of_ble_eq_true rfl) rfl, HO⟩
    · -- 12 bin
      rintro L a wc ⟨hv, HO⟩ hL hc hd
      exact wpOp_val rfl ((wanted_at rfl rfl (hv.get 9 rfl rfl (hd 9 (by decide)))).trans rfl) (ex_bin rfl (hv.get 11 rfl rfl (hd 11 (by decide))) rfl (by go_simp)) ⟨hv.put hop_4_apart 12 rfl (Nat.le_of_ble_eq_true rfl) (Nat.le_of_ble_eq_true rfl) rfl, HO⟩
    · -- 13 pick
      rintro L a wc ⟨hv, HO⟩ hL hc hd
      exact wpOp_val rfl rfl (ex_pick rfl (hv.get 9 rfl rfl (hd 9 (by decide))) ((if_neg (by simp)).trans (hv.get 12 rfl rfl (hd 12 (by decide))))) ⟨hv.put hop_4_apart 13 rfl (Nat.le_of_ble_eq_true rfl) (Nat.le_of_ble_eq_true rfl) rfl, HO⟩
    · -- 14 move
      rintro L a wc ⟨hv, HO⟩ hL hc hd
      exact wpOp_val rfl rfl (ex_move rfl (hv.get 13 rfl rfl (hd 13 (by decide)))) ⟨hv.put hop_4_apart 14 rfl (Nat.le_of_ble_eq_true rfl) (Nat.le_of_ble_eq_true rfl) rfl, HO⟩
    · -- 15 field
      rintro L a wc ⟨hv, HO⟩ hL hc hd
      exact wpOp_val rfl ((wanted_at rfl rfl (hv.get 14 rfl rfl (hd 14 (by decide)))).trans rfl) (ex_field rfl ((hv.fixed 8 (by decide)).trans rfl) (by go_simp)) ⟨hv.put hop_4_apart 15 rfl (Nat.le_of_ble_eq_true rfl) (Nat.le_of_ble_eq_true rfl) rfl, HO⟩
    · -- 16 load
      rintro L a wc ⟨hv, HO⟩ hL hc hd
      have x1' : wc.cell? ⟨X, 1, none⟩ = some (.int .i64 tt) := HO.out.cell x1
      exact wpOp_val rfl ((wanted_at rfl rfl (hv.get 14 rfl rfl (hd 14 (by decide)))).trans rfl) (ex_load rfl (hv.get 15 rfl rfl (hd 15 (by decide))) (by go_simp)) ⟨hv.put hop_4_apart 16 rfl (Nat.le_of_ble_eq_true rfl) (Nat.le_of_ble_eq_true rfl) rfl, HO⟩
    · -- 17 move
      rintro L a wc ⟨hv, HO⟩ hL hc hd
      exact wpOp_val rfl ((wanted_at rfl rfl (hv.get 14 rfl rfl (hd 14 (by decide)))).trans rfl) (ex_move rfl ((hv.fixed 5 (by decide)).trans rfl)) ⟨hv.put hop_4_apart 17 rfl (Nat.le_of_ble_eq_true rfl) (Nat.le_of_ble_eq_true rfl) rfl, HO⟩
    · -- 18 bin
      rintro L a wc ⟨hv, HO⟩ hL hc hd
      exact wpOp_val rfl ((wanted_at rfl rfl (hv.get 14 rfl rfl (hd 14 (by decide)))).trans rfl) (ex_bin rfl (hv.get 16 rfl rfl (hd 16 (by decide))) (hv.get 17 rfl rfl (hd 17 (by decide))) (by go_simp)) ⟨hv.put hop_4_apart 18 rfl (Nat.le_of_ble_eq_true rfl) (Nat.le_of_ble_eq_true rfl) rfl, HO⟩
    · -- 19 pick
      rintro L a wc ⟨hv, HO⟩ hL hc hd
      exact wpOp_val rfl rfl (ex_pick rfl (hv.get 14 rfl rfl (hd 14 (by decide))) ((if_neg (by simp)).trans (hv.get 18 rfl rfl (hd 18 (by decide))))) ⟨hv.put hop_4_apart 19 rfl (Nat.le_of_ble_eq_true rfl) (Nat.le_of_ble_eq_true rfl) rfl, HO⟩
    · -- 20 move
      rintro L a wc ⟨hv, HO⟩ hL hc hd
      exact wpOp_val rfl rfl (ex_move rfl (hv.get 19 rfl rfl (hd 19 (by decide)))) ⟨hv.put hop_4_apart 20 rfl (Nat.le_of_ble_eq_true rfl) (Nat.le_of_ble_eq_true rfl) rfl, HO⟩
    · -- 21 field
      rintro L a wc ⟨hv, HO⟩ hL hc hd
      exact wpOp_val rfl ((wanted_at rfl rfl (hv.get 20 rfl rfl (hd 20 (by decide)))).trans rfl) (ex_field rfl ((hv.fixed 8 (by decide)).trans rfl) (by go_simp)) ⟨hv.put hop_4_apart 21 rfl (Nat.le_of_ble_eq_true rfl) (Nat.le_of_ble_eq_true rfl) rfl, HO⟩
    · -- 22 load
      rintro L a wc ⟨hv, HO⟩ hL hc hd
      have x0' : wc.cell? ⟨X, 0, none⟩ = some (.int .i64 ff) := HO.out.cell x0
      exact wpOp_val rfl ((wanted_at rfl rfl (hv.get 20 rfl rfl (hd 20 (by decide)))).trans rfl) (ex_load rfl (hv.get 21 rfl rfl (hd 21 (by decide))) (by go_simp)) ⟨hv.put hop_4_apart 22 rfl (Nat.le_of_ble_eq_true rfl) (Nat.le_of_ble_eq_true rfl) rfl, HO⟩
    · -- 23 field
      rintro L a wc ⟨hv, HO⟩ hL hc hd
      exact wpOp_val rfl ((wanted_at rfl rfl (hv.get 20 rfl rfl (hd 20 (by decide)))).trans rfl) (ex_field rfl ((hv.fixed 8 (by decide)).trans rfl) (by go_simp)) ⟨hv.put hop_4_apart 23 rfl (Nat.le_of_ble_eq_true rfl) (Nat.le_of_ble_eq_true rfl) rfl, HO⟩
    · -- 24 load
      rintro L a wc ⟨hv, HO⟩ hL hc hd
      have x1' : wc.cell? ⟨X, 1, none⟩ = some (.int .i64 tt) := HO.out.cell x1
      exact wpOp_val rfl ((wanted_at rfl rfl (hv.get 20 rfl rfl (hd 20 (by decide)))).trans rfl) (ex_load rfl (hv.get 23 rfl rfl (hd 23 (by decide))) (by go_simp)) ⟨hv.put hop_4_apart 24 rfl (Nat.le_of_ble_eq_true rfl) (Nat.le_of_ble_eq_true rfl) rfl, HO⟩
    · -- 25 bin
      rintro L a wc ⟨hv, HO⟩ hL hc hd
      exact wpOp_val rfl ((wanted_at rfl rfl (hv.get 20 rfl rfl (hd 20 (by decide)))).trans rfl) (ex_bin rfl (hv.get 22 rfl rfl (hd 22 (by decide))) (hv.get 24 rfl rfl (hd 24 (by decide))) (by go_simp)) ⟨hv.put hop_4_apart 25 rfl (Nat.le_of_ble_eq_true rfl) (Nat.le_of_ble_eq_true rfl) rfl, HO⟩
    · -- 26 pick
      rintro L a wc ⟨hv, HO⟩ hL hc hd
      exact wpOp_val rfl rfl (ex_pick rfl (hv.get 20 rfl rfl (hd 20 (by decide))) ((if_neg (by simp)).trans (hv.get 25 rfl rfl (hd 25 (by decide))))) ⟨hv.put hop_4_apart 26 rfl (Nat.le_of_ble_eq_true rfl) (Nat.le_of_ble_eq_true rfl) rfl, HO⟩
    · -- 27 move
      rintro L a wc ⟨hv, HO⟩ hL hc hd
      exact wpOp_val rfl rfl (ex_move rfl (hv.get 26 rfl rfl (hd 26 (by decide)))) ⟨hv.put hop_4_apart 27 rfl (Nat.le_of_ble_eq_true rfl) (Nat.le_of_ble_eq_true rfl) rfl, HO⟩
    · -- 28 off
      rintro L a wc ⟨hv, HO⟩ hL hc hd
      exact wpOp_off rfl ((wanted_at rfl rfl (hv.get 27 rfl rfl (hd 27 (by decide)))).trans rfl) ⟨hv.put hop_4_apart 28 rfl (Nat.le_of_ble_eq_true rfl) (Nat.le_of_ble_eq_true rfl) rfl, HO⟩
    · -- 29 off
      rintro L a wc ⟨hv, HO⟩ hL hc hd
      exact wpOp_off rfl ((wanted_at rfl rfl (hv.get 27 rfl rfl (hd 27 (by decide)))).trans rfl) ⟨hv.put hop_4_apart 29 rfl (Nat.le_of_ble_eq_true rfl) (Nat.le_of_ble_eq_true rfl) rfl, HO⟩
    · -- 30 off
      rintro L a wc ⟨hv, HO⟩ hL hc hd
      exact wpOp_off rfl ((wanted_at rfl rfl (hv.get 27 rfl rfl (hd 27 (by decide)))).trans rfl) ⟨hv.put hop_4_apart 30 rfl (Nat.le_of_ble_eq_true rfl) (Nat.le_of_ble_eq_true rfl) rfl, HO⟩
    · -- 31 off
      rintro L a wc ⟨hv, HO⟩ hL hc hd
      exact wpOp_off rfl ((wanted_at rfl rfl (hv.get 27 rfl rfl (hd 27 (by decide)))).trans rfl) ⟨hv.put hop_4_apart 31 rfl (Nat.le_of_ble_eq_true rfl) (Nat.le_of_ble_eq_true rfl) rfl, HO⟩
    · -- 32 off
      rintro L a wc ⟨hv, HO⟩ hL hc hd
      exact wpOp_off rfl ((wanted_at rfl rfl (hv.get 27 rfl rfl (hd 27 (by decide)))).trans rfl) ⟨hv.put hop_4_apart 32 rfl (Nat.le_of_ble_eq_true rfl) (Nat.le_of_ble_eq_true rfl) rfl, HO⟩
    · -- 33 pick
      rintro L a wc ⟨hv, HO⟩ hL hc hd
      exact wpOp_val rfl rfl (ex_pick rfl (hv.get 27 rfl rfl (hd 27 (by decide))) rfl) ⟨hv.put hop_4_apart 33 rfl (Nat.le_of_ble_eq_true rfl) (Nat.le_of_ble_eq_true rfl) rfl, HO⟩
    · -- 34 move
      rintro L a wc ⟨hv, HO⟩ hL hc hd
      exact wpOp_val rfl rfl (ex_move rfl (hv.get 33 rfl rfl (hd 33 (by decide)))) ⟨hv.put hop_4_apart 34 rfl (Nat.le_of_ble_eq_true rfl) (Nat.le_of_ble_eq_true rfl) rfl, HO⟩
    · -- 35 off
      rintro L a wc ⟨hv, HO⟩ hL hc hd
      exact wpOp_off rfl ((wanted_at rfl rfl (hv.get 34 rfl rfl (hd 34 (by decide)))).trans rfl) ⟨hv.put hop_4_apart 35 rfl (Nat.le_of_ble_eq_true rfl) (Nat.le_of_ble_eq_true rfl) rfl, HO⟩
    · -- 36 off
      rintro L a wc ⟨hv, HO⟩ hL hc hd
      exact wpOp_off rfl ((wanted_at rfl rfl (hv.get 34 rfl rfl (hd 34 (by decide)))).trans rfl) ⟨hv.put hop_4_apart 36 rfl (Nat.le_of_ble_eq_true rfl) (Nat.le_of_ble_eq_true rfl) rfl, HO⟩
    · -- 37 off
      rintro L a wc ⟨hv, HO⟩ hL hc hd
      exact wpOp_off rfl ((wanted_at rfl rfl (hv.get 34 rfl rfl (hd 34 (by decide)))).trans rfl) ⟨hv.put hop_4_apart 37 rfl (Nat.le_of_ble_eq_true rfl) (Nat.le_of_ble_eq_true rfl) rfl, HO⟩
    · -- 38 off
      rintro L a wc ⟨hv, HO⟩ hL hc hd
      exact wpOp_off rfl ((wanted_at rfl rfl (hv.get 34 rfl rfl (hd 34 (by decide)))).trans rfl) ⟨hv.put hop_4_apart 38 rfl (Nat.le_of_ble_eq_true rfl) (Nat.le_of_ble_eq_true rfl) rfl, HO⟩
    · -- 39 off
      rintro L a wc ⟨hv, HO⟩ hL hc hd
      exact wpOp_off rfl ((wanted_at rfl rfl (hv.get 34 rfl rfl (hd 34 (by decide)))).trans rfl) ⟨hv.put hop_4_apart 39 rfl (Nat.le_of_ble_eq_true rfl) (Nat.le_of_ble_eq_true rfl) rfl, HO⟩
    · -- 40 off
      rintro L a wc ⟨hv, HO⟩ hL hc hd
      exact wpOp_off rfl ((wanted_at rfl rfl (hv.get 34 rfl rfl (hd 34 (by decide)))).trans rfl) ⟨hv.put hop_4_apart 40 rfl (Nat.le_of_ble_eq_true rfl) (Nat.le_of_ble_eq_true rfl) rfl, HO⟩
    · -- 41 off
      rintro L a wc ⟨hv, HO⟩ hL hc hd
      exact wpOp_off rfl ((wanted_at rfl rfl (hv.get 34 rfl rfl (hd 34 (by decide)))).trans rfl) ⟨hv.put hop_4_apart 41 rfl (Nat.le_of_ble_eq_true rfl) (Nat.le_of_ble_eq_true rfl) rfl, HO⟩
    · -- 42 off
      rintro L a wc ⟨hv, HO⟩ hL hc hd
      exact wpOp_off rfl ((wanted_at rfl rfl (hv.get 34 rfl rfl (hd 34 (by decide)))).trans rfl) ⟨hv.put hop_4_apart 42 rfl (Nat.le_of_ble_eq_true rfl) (Nat.le_of_ble_eq_true rfl) rfl, HO⟩
    · -- 43 off
      rintro L a wc ⟨hv, HO⟩ hL hc hd
      exact wpOp_off rfl ((wanted_at rfl rfl (hv.get 34 rfl rfl (hd 34 (by decide)))).trans rfl) ⟨hv.put hop_4_apart 43 rfl (Nat.le_of_ble_eq_true rfl) (Nat.le_of_ble_eq_true rfl) rfl, HO⟩
    · -- 44 off
      rintro L a wc ⟨hv, HO⟩ hL hc hd
      exact wpOp_off rfl ((wanted_at rfl rfl (hv.get 34 rfl rfl (hd 34 (by decide)))).trans rfl) ⟨hv.put hop_4_apart 44 rfl (Nat.le_of_ble_eq_true rfl) (Nat.le_of_ble_eq_true rfl) rfl, HO⟩
    · -- 45 off
      rintro L a wc ⟨hv, HO⟩ hL hc hd
      exact wpOp_off rfl ((wanted_at rfl rfl (hv.get 34 rfl rfl (hd 34 (by decide)))).trans rfl) ⟨hv.put hop_4_apart 45 rfl (Nat.le_of_ble_eq_true rfl) (Nat.le_of_ble_eq_true rfl) rfl, HO⟩
    · -- 46 pick
      rintro L a wc ⟨hv, HO⟩ hL hc hd
      exact wpOp_val rfl rfl (ex_pick rfl (hv.get 34 rfl rfl (hd 34 (by decide))) rfl) ⟨hv.put hop_4_apart 46 rfl (Nat.le_of_ble_eq_true rfl) (Nat.le_of_ble_eq_true rfl) rfl, HO⟩
    · -- 47 move
      rintro L a wc ⟨hv, HO⟩ hL hc hd
      exact wpOp_val rfl rfl (ex_move rfl (hv.get 46 rfl rfl (hd 46 (by decide)))) ⟨hv.put hop_4_apart 47 rfl (Nat.le_of_ble_eq_true rfl) (Nat.le_of_ble_eq_true rfl) rfl, HO⟩
    · -- 48 off
      rintro L a wc ⟨hv, HO⟩ hL hc hd
      exact wpOp_off rfl ((wanted_at rfl rfl (hv.get 47 rfl rfl (hd 47 (by decide)))).trans rfl) ⟨hv.put hop_4_apart 48 rfl (Nat.le_of_ble_eq_true rfl) (Nat.le_of_ble_eq_true rfl) rfl, HO⟩
    · -- 49 off
      rintro L a wc ⟨hv, HO⟩ hL hc hd
      exact wpOp_off rfl ((wanted_at rfl rfl (hv.get 47 rfl rfl (hd 47 (by decide)))).trans rfl) ⟨hv.put hop_4_apart 49 rfl (Nat.le_of_ble_eq_true rfl) (Nat.le_of_ble_eq_true rfl) rfl, HO⟩
    · -- 50 off
      rintro L a wc ⟨hv, HO⟩ hL hc hd
      exact wpOp_off rfl ((wanted_at rfl rfl (hv.get 47 rfl rfl (hd 47 (by decide)))).trans rfl) ⟨hv.put hop_4_apart 50 rfl (Nat.le_of_ble_eq_true rfl) (Nat.le_of_ble_eq_true rfl) rfl, HO⟩
    · -- 51 off
      rintro L a wc ⟨hv, HO⟩ hL hc hd
      exact wpOp_off rfl (wanted_undef rfl rfl (hv.get 50 rfl rfl (hd 50 (by decide)))) ⟨hv.put hop_4_apart 51 rfl (Nat.le_of_ble_eq_true rfl) (Nat.le_of_ble_eq_true rfl) rfl, HO⟩
    · -- 52 off
      rintro L a wc ⟨hv, HO⟩ hL hc hd
      exact wpOp_off rfl (wanted_undef rfl rfl (hv.get 50 rfl rfl (hd 50 (by decide)))) ⟨hv.put hop_4_apart 52 rfl (Nat.le_of_ble_eq_true rfl) (Nat.le_of_ble_eq_true rfl) rfl, HO⟩
    · -- 53 off
      rintro L a wc ⟨hv, HO⟩ hL hc hd
      exact wpOp_off rfl (wanted_undef rfl rfl (hv.get 50 rfl rfl (hd 50 (by decide)))) ⟨hv.put hop_4_apart 53 rfl (Nat.le_of_ble_eq_true rfl) (Nat.le_of_ble_eq_true rfl) rfl, HO⟩
    · -- 54 off
      rintro L a wc ⟨hv, HO⟩ hL hc hd
      exact wpOp_off rfl (wanted_undef rfl rfl (hv.get 50 rfl rfl (hd 50 (by decide)))) ⟨hv.put hop_4_apart 54 rfl (Nat.le_of_ble_eq_true rfl) (Nat.le_of_ble_eq_true rfl) rfl, HO⟩
    · -- 55 off
      rintro L a wc ⟨hv, HO⟩ hL hc hd
      exact wpOp_off rfl (wanted_undef rfl rfl (hv.get 50 rfl rfl (hd 50 (by decide)))) ⟨hv.put hop_4_apart 55 rfl (Nat.le_of_ble_eq_true rfl) (Nat.le_of_ble_eq_true rfl) rfl, HO⟩
    · -- 56 off
      rintro L a wc ⟨hv, HO⟩ hL hc hd
      exact wpOp_off rfl (wanted_undef rfl rfl (hv.get 50 rfl rfl (hd 50 (by decide)))) ⟨hv.put hop_4_apart 56 rfl (Nat.le_of_ble_eq_true rfl) (Nat.le_of_ble_eq_true rfl) rfl, HO⟩
    · -- 57 off
      rintro L a wc ⟨hv, HO⟩ hL hc hd
      exact wpOp_off rfl (wanted_undef rfl rfl (hv.get 50 rfl rfl (hd 50 (by decide)))) ⟨hv.put hop_4_apart 57 rfl (Nat.le_of_ble_eq_true rfl) (Nat.le_of_ble_eq_true rfl) rfl, HO⟩
    · -- 58 off
      rintro L a wc ⟨hv, HO⟩ hL hc hd
      exact wpOp_off rfl (wanted_undef rfl rfl (hv.get 50 rfl rfl (hd 50 (by decide)))) ⟨hv.put hop_4_apart 58 rfl (Nat.le_of_ble_eq_true rfl) (Nat.le_of_ble_eq_true rfl) rfl, HO⟩
    · -- 59 off
      rintro L a wc ⟨hv, HO⟩ hL hc hd
      exact wpOp_off rfl (wanted_undef rfl rfl (hv.get 50 rfl rfl (hd 50 (by decide)))) ⟨hv.put hop_4_apart 59 rfl (Nat.le_of_ble_eq_true rfl) (Nat.le_of_ble_eq_true rfl) rfl, HO⟩
    · -- 60 off
      rintro L a wc ⟨hv, HO⟩ hL hc hd
      exact wpOp_off rfl ((wanted_at rfl rfl (hv.get 47 rfl rfl (hd 47 (by decide)))).trans rfl) ⟨hv.put hop_4_apart 60 rfl (Nat.le_of_ble_eq_true rfl) (Nat.le_of_ble_eq_true rfl) rfl, HO⟩
    · -- 61 pick
      rintro L a wc ⟨hv, HO⟩ hL hc hd
      exact wpOp_val rfl rfl (ex_pick rfl (hv.get 47 rfl rfl (hd 47 (by decide))) rfl) ⟨hv.put hop_4_apart 61 rfl (Nat.le_of_ble_eq_true rfl) (Nat.le_of_ble_eq_true rfl) rfl, HO⟩
  · rintro L a wc ⟨hv, HO⟩ hall
    show K a wc
    have ha := act_lit a
    rw [hv.size, hv.defers] at ha
    have hl : ∀ f : Nat → Value, ((List.range (⟨#[c0, c1, c2, c3, c4, .int .i64 (n : Nat), c6, c7, .pointer (some ⟨X, 0, none⟩), c9, c10, c11, c12, c13, c14, c15, c16, c17, c18, c19, c20, c21, c22, c23, c24, c25, c26, c27, c28, c29, c30, c31, c32, c33, c34, c35, c36, c37, c38, c39, c40, c41, c42, c43, c44, c45, c46, c47, c48, c49, c50, c51, c52, c53, c54, c55, c56, c57, c58, c59, c60, c61, c62, c63, c64, c65, c66, c67, c68, c69, c70, c71, c72, c73, c74, c75, c76, c77, c78, c79, c80, c81, c82, c83, c84, c85, c86, c87, c88, c89, c90, c91, c92, c93, c94, c95, c96, c97, c98, c99, c100, c101, c102, c103, c104, c105, c106, c107, c108, c109, c110, c111, c112, c113, c114, c115, c116, c117, c118, c119, c120, c121, c122, c123, c124, c125, c126, c127, c128, c129, c130, c131, c132, c133, c134, c135, c136, c137, c138, c139, c140], df⟩ : Act).tmps.size).map f).toArray = #[f 0, f 1, f 2, f 3, f 4, f 5, f 6, f 7, f 8, f 9, f 10, f 11, f 12, f 13, f 14, f 15, f 16, f 17, f 18, f 19, f 20, f 21, f 22, f 23, f 24, f 25, f 26, f 27, f 28, f 29, f 30, f 31, f 32, f 33, f 34, f 35, f 36, f 37, f 38, f 39, f 40, f 41, f 42, f 43, f 44, f 45, f 46, f 47, f 48, f 49, f 50, f 51, f 52, f 53, f 54, f 55, f 56, f 57, f 58, f 59, f 60, f 61, f 62, f 63, f 64, f 65, f 66, f 67, f 68, f 69, f 70, f 71, f 72, f 73, f 74, f 75, f 76, f 77, f 78, f 79, f 80, f 81, f 82, f 83, f 84, f 85, f 86, f 87, f 88, f 89, f 90, f 91, f 92, f 93, f 94, f 95, f 96, f 97, f 98, f 99, f 100, f 101, f 102, f 103, f 104, f 105, f 106, f 107, f 108, f 109, f 110, f 111, f 112, f 113, f 114, f 115, f 116, f 117, f 118, f 119, f 120, f 121, f 122, f 123, f 124, f 125, f 126, f 127, f 128, f 129, f 130, f 131, f 132, f 133, f 134, f 135, f 136, f 137, f 138, f 139, f 140] := fun _ => rfl
    rw [hl] at ha
    simp only [hv.fixed 0 (by decide), hv.fixed 1 (by decide), hv.fixed 2 (by decide), hv.fixed 3 (by decide), hv.fixed 4 (by decide), hv.fixed 5 (by decide), hv.fixed 6 (by decide), hv.fixed 7 (by decide), hv.fixed 8 (by decide), hv.fixed 9 (by decide), hv.fixed 10 (by decide), hv.fixed 11 (by decide), hv.fixed 12 (by decide), hv.fixed 13 (by decide), hv.fixed 14 (by decide), hv.fixed 15 (by decide), hv.fixed 16 (by decide), hv.fixed 17 (by decide), hv.fixed 18 (by decide), hv.fixed 19 (by decide), hv.fixed 20 (by decide), hv.fixed 21 (by decide), hv.fixed 22 (by decide), hv.fixed 23 (by decide), hv.fixed 24 (by decide), hv.fixed 25 (by decide), hv.fixed 26 (by decide), hv.fixed 27 (by decide), hv.fixed 28 (by decide), hv.fixed 29 (by decide), hv.fixed 30 (by decide), hv.fixed 31 (by decide), hv.fixed 94 (by decide), hv.fixed 95 (by decide), hv.fixed 96 (by decide), hv.fixed 97 (by decide), hv.fixed 98 (by decide), hv.fixed 99 (by decide), hv.fixed 100 (by decide), hv.fixed 101 (by decide), hv.fixed 102 (by decide), hv.fixed 103 (by decide), hv.fixed 104 (by decide), hv.fixed 105 (by decide), hv.fixed 106 (by decide), hv.fixed 107 (by decide), hv.fixed 108 (by decide), hv.fixed 109 (by decide), hv.fixed 110 (by decide), hv.fixed 111 (by decide), hv.fixed 112 (by decide), hv.fixed 113 (by decide), hv.fixed 114 (by decide), hv.fixed 115 (by decide), hv.fixed 116 (by decide), hv.fixed 117 (by decide), hv.fixed 118 (by decide), hv.fixed 119 (by decide), hv.fixed 120 (by decide), hv.fixed 121 (by decide), hv.fixed 122 (by decide), hv.fixed 123 (by decide), hv.fixed 124 (by decide), hv.fixed 125 (by decide), hv.fixed 126 (by decide), hv.fixed 127 (by decide), hv.fixed 128 (by decide), hv.fixed 129 (by decide), hv.fixed 130 (by decide), hv.fixed 131 (by decide), hv.fixed 132 (by decide), hv.fixed 133 (by decide), hv.fixed 134 (by decide), hv.fixed 135 (by decide), hv.fixed 136 (by decide), hv.fixed 137 (by decide), hv.fixed 138 (by decide), hv.fixed 139 (by decide), hv.fixed 140 (by decide), hv.get 61 (d := 93) rfl rfl (hall 61 (by decide))] at ha
    rw [ha]
    exact hK _ _ _ _ _ _ _ _ _ _ _ _ _ _ _ _ _ _ _ _ _ _ _ _ _ _ _ _ _ _ _ _ _ _ _ _ _ _ _ _ _ _ _ _ _ _ _ _ _ _ _ _ _ _ _ _ _ _ _ _ _ wc HO.out
noncomputable def hop_5_code : Code := ((Tryd.f14.body.bind (regionOf 8)).getD .skip)
def hop_5_dsts : List (Option Nat) := [some 32, some 33, some 34, some 35, some 36, some 37, some 38, some 39, some 40, some 41, some 42, some 43, some 44, some 45, some 46, some 47, some 48, some 49, some 50, some 51, some 52, some 53, some 54, some 55, some 56, some 57, some 58, some 59, some 60, some 61, some 62, some 63, some 64, some 65, some 66, some 67, some 68, some 69, some 70, some 71, some 72, some 73, some 74, some 75, some 76, some 77, some 78, some 79, some 80, some 81, some 82, some 83, some 84, some 85, some 86, some 87, some 88, some 89, some 90, some 91, some 92, some 93]
theorem hop_5_apart : apartD hop_5_dsts = true := by decide +kernel
set_option maxRecDepth 1000000 in
set_option maxHeartbeats 16000000 in
theorem hop_5 (wr : World) (ff tt : Int) (X n : Nat) (x0 : wr.cell? ⟨X, 0, none⟩ = some (.int .i64 ff)) (x1 : wr.cell? ⟨X, 1, none⟩ = some (.int .i64 tt)) (q0 : ¬ ff < 0) (q1 : ¬ (n : Int) ≤ ff) (q2 : ¬ tt < 0) (q3 : ¬ (n : Int) ≤ tt) (u4 : (ff == tt) = false) (g : Int) (B : Nat) (h2 : wr.cell? ⟨B, 2, none⟩ = some (.int .i64 g)) (u5 : (ff == g) = true) (c0 c1 c3 c4 c6 c7 c9 c10 c11 c12 c13 c14 c15 c16 c17 c18 c19 c20 c21 c22 c23 c24 c25 c26 c27 c28 c29 c30 c31 c32 c33 c34 c35 c36 c37 c38 c39 c40 c41 c42 c43 c44 c45 c46 c47 c48 c49 c50 c51 c52 c53 c54 c55 c56 c57 c58 c59 c60 c61 c62 c63 c64 c65 c66 c67 c68 c69 c70 c71 c72 c73 c74 c75 c76 c77 c78 c79 c80 c81 c82 c83 c84 c85 c86 c87 c88 c89 c90 c91 c92 c93 c94 c95 c96 c97 c98 c99 c100 c101 c102 c103 c104 c105 c106 c107 c108 c109 c110 c111 c112 c113 c114 c115 c116 c117 c118 c119 c120 c121 c122 c123 c124 c125 c126 c127 c128 c129 c130 c131 c132 c133 c134 c135 c136 c137 c138 c139 c140 : Value) (df : List Deferred) (K : Act → World → Prop)
    (hK : ∀  (u32 u33 u34 u35 u36 u37 u38 u39 u40 u41 u42 u43 u44 u45 u46 u47 u48 u49 u50 u51 u52 u53 u54 u55 u56 u57 u58 u59 u60 u61 u62 u63 u64 u65 u66 u67 u68 u69 u70 u71 u72 u73 u74 u75 u76 u77 u78 u79 u80 u81 u82 u83 u84 u85 u86 u87 u88 u89 u90 u91 u92 : Value) (wx : World), Ext wr wx → K ⟨#[c0, c1, .pointer (some ⟨B, 0, none⟩), c3, c4, .int .i64 (n : Nat), c6, c7, .pointer (some ⟨X, 0, none⟩), c9, c10, c11, c12, c13, c14, c15, c16, c17, c18, c19, c20, c21, c22, c23, c24, c25, c26, c27, c28, c29, c30, c31, u32, u33, u34, u35, u36, u37, u38, u39, u40, u41, u42, u43, u44, u45, u46, u47, u48, u49, u50, u51, u52, u53, u54, u55, u56, u57, u58, u59, u60, u61, u62, u63, u64, u65, u66, u67, u68, u69, u70, u71, u72, u73, u74, u75, u76, u77, u78, u79, u80, u81, u82, u83, u84, u85, u86, u87, u88, u89, u90, u91, u92, .bool true, c94, c95, c96, c97, c98, c99, c100, c101, c102, c103, c104, c105, c106, c107, c108, c109, c110, c111, c112, c113, c114, c115, c116, c117, c118, c119, c120, c121, c122, c123, c124, c125, c126, c127, c128, c129, c130, c131, c132, c133, c134, c135, c136, c137, c138, c139, c140], df⟩ wx) :
    Code.wp Tryd.prog hop_5_code (AtEnd K) ⟨#[c0, c1, .pointer (some ⟨B, 0, none⟩), c3, c4, .int .i64 (n : Nat), c6, c7, .pointer (some ⟨X, 0, none⟩), c9, c10, c11, c12, c13, c14, c15, c16, c17, c18, c19, c20, c21, c22, c23, c24, c25, c26, c27, c28, c29, c30, c31, c32, c33, c34, c35, c36, c37, c38, c39, c40, c41, c42, c43, c44, c45, c46, c47, c48, c49, c50, c51, c52, c53, c54, c55, c56, c57, c58, c59, c60, c61, c62, c63, c64, c65, c66, c67, c68, c69, c70, c71, c72, c73, c74, c75, c76, c77, c78, c79, c80, c81, c82, c83, c84, c85, c86, c87, c88, c89, c90, c91, c92, c93, c94, c95, c96, c97, c98, c99, c100, c101, c102, c103, c104, c105, c106, c107, c108, c109, c110, c111, c112, c113, c114, c115, c116, c117, c118, c119, c120, c121, c122, c123, c124, c125, c126, c127, c128, c129, c130, c131, c132, c133, c134, c135, c136, c137, c138, c139, c140], df⟩ wr := by
  conv => arg 2; whnf
  refine region_inv (by kernel_rfl) [[], [0], [1], [2], [3], [4, 3], [3], [5, 6, 3], [3, 7], [8, 3], [9], [10, 9], [11, 9], [9, 12], [13, 9], [14], [15, 14], [14], [16, 17, 14], [14, 18], [19, 14], [20], [21, 20], [20], [23, 20], [22, 24, 20], [20, 25], [26, 20], [27], [28, 27], [27], [30, 27], [29, 31, 27], [27, 32], [33, 27], [34], [35, 34], [34], [37, 34], [36, 38, 34], [39, 34], [34], [41, 34], [40, 42, 34], [43, 34], [44, 34], [34, 45], [46, 34], [47], [48, 47], [49, 47, 47], [50], [50], [52, 50], [51, 53, 50], [54, 50], [55, 50], [50], [57, 50], [56, 58, 50], [50, 59, 47], [47, 60]] (by kernel_rfl) [0, 1, 2, 3, 4, 5, 6, 7, 8, 9, 10, 11, 12, 13, 14, 15, 16, 17, 18, 19, 20, 21, 22, 23, 24, 25, 26, 27, 28, 29, 30, 31, 32, 33, 34, 35, 36, 37, 38, 39, 40, 41, 42, 43, 44, 45, 46, 47, 48, 49, 50, 51, 52, 53, 54, 55, 56, 57, 58, 59, 60, 61] (by decide +kernel) (by decide +kernel) (by decide +kernel) (fun L a wc => Inv hop_5_dsts [.pointer (some ⟨X, 0, none⟩), .int .i64 ff, .bool false, .bool false, .pointer (some ⟨X, 0, none⟩), .int .i64 ff, .int .i64 (n : Nat), .bool false, .bool false, .bool false, .pointer (some ⟨X, 1, none⟩), .int .i64 tt, .bool false, .bool false, .bool false, .pointer (some ⟨X, 1, none⟩), .int .i64 tt, .int .i64 (n : Nat), .bool false, .bool false, .bool false, .pointer (some ⟨X, 0, none⟩), .int .i64 ff, .pointer (some ⟨X, 1, none⟩), .int .i64 tt, .bool false, .bool false, .bool false, .pointer (some ⟨X, 0, none⟩), .int .i64 ff, .pointer (some ⟨B, 2, none⟩), .int .i64 g, .bool true, .bool true, .bool true, undef, undef, undef, undef, undef, undef, undef, undef, undef, undef, undef, .bool true, .bool true, undef, undef, undef, undef, undef, undef, undef, undef, undef, undef, undef, undef, undef, .bool true] ⟨#[c0, c1, .pointer (some ⟨B, 0, none⟩), c3, c4, .int .i64 (n : Nat), c6, c7, .pointer (some ⟨X, 0, none⟩), c9, c10, c11, c12, c13, c14, c15, c16, c17, c18, c19, c20, c21, c22, c23, c24, c25, c26, c27, c28, c29, c30, c31, c32, c33, c34, c35, c36, c37, c38, c39, c40, c41, c42, c43, c44, c45, c46, c47, c48, c49, c50, c51, c52, c53, c54, c55, c56, c57, c58, c59, c60, c61, c62, c63, c64, c65, c66, c67, c68, c69, c70, c71, c72, c73, c74, c75, c76, c77, c78, c79, c80, c81, c82, c83, c84, c85, c86, c87, c88, c89, c90, c91, c92, c93, c94, c95, c96, c97, c98, c99, c100, c101, c102, c103, c104, c105, c106, c107, c108, c109, c110, c111, c112, c113, c114, c115, c116, c117, c118, c119, c120, c121, c122, c123, c124, c125, c126, c127, c128, c129, c130, c131, c132, c133, c134, c135, c136, c137, c138, c139, c140], df⟩ L a ∧ Hid (Ext wr wc)) ⟨Inv.start, Lib.hid ((Ext.refl wr).drew)⟩ ?_ ?_
  · refine ⟨?_, ?_, ?_, ?_, ?_, ?_, ?_, ?_, ?_, ?_, ?_, ?_, ?_, ?_, ?_, ?_, ?_, ?_, ?_, ?_, ?_, ?_, ?_, ?_, ?_, ?_, ?_, ?_, ?_, ?_, ?_, ?_, ?_, ?_, ?_, ?_, ?_, ?_, ?_, ?_, ?_, ?_, ?_, ?_, ?_, ?_, ?_, ?_, ?_, ?_, ?_, ?_, ?_, ?_, ?_, ?_, ?_, ?_, ?_, ?_, ?_, ?_, trivial⟩
    · -- 0 field
      rintro L a wc ⟨hv, HO⟩ hL hc hd
      exact wpOp_val rfl rfl (ex_field rfl ((hv.fixed 8 (by decide)).trans rfl) (by go_simp)) ⟨hv.put hop_5_apart 0 rfl (Nat.le_of_ble_eq_true rfl) (Nat.le_of_ble_eq_true rfl) rfl, HO⟩
    · -- 1 load
      rintro L a wc ⟨hv, HO⟩ hL hc hd
      have x0' : wc.cell? ⟨X, 0, none⟩ = some (.int .i64 ff) := HO.out.cell x0
      exact wpOp_val rfl rfl (ex_load rfl (hv.get 0 rfl rfl (hd 0 (by decide))) (by go_simp)) ⟨hv.put hop_5_apart 1 rfl (Nat.le_of_ble_eq_true rfl) (Nat.le_of_ble_eq_true rfl) rfl, HO⟩
    · -- 2 bin
      rintro L a wc ⟨hv, HO⟩ hL hc hd
      exact wpOp_val rfl rfl (ex_bin rfl (hv.get 1 rfl rfl (hd 1 (by decide))) rfl (by go_simp)) ⟨hv.put hop_5_apart 2 rfl (Nat.le_of_ble_eq_true rfl) (Nat.le_of_ble_eq_true rfl) rfl, HO⟩
    · -- 3 move
      rintro L a wc ⟨hv, HO⟩ hL hc hd
      exact wpOp_val rfl rfl (ex_move rfl (hv.get 2 rfl rfl (hd 2 (by decide)))) ⟨hv.put hop_5_apart 3 rfl (Nat.le_of_ble_eq_true rfl) (Nat.le_of_ble_eq_true rfl) rfl, HO⟩
    · -- 4 field
      rintro L a wc ⟨hv, HO⟩ hL hc hd
      exact wpOp_val rfl ((wanted_at rfl rfl (hv.get 3 rfl rfl (hd 3 (by decide)))).trans rfl) (ex_field rfl ((hv.fixed 8 (by decide)).trans rfl) (by go_simp)) ⟨hv.put hop_5_apart 4 rfl (Nat.le_of_ble_eq_true rfl) (Nat.le_of_ble_eq_true rfl) rfl, HO⟩
    · -- 5 load
      rintro L a wc ⟨hv, HO⟩ hL hc hd
      have x0' : wc.cell? ⟨X, 0, none⟩ = some (.int .i64 ff) := HO.out.cell x0
      exact wpOp_val rfl ((wanted_at rfl rfl (hv.get 3 rfl rfl (hd 3 (by decide)))).trans rfl) (ex_load rfl (hv.get 4 rfl rfl (hd 4 (by decide))) (by go_simp)) ⟨hv.put hop_5_apart 5 rfl (Nat.le_of_ble_eq_true rfl) (Nat.le_of_ble_eq_true rfl) rfl, HO⟩
    · -- 6 move
      rintro L a wc ⟨hv, HO⟩ hL hc hd
      exact wpOp_val rfl ((wanted_at rfl rfl (hv.get 3 rfl rfl (hd 3 (by decide)))).trans rfl) (ex_move rfl ((hv.fixed 5 (by decide)).trans rfl)) ⟨hv.put hop_5_apart 6 rfl (Nat.le_of_ble_eq_true rfl) (Nat.le_of_ble_eq_true rfl) rfl, HO⟩
    · -- 7 bin
      rintro L a wc ⟨hv, HO⟩ hL hc hd
      exact wpOp_val rfl ((wanted_at rfl rfl (hv.get 3 rfl rfl (hd 3 (by decide)))).trans rfl) (ex_bin rfl (hv.get 5 rfl rfl (hd 5 (by decide))) (hv.get 6 rfl rfl (hd 6 (by decide))) (by go_simp)) ⟨hv.put hop_5_apart 7 rfl (Nat.le_of_ble_eq_true rfl) (Nat.le_of_ble_eq_true rfl) rfl, HO⟩
    · -- 8 pick
      rintro L a wc ⟨hv, HO⟩ hL hc hd
      exact wpOp_val rfl rfl (ex_pick rfl (hv.get 3 rfl rfl (hd 3 (by decide))) ((if_neg (by simp)).trans (hv.get 7 rfl rfl (hd 7 (by decide))))) ⟨hv.put hop_5_apart 8 rfl (Nat.le_of_ble_eq_true rfl) (Nat.le_of_ble_eq_true rfl) rfl, HO⟩
    · -- 9 move
      rintro L a wc ⟨hv, HO⟩ hL hc hd
      exact wpOp_val rfl rfl (ex_move rfl (hv.get 8 rfl rfl (hd 8 (by decide)))) ⟨hv.put hop_5_apart 9 rfl (Nat.le_of_ble_eq_true rfl) (Nat.le_of_ble_eq_true rfl) rfl, HO⟩
    · -- 10 field
      rintro L a wc ⟨hv, HO⟩ hL hc hd
      exact wpOp_val rfl ((wanted_at rfl rfl (hv.get 9 rfl rfl (hd 9 (by decide)))).trans rfl) (ex_field rfl ((hv.fixed 8 (by decide)).trans rfl) (by go_simp)) ⟨hv.put hop_5_apart 10 rfl (Nat.le_of_ble_eq_true rfl) (Nat.le_of_ble_eq_true rfl) rfl, HO⟩
    · -- 11 load
      rintro L a wc ⟨hv, HO⟩ hL hc hd
      have x1' : wc.cell? ⟨X, 1, none⟩ = some (.int .i64 tt) := HO.out.cell x1
      exact wpOp_val rfl ((wanted_at rfl rfl (hv.get 9 rfl rfl (hd 9 (by decide)))).trans rfl) (ex_load rfl (hv.get 10 rfl rfl (hd 10 (by decide))) (by go_simp)) ⟨hv.put hop_5_apart 11 rfl (Nat.le_of_ble_eq_true rfl) (Nat.le_of_ble_eq_true rfl) rfl, HO⟩
    · -- 12 bin
      rintro L a wc ⟨hv, HO⟩ hL hc hd
      exact wpOp_val rfl ((wanted_at rfl rfl (hv.get 9 rfl rfl (hd 9 (by decide)))).trans rfl) (ex_bin rfl (hv.get 11 rfl rfl (hd 11 (by decide))) rfl (by go_simp)) ⟨hv.put hop_5_apart 12 rfl (Nat.le_of_ble_eq_true rfl) (Nat.le_of_ble_eq_true rfl) rfl, HO⟩
    · -- 13 pick
      rintro L a wc ⟨hv, HO⟩ hL hc hd
      exact wpOp_val rfl rfl (ex_pick rfl (hv.get 9 rfl rfl (hd 9 (by decide))) ((if_neg (by simp)).trans (hv.get 12 rfl rfl (hd 12 (by decide))))) ⟨hv.put hop_5_apart 13 rfl (Nat.le_of_ble_eq_true rfl) (Nat.le_of_ble_eq_true rfl) rfl, HO⟩
    · -- 14 move
      rintro L a wc ⟨hv, HO⟩ hL hc hd
      exact wpOp_val rfl rfl (ex_move rfl (hv.get 13 rfl rfl (hd 13 (by decide)))) ⟨hv.put hop_5_apart 14 rfl (Nat.le_of_ble_eq_true rfl) (Nat.le_of_ble_eq_true rfl) rfl, HO⟩
    · -- 15 field
      rintro L a wc ⟨hv, HO⟩ hL hc hd
      exact wpOp_val rfl ((wanted_at rfl rfl (hv.get 14 rfl rfl (hd 14 (by decide)))).trans rfl) (ex_field rfl ((hv.fixed 8 (by decide)).trans rfl) (by go_simp)) ⟨hv.put hop_5_apart 15 rfl (Nat.le_of_ble_eq_true rfl) (Nat.le_of_ble_eq_true rfl) rfl, HO⟩
    · -- 16 load
      rintro L a wc ⟨hv, HO⟩ hL hc hd
      have x1' : wc.cell? ⟨X, 1, none⟩ = some (.int .i64 tt) := HO.out.cell x1
      exact wpOp_val rfl ((wanted_at rfl rfl (hv.get 14 rfl rfl (hd 14 (by decide)))).trans rfl) (ex_load rfl (hv.get 15 rfl rfl (hd 15 (by decide))) (by go_simp)) ⟨hv.put hop_5_apart 16 rfl (Nat.le_of_ble_eq_true rfl) (Nat.le_of_ble_eq_true rfl) rfl, HO⟩
    · -- 17 move
      rintro L a wc ⟨hv, HO⟩ hL hc hd
      exact wpOp_val rfl ((wanted_at rfl rfl (hv.get 14 rfl rfl (hd 14 (by decide)))).trans rfl) (ex_move rfl ((hv.fixed 5 (by decide)).trans rfl)) ⟨hv.put hop_5_apart 17 rfl (Nat.le_of_ble_eq_true rfl) (Nat.le_of_ble_eq_true rfl) rfl, HO⟩
    · -- 18 bin
      rintro L a wc ⟨hv, HO⟩ hL hc hd
      exact wpOp_val rfl ((wanted_at rfl rfl (hv.get 14 rfl rfl (hd 14 (by decide)))).trans rfl) (ex_bin rfl (hv.get 16 rfl rfl (hd 16 (by decide))) (hv.get 17 rfl rfl (hd 17 (by decide))) (by go_simp)) ⟨hv.put hop_5_apart 18 rfl (Nat.le_of_ble_eq_true rfl) (Nat.le_of_ble_eq_true rfl) rfl, HO⟩
    · -- 19 pick
      rintro L a wc ⟨hv, HO⟩ hL hc hd
      exact wpOp_val rfl rfl (ex_pick rfl (hv.get 14 rfl rfl (hd 14 (by decide))) ((if_neg (by simp)).trans (hv.get 18 rfl rfl (hd 18 (by decide))))) ⟨hv.put hop_5_apart 19 rfl (Nat.le_of_ble_eq_true rfl) (Nat.le_of_ble_eq_true rfl) rfl, HO⟩
    · -- 20 move
      rintro L a wc ⟨hv, HO⟩ hL hc hd
      exact wpOp_val rfl rfl (ex_move rfl (hv.get 19 rfl rfl (hd 19 (by decide)))) ⟨hv.put hop_5_apart 20 rfl (Nat.le_of_ble_eq_true rfl) (Nat.le_of_ble_eq_true rfl) rfl, HO⟩
    · -- 21 field
      rintro L a wc ⟨hv, HO⟩ hL hc hd
      exact wpOp_val rfl ((wanted_at rfl rfl (hv.get 20 rfl rfl (hd 20 (by decide)))).trans rfl) (ex_field rfl ((hv.fixed 8 (by decide)).trans rfl) (by go_simp)) ⟨hv.put hop_5_apart 21 rfl (Nat.le_of_ble_eq_true rfl) (Nat.le_of_ble_eq_true rfl) rfl, HO⟩
    · -- 22 load
      rintro L a wc ⟨hv, HO⟩ hL hc hd
      have x0' : wc.cell? ⟨X, 0, none⟩ = some (.int .i64 ff) := HO.out.cell x0
      exact wpOp_val rfl ((wanted_at rfl rfl (hv.get 20 rfl rfl (hd 20 (by decide)))).trans rfl) (ex_load rfl (hv.get 21 rfl rfl (hd 21 (by decide))) (by go_simp)) ⟨hv.put hop_5_apart 22 rfl (Nat.le_of_ble_eq_true rfl) (Nat.le_of_ble_eq_true rfl) rfl, HO⟩
    · -- 23 field
      rintro L a wc ⟨hv, HO⟩ hL hc hd
      exact wpOp_val rfl ((wanted_at rfl rfl (hv.get 20 rfl rfl (hd 20 (by decide)))).trans rfl) (ex_field rfl ((hv.fixed 8 (by decide)).trans rfl) (by go_simp)) ⟨hv.put hop_5_apart 23 rfl (Nat.le_of_ble_eq_true rfl) (Nat.le_of_ble_eq_true rfl) rfl, HO⟩
    · -- 24 load
      rintro L a wc ⟨hv, HO⟩ hL hc hd
      have x1' : wc.cell? ⟨X, 1, none⟩ = some (.int .i64 tt) := HO.out.cell x1
      exact wpOp_val rfl ((wanted_at rfl rfl (hv.get 20 rfl rfl (hd 20 (by decide)))).trans rfl) (ex_load rfl (hv.get 23 rfl rfl (hd 23 (by decide))) (by go_simp)) ⟨hv.put hop_5_apart 24 rfl (Nat.le_of_ble_eq_true rfl) (Nat.le_of_ble_eq_true rfl) rfl, HO⟩
    · -- 25 bin
      rintro L a wc ⟨hv, HO⟩ hL hc hd
      exact wpOp_val rfl ((wanted_at rfl rfl (hv.get 20 rfl rfl (hd 20 (by decide)))).trans rfl) (ex_bin rfl (hv.get 22 rfl rfl (hd 22 (by decide))) (hv.get 24 rfl rfl (hd 24 (by decide))) (by go_simp)) ⟨hv.put hop_5_apart 25 rfl (Nat.le_of_ble_eq_true rfl) (Nat.le_of_ble_eq_true rfl) rfl, HO⟩
    · -- 26 pick
      rintro L a wc ⟨hv, HO⟩ hL hc hd
      exact wpOp_val rfl rfl (ex_pick rfl (hv.get 20 rfl rfl (hd 20 (by decide))) ((if_neg (by simp)).trans (hv.get 25 rfl rfl (hd 25 (by decide))))) ⟨hv.put hop_5_apart 26 rfl (Nat.le_of_ble_eq_true rfl) (Nat.le_of_ble_eq_true rfl) rfl, HO⟩
    · -- 27 move
      rintro L a wc ⟨hv, HO⟩ hL hc hd
      exact wpOp_val rfl rfl (ex_move rfl (hv.get 26 rfl rfl (hd 26 (by decide)))) ⟨hv.put hop_5_apart 27 rfl (Nat.le_of_ble_eq_true rfl) (Nat.le_of_ble_eq_true rfl) rfl, HO⟩
    · -- 28 field
      rintro L a wc ⟨hv, HO⟩ hL hc hd
      exact wpOp_val rfl ((wanted_at rfl rfl (hv.get 27 rfl rfl (hd 27 (by decide)))).trans rfl) (ex_field rfl ((hv.fixed 8 (by decide)).trans rfl) (by go_simp)) ⟨hv.put hop_5_apart 28 rfl (Nat.le_of_ble_eq_true rfl) (Nat.le_of_ble_eq_true rfl) rfl, HO⟩
    · -- 29 load
      rintro L a wc ⟨hv, HO⟩ hL hc hd
      have x0' : wc.cell? ⟨X, 0, none⟩ = some (.int .i64 ff) := HO.out.cell x0
      exact wpOp_val rfl ((wanted_at rfl rfl (hv.get 27 rfl rfl (hd 27 (by decide)))).trans rfl) (ex_load rfl (hv.get 28 rfl rfl (hd 28 (by decide))) (by go_simp)) ⟨hv.put hop_5_apart 29 rfl (Nat.le_of_ble_eq_true rfl) (Nat.le_of_ble_eq_true rfl) rfl, HO⟩
    · -- 30 field
      rintro L a wc ⟨hv, HO⟩ hL hc hd
      exact wpOp_val rfl ((wanted_at rfl rfl (hv.get 27 rfl rfl (hd 27 (by decide)))).trans rfl) (ex_field rfl ((hv.fixed 2 (by decide)).trans rfl) (by go_simp)) ⟨hv.put hop_5_apart 30 rfl (Nat.le_of_ble_eq_true rfl) (Nat.le_of_ble_eq_true rfl) rfl, HO⟩
    · -- 31 load
      rintro L a wc ⟨hv, HO⟩ hL hc hd
      have h2' : wc.cell? ⟨B, 2, none⟩ = some (.int .i64 g) := HO.out.cell h2
      exact wpOp_val rfl ((wanted_at rfl rfl (hv.get 27 rfl rfl (hd 27 (by decide)))).trans rfl) (ex_load rfl (hv.get 30 rfl rfl (hd 30 (by decide))) (by go_simp)) ⟨hv.put hop_5_apart 31 rfl (Nat.le_of_ble_eq_true rfl) (Nat.le_of_ble_eq_true rfl) rfl, HO⟩
    · -- 32 bin
      rintro L a wc ⟨hv, HO⟩ hL hc hd
      exact wpOp_val rfl ((wanted_at rfl rfl (hv.get 27 rfl rfl (hd 27 (by decide)))).trans rfl) (ex_bin rfl (hv.get 29 rfl rfl (hd 29 (by decide))) (hv.get 31 rfl rfl (hd 31 (by decide))) (by go_simp)) ⟨hv.put hop_5_apart 32 rfl (Nat.le_of_ble_eq_true rfl) (Nat.le_of_ble_eq_true rfl) rfl, HO⟩
    · -- 33 pick
      rintro L a wc ⟨hv, HO⟩ hL hc hd
      exact wpOp_val rfl rfl (ex_pick rfl (hv.get 27 rfl rfl (hd 27 (by decide))) ((if_neg (by simp)).trans (hv.get 32 rfl rfl (hd 32 (by decide))))) ⟨hv.put hop_5_apart 33 rfl (Nat.le_of_ble_eq_true rfl) (Nat.le_of_ble_eq_true rfl) rfl, HO⟩
    · -- 34 move
      rintro L a wc ⟨hv, HO⟩ hL hc hd
      exact wpOp_val rfl rfl (ex_move rfl (hv.get 33 rfl rfl (hd 33 (by decide)))) ⟨hv.put hop_5_apart 34 rfl (Nat.le_of_ble_eq_true rfl) (Nat.le_of_ble_eq_true rfl) rfl, HO⟩
    · -- 35 off
      rintro L a wc ⟨hv, HO⟩ hL hc hd
      exact wpOp_off rfl ((wanted_at rfl rfl (hv.get 34 rfl rfl (hd 34 (by decide)))).trans rfl) ⟨hv.put hop_5_apart 35 rfl (Nat.le_of_ble_eq_true rfl) (Nat.le_of_ble_eq_true rfl) rfl, HO⟩
    · -- 36 off
      rintro L a wc ⟨hv, HO⟩ hL hc hd
      exact wpOp_off rfl ((wanted_at rfl rfl (hv.get 34 rfl rfl (hd 34 (by decide)))).trans rfl) ⟨hv.put hop_5_apart 36 rfl (Nat.le_of_ble_eq_true rfl) (Nat.le_of_ble_eq_true rfl) rfl, HO⟩
    · -- 37 off
      rintro L a wc ⟨hv, HO⟩ hL hc hd
      exact wpOp_off rfl ((wanted_at rfl rfl (hv.get 34 rfl rfl (hd 34 (by decide)))).trans rfl) ⟨hv.put hop_5_apart 37 rfl (Nat.le_of_ble_eq_true rfl) (Nat.le_of_ble_eq_true rfl) rfl, HO⟩
    · -- 38 off
      rintro L a wc ⟨hv, HO⟩ hL hc hd
      exact wpOp_off rfl ((wanted_at rfl rfl (hv.get 34 rfl rfl (hd 34 (by decide)))).trans rfl) ⟨hv.put hop_5_apart 38 rfl (Nat.le_of_ble_eq_true rfl) (Nat.le_of_ble_eq_true rfl) rfl, HO⟩
    · -- 39 off
      rintro L a wc ⟨hv, HO⟩ hL hc hd
      exact wpOp_off rfl ((wanted_at rfl rfl (hv.get 34 rfl rfl (hd 34 (by decide)))).trans rfl) ⟨hv.put hop_5_apart 39 rfl (Nat.le_of_ble_eq_true rfl) (Nat.le_of_ble_eq_true rfl) rfl, HO⟩
    · -- 40 off
      rintro L a wc ⟨hv, HO⟩ hL hc hd
      exact wpOp_off rfl ((wanted_at rfl rfl (hv.get 34 rfl rfl (hd 34 (by decide)))).trans rfl) ⟨hv.put hop_5_apart 40 rfl (Nat.le_of_ble_eq_true rfl) (Nat.le_of_ble_eq_true rfl) rfl, HO⟩
    · -- 41 off
      rintro L a wc ⟨hv, HO⟩ hL hc hd
      exact wpOp_off rfl ((wanted_at rfl rfl (hv.get 34 rfl rfl (hd 34 (by decide)))).trans rfl) ⟨hv.put hop_5_apart 41 rfl (Nat.le_of_ble_eq_true rfl) (Nat.le_of_ble_eq_true rfl) rfl, HO⟩
    · -- 42 off
      rintro L a wc ⟨hv, HO⟩ hL hc hd
      exact wpOp_off rfl ((wanted_at rfl rfl (hv.get 34 rfl rfl (hd 34 (by decide)))).trans rfl) ⟨hv.put hop_5_apart 42 rfl (Nat.le_of_ble_eq_true rfl) (Nat.le_of_ble_eq_true rfl) rfl, HO⟩
    · -- 43 off
      rintro L a wc ⟨hv, HO⟩ hL hc hd
      exact wpOp_off rfl ((wanted_at rfl rfl (hv.get 34 rfl rfl (hd 34 (by decide)))).trans rfl) ⟨hv.put hop_5_apart 43 rfl (Nat.le_of_ble_eq_true rfl) (Nat.le_of_ble_eq_true rfl) rfl, HO⟩
    · -- 44 off
      rintro L a wc ⟨hv, HO⟩ hL hc hd
      exact wpOp_off rfl ((wanted_at rfl rfl (hv.get 34 rfl rfl (hd 34 (by decide)))).trans rfl) ⟨hv.put hop_5_apart 44 rfl (Nat.le_of_ble_eq_true rfl) (Nat.le_of_ble_eq_true rfl) rfl, HO⟩
    · -- 45 off
      rintro L a wc ⟨hv, HO⟩ hL hc hd
      exact wpOp_off rfl ((wanted_at rfl rfl (hv.get 34 rfl rfl (hd 34 (by decide)))).trans rfl) ⟨hv.put hop_5_apart 45 rfl (Nat.le_of_ble_eq_true rfl) (Nat.le_of_ble_eq_true rfl) rfl, HO⟩
    · -- 46 pick
      rintro L a wc ⟨hv, HO⟩ hL hc hd
      exact wpOp_val rfl rfl (ex_pick rfl (hv.get 34 rfl rfl (hd 34 (by decide))) rfl) ⟨hv.put hop_5_apart 46 rfl (Nat.le_of_ble_eq_true rfl) (Nat.le_of_ble_eq_true rfl) rfl, HO⟩
    · -- 47 move
      rintro L a wc ⟨hv, HO⟩ hL hc hd
      exact wpOp_val rfl rfl (ex_move rfl (hv.get 46 rfl rfl (hd 46 (by decide)))) ⟨hv.put hop_5_apart 47 rfl (Nat.le_of_ble_eq_true rfl) (Nat.le_of_ble_eq_true rfl) rfl, HO⟩
    · -- 48 off
      rintro L a wc ⟨hv, HO⟩ hL hc hd
      exact wpOp_off rfl ((wanted_at rfl rfl (hv.get 47 rfl rfl (hd 47 (by decide)))).trans rfl) ⟨hv.put hop_5_apart 48 rfl (Nat.le_of_ble_eq_true rfl) (Nat.le_of_ble_eq_true rfl) rfl, HO⟩
    · -- 49 off
      rintro L a wc ⟨hv, HO⟩ hL hc hd
      exact wpOp_off rfl ((wanted_at rfl rfl (hv.get 47 rfl rfl (hd 47 (by decide)))).trans rfl) ⟨hv.put hop_5_apart 49 rfl (Nat.le_of_ble_eq_true rfl) (Nat.le_of_ble_eq_true rfl) rfl, HO⟩
    · -- 50 off
      rintro L a wc ⟨hv, HO⟩ hL hc hd
      exact wpOp_off rfl ((wanted_at rfl rfl (hv.get 47 rfl rfl (hd 47 (by decide)))).trans rfl) ⟨hv.put hop_5_apart 50 rfl (Nat.le_of_ble_eq_true rfl) (Nat.le_of_ble_eq_true rfl) rfl, HO⟩
    · -- 51 off
      rintro L a wc ⟨hv, HO⟩ hL hc hd
      exact wpOp_off rfl (wanted_undef rfl rfl (hv.get 50 rfl rfl (hd 50 (by decide)))) ⟨hv.put hop_5_apart 51 rfl (Nat.le_of_ble_eq_true rfl) (Nat.le_of_ble_eq_true rfl) rfl, HO⟩
    · -- 52 off
      rintro L a wc ⟨hv, HO⟩ hL hc hd
      exact wpOp_off rfl (wanted_undef rfl rfl (hv.get 50 rfl rfl (hd 50 (by decide)))) ⟨hv.put hop_5_apart 52 rfl (Nat.le_of_ble_eq_true rfl) (Nat.le_of_ble_eq_true rfl) rfl, HO⟩
    · -- 53 off
      rintro L a wc ⟨hv, HO⟩ hL hc hd
      exact wpOp_off rfl (wanted_undef rfl rfl (hv.get 50 rfl rfl (hd 50 (by decide)))) ⟨hv.put hop_5_apart 53 rfl (Nat.le_of_ble_eq_true rfl) (Nat.le_of_ble_eq_true rfl) rfl, HO⟩
    · -- 54 off
      rintro L a wc ⟨hv, HO⟩ hL hc hd
      exact wpOp_off rfl (wanted_undef rfl rfl (hv.get 50 rfl rfl (hd 50 (by decide)))) ⟨hv.put hop_5_apart 54 rfl (Nat.le_of_ble_eq_true rfl) (Nat.le_of_ble_eq_true rfl) rfl, HO⟩
    · -- 55 off
      rintro L a wc ⟨hv, HO⟩ hL hc hd
      exact wpOp_off rfl (wanted_undef rfl rfl (hv.get 50 rfl rfl (hd 50 (by decide)))) ⟨hv.put hop_5_apart 55 rfl (Nat.le_of_ble_eq_true rfl) (Nat.le_of_ble_eq_true rfl) rfl, HO⟩
    · -- 56 off
      rintro L a wc ⟨hv, HO⟩ hL hc hd
      exact wpOp_off rfl (wanted_undef rfl rfl (hv.get 50 rfl rfl (hd 50 (by decide)))) ⟨hv.put hop_5_apart 56 rfl (Nat.le_of_ble_eq_true rfl) (Nat.le_of_ble_eq_true rfl) rfl, HO⟩
    · -- 57 off
      rintro L a wc ⟨hv, HO⟩ hL hc hd
      exact wpOp_off rfl (wanted_undef rfl rfl (hv.get 50 rfl rfl (hd 50 (by decide)))) ⟨hv.put hop_5_apart 57 rfl (Nat.le_of_ble_eq_true rfl) (Nat.le_of_ble_eq_true rfl) rfl, HO⟩
    · -- 58 off
      rintro L a wc ⟨hv, HO⟩ hL hc hd
      exact wpOp_off rfl (wanted_undef rfl rfl (hv.get 50 rfl rfl (hd 50 (by decide)))) ⟨hv.put hop_5_apart 58 rfl (Nat.le_of_ble_eq_true rfl) (Nat.le_of_ble_eq_true rfl) rfl, HO⟩
    · -- 59 off
      rintro L a wc ⟨hv, HO⟩ hL hc hd
      exact wpOp_off rfl (wanted_undef rfl rfl (hv.get 50 rfl rfl (hd 50 (by decide)))) ⟨hv.put hop_5_apart 59 rfl (Nat.le_of_ble_eq_true rfl) (Nat.le_of_ble_eq_true rfl) rfl, HO⟩
    · -- 60 off
      rintro L a wc ⟨hv, HO⟩ hL hc hd
      exact wpOp_off rfl ((wanted_at rfl rfl (hv.get 47 rfl rfl (hd 47 (by decide)))).trans rfl) ⟨hv.put hop_5_apart 60 rfl (Nat.le_of_ble_eq_true rfl) (Nat.le_of_ble_eq_true rfl) rfl, HO⟩
    · -- 61 pick
      rintro L a wc ⟨hv, HO⟩ hL hc hd
      exact wpOp_val rfl rfl (ex_pick rfl (hv.get 47 rfl rfl (hd 47 (by decide))) rfl) ⟨hv.put hop_5_apart 61 rfl (Nat.le_of_ble_eq_true rfl) (Nat.le_of_ble_eq_true rfl) rfl, HO⟩
  · rintro L a wc ⟨hv, HO⟩ hall
    show K a wc
    have ha := act_lit a
    rw [hv.size, hv.defers] at ha
    have hl : ∀ f : Nat → Value, ((List.range (⟨#[c0, c1, .pointer (some ⟨B, 0, none⟩), c3, c4, .int .i64 (n : Nat), c6, c7, .pointer (some ⟨X, 0, none⟩), c9, c10, c11, c12, c13, c14, c15, c16, c17, c18, c19, c20, c21, c22, c23, c24, c25, c26, c27, c28, c29, c30, c31, c32, c33, c34, c35, c36, c37, c38, c39, c40, c41, c42, c43, c44, c45, c46, c47, c48, c49, c50, c51, c52, c53, c54, c55, c56, c57, c58, c59, c60, c61, c62, c63, c64, c65, c66, c67, c68, c69, c70, c71, c72, c73, c74, c75, c76, c77, c78, c79, c80, c81, c82, c83, c84, c85, c86, c87, c88, c89, c90, c91, c92, c93, c94, c95, c96, c97, c98, c99, c100, c101, c102, c103, c104, c105, c106, c107, c108, c109, c110, c111, c112, c113, c114, c115, c116, c117, c118, c119, c120, c121, c122, c123, c124, c125, c126, c127, c128, c129, c130, c131, c132, c133, c134, c135, c136, c137, c138, c139, c140], df⟩ : Act).tmps.size).map f).toArray = #[f 0, f 1, f 2, f 3, f 4, f 5, f 6, f 7, f 8, f 9, f 10, f 11, f 12, f 13, f 14, f 15, f 16, f 17, f 18, f 19, f 20, f 21, f 22, f 23, f 24, f 25, f 26, f 27, f 28, f 29, f 30, f 31, f 32, f 33, f 34, f 35, f 36, f 37, f 38, f 39, f 40, f 41, f 42, f 43, f 44, f 45, f 46, f 47, f 48, f 49, f 50, f 51, f 52, f 53, f 54, f 55, f 56, f 57, f 58, f 59, f 60, f 61, f 62, f 63, f 64, f 65, f 66, f 67, f 68, f 69, f 70, f 71, f 72, f 73, f 74, f 75, f 76, f 77, f 78, f 79, f 80, f 81, f 82, f 83, f 84, f 85, f 86, f 87, f 88, f 89, f 90, f 91, f 92, f 93, f 94, f 95, f 96, f 97, f 98, f 99, f 100, f 101, f 102, f 103, f 104, f 105, f 106, f 107, f 108, f 109, f 110, f 111, f 112, f 113, f 114, f 115, f 116, f 117, f 118, f 119, f 120, f 121, f 122, f 123, f 124, f 125, f 126, f 127, f 128, f 129, f 130, f 131, f 132, f 133, f 134, f 135, f 136, f 137, f 138, f 139, f 140] := fun _ => rfl
    rw [hl] at ha
    simp only [hv.fixed 0 (by decide), hv.fixed 1 (by decide), hv.fixed 2 (by decide), hv.fixed 3 (by decide), hv.fixed 4 (by decide), hv.fixed 5 (by decide), hv.fixed 6 (by decide), hv.fixed 7 (by decide), hv.fixed 8 (by decide), hv.fixed 9 (by decide), hv.fixed 10 (by decide), hv.fixed 11 (by decide), hv.fixed 12 (by decide), hv.fixed 13 (by decide), hv.fixed 14 (by decide), hv.fixed 15 (by decide), hv.fixed 16 (by decide), hv.fixed 17 (by decide), hv.fixed 18 (by decide), hv.fixed 19 (by decide), hv.fixed 20 (by decide), hv.fixed 21 (by decide), hv.fixed 22 (by decide), hv.fixed 23 (by decide), hv.fixed 24 (by decide), hv.fixed 25 (by decide), hv.fixed 26 (by decide), hv.fixed 27 (by decide), hv.fixed 28 (by decide), hv.fixed 29 (by decide), hv.fixed 30 (by decide), hv.fixed 31 (by decide), hv.fixed 94 (by decide), hv.fixed 95 (by decide), hv.fixed 96 (by decide), hv.fixed 97 (by decide), hv.fixed 98 (by decide), hv.fixed 99 (by decide), hv.fixed 100 (by decide), hv.fixed 101 (by decide), hv.fixed 102 (by decide), hv.fixed 103 (by decide), hv.fixed 104 (by decide), hv.fixed 105 (by decide), hv.fixed 106 (by decide), hv.fixed 107 (by decide), hv.fixed 108 (by decide), hv.fixed 109 (by decide), hv.fixed 110 (by decide), hv.fixed 111 (by decide), hv.fixed 112 (by decide), hv.fixed 113 (by decide), hv.fixed 114 (by decide), hv.fixed 115 (by decide), hv.fixed 116 (by decide), hv.fixed 117 (by decide), hv.fixed 118 (by decide), hv.fixed 119 (by decide), hv.fixed 120 (by decide), hv.fixed 121 (by decide), hv.fixed 122 (by decide), hv.fixed 123 (by decide), hv.fixed 124 (by decide), hv.fixed 125 (by decide), hv.fixed 126 (by decide), hv.fixed 127 (by decide), hv.fixed 128 (by decide), hv.fixed 129 (by decide), hv.fixed 130 (by decide), hv.fixed 131 (by decide), hv.fixed 132 (by decide), hv.fixed 133 (by decide), hv.fixed 134 (by decide), hv.fixed 135 (by decide), hv.fixed 136 (by decide), hv.fixed 137 (by decide), hv.fixed 138 (by decide), hv.fixed 139 (by decide), hv.fixed 140 (by decide), hv.get 61 (d := 93) rfl rfl (hall 61 (by decide))] at ha
    rw [ha]
    exact hK _ _ _ _ _ _ _ _ _ _ _ _ _ _ _ _ _ _ _ _ _ _ _ _ _ _ _ _ _ _ _ _ _ _ _ _ _ _ _ _ _ _ _ _ _ _ _ _ _ _ _ _ _ _ _ _ _ _ _ _ _ wc HO.out
noncomputable def hop_6_code : Code := ((Tryd.f14.body.bind (regionOf 8)).getD .skip)
def hop_6_dsts : List (Option Nat) := [some 32, some 33, some 34, some 35, some 36, some 37, some 38, some 39, some 40, some 41, some 42, some 43, some 44, some 45, some 46, some 47, some 48, some 49, some 50, some 51, some 52, some 53, some 54, some 55, some 56, some 57, some 58, some 59, some 60, some 61, some 62, some 63, some 64, some 65, some 66, some 67, some 68, some 69, some 70, some 71, some 72, some 73, some 74, some 75, some 76, some 77, some 78, some 79, some 80, some 81, some 82, some 83, some 84, some 85, some 86, some 87, some 88, some 89, some 90, some 91, some 92, some 93]
theorem hop_6_apart : apartD hop_6_dsts = true := by decide +kernel
set_option maxRecDepth 1000000 in
set_option maxHeartbeats 16000000 in
theorem hop_6 (wr : World) (aa bb : Nat) (X n : Nat) (x0 : wr.cell? ⟨X, 0, none⟩ = some (.int .i64 (aa : Int))) (x1 : wr.cell? ⟨X, 1, none⟩ = some (.int .i64 (bb : Int))) (ha : aa < n) (hb : bb < n) (u4 : ((aa : Int) == (bb : Int)) = false) (g : Int) (B : Nat) (h2 : wr.cell? ⟨B, 2, none⟩ = some (.int .i64 g)) (u5 : ((aa : Int) == g) = false) (cA cc : Nat) (ad1 ad2 : Addr) (pp : Int) (h0 : wr.cell? ⟨B, 0, none⟩ = some (.slice (some ad1) n cA)) (g1 : wr.cell? (ad1.add aa) = some (.slice (some ad2) n cc)) (g2 : wr.cell? (ad2.add bb) = some (.int .i64 pp)) (q6 : pp < 0) (c0 c1 c3 c4 c6 c7 c9 c10 c11 c12 c13 c14 c15 c16 c17 c18 c19 c20 c21 c22 c23 c24 c25 c26 c27 c28 c29 c30 c31 c32 c33 c34 c35 c36 c37 c38 c39 c40 c41 c42 c43 c44 c45 c46 c47 c48 c49 c50 c51 c52 c53 c54 c55 c56 c57 c58 c59 c60 c61 c62 c63 c64 c65 c66 c67 c68 c69 c70 c71 c72 c73 c74 c75 c76 c77 c78 c79 c80 c81 c82 c83 c84 c85 c86 c87 c88 c89 c90 c91 c92 c93 c94 c95 c96 c97 c98 c99 c100 c101 c102 c103 c104 c105 c106 c107 c108 c109 c110 c111 c112 c113 c114 c115 c116 c117 c118 c119 c120 c121 c122 c123 c124 c125 c126 c127 c128 c129 c130 c131 c132 c133 c134 c135 c136 c137 c138 c139 c140 : Value) (df : List Deferred) (K : Act → World → Prop)
    (hK : ∀  (u32 u33 u34 u35 u36 u37 u38 u39 u40 u41 u42 u43 u44 u45 u46 u47 u48 u49 u50 u51 u52 u53 u54 u55 u56 u57 u58 u59 u60 u61 u62 u63 u64 u65 u66 u67 u68 u69 u70 u71 u72 u73 u74 u75 u76 u77 u78 u79 u80 u81 u82 u83 u84 u85 u86 u87 u88 u89 u90 u91 u92 : Value) (wx : World), Ext wr wx → K ⟨#[c0, c1, .pointer (some ⟨B, 0, none⟩), c3, c4, .int .i64 (n : Nat), c6, c7, .pointer (some ⟨X, 0, none⟩), c9, c10, c11, c12, c13, c14, c15, c16, c17, c18, c19, c20, c21, c22, c23, c24, c25, c26, c27, c28, c29, c30, c31, u32, u33, u34, u35, u36, u37, u38, u39, u40, u41, u42, u43, u44, u45, u46, u47, u48, u49, u50, u51, u52, u53, u54, u55, u56, u57, u58, u59, u60, u61, u62, u63, u64, u65, u66, u67, u68, u69, u70, u71, u72, u73, u74, u75, u76, u77, u78, u79, u80, u81, u82, u83, u84, u85, u86, u87, u88, u89, u90, u91, u92, .bool true, c94, c95, c96, c97, c98, c99, c100, c101, c102, c103, c104, c105, c106, c107, c108, c109, c110, c111, c112, c113, c114, c115, c116, c117, c118, c119, c120, c121, c122, c123, c124, c125, c126, c127, c128, c129, c130, c131, c132, c133, c134, c135, c136, c137, c138, c139, c140], df⟩ wx) :
    Code.wp Tryd.prog hop_6_code (AtEnd K) ⟨#[c0, c1, .pointer (some ⟨B, 0, none⟩), c3, c4, .int .i64 (n : Nat), c6, c7, .pointer (some ⟨X, 0, none⟩), c9, c10, c11, c12, c13, c14, c15, c16, c17, c18, c19, c20, c21, c22, c23, c24, c25, c26, c27, c28, c29, c30, c31, c32, c33, c34, c35, c36, c37, c38, c39, c40, c41, c42, c43, c44, c45, c46, c47, c48, c49, c50, c51, c52, c53, c54, c55, c56, c57, c58, c59, c60, c61, c62, c63, c64, c65, c66, c67, c68, c69, c70, c71, c72, c73, c74, c75, c76, c77, c78, c79, c80, c81, c82, c83, c84, c85, c86, c87, c88, c89, c90, c91, c92, c93, c94, c95, c96, c97, c98, c99, c100, c101, c102, c103, c104, c105, c106, c107, c108, c109, c110, c111, c112, c113, c114, c115, c116, c117, c118, c119, c120, c121, c122, c123, c124, c125, c126, c127, c128, c129, c130, c131, c132, c133, c134, c135, c136, c137, c138, c139, c140], df⟩ wr := by
  conv => arg 2; whnf
  refine region_inv (by kernel_rfl) [[], [0], [1], [2], [3], [4, 3], [3], [5, 6, 3], [3, 7], [8, 3], [9], [10, 9], [11, 9], [9, 12], [13, 9], [14], [15, 14], [14], [16, 17, 14], [14, 18], [19, 14], [20], [21, 20], [20], [23, 20], [22, 24, 20], [20, 25], [26, 20], [27], [28, 27], [27], [30, 27], [29, 31, 27], [27, 32], [33, 27], [34], [35, 34], [34], [37, 34], [36, 38, 34], [39, 34], [34], [41, 34], [40, 42, 34], [43, 34], [44, 34], [34, 45], [46, 34], [47], [48, 47], [49, 47, 47], [50], [50], [52, 50], [51, 53, 50], [54, 50], [55, 50], [50], [57, 50], [56, 58, 50], [50, 59, 47], [47, 60]] (by kernel_rfl) [0, 1, 2, 3, 4, 5, 6, 7, 8, 9, 10, 11, 12, 13, 14, 15, 16, 17, 18, 19, 20, 21, 22, 23, 24, 25, 26, 27, 28, 29, 30, 31, 32, 33, 34, 35, 36, 37, 38, 39, 40, 41, 42, 43, 44, 45, 46, 47, 48, 49, 50, 51, 52, 53, 54, 55, 56, 57, 58, 59, 60, 61] (by decide +kernel) (by decide +kernel) (by decide +kernel) (fun L a wc => Inv hop_6_dsts [.pointer (some ⟨X, 0, none⟩), .int .i64 (aa : Int), .bool false, .bool false, .pointer (some ⟨X, 0, none⟩), .int .i64 (aa : Int), .int .i64 (n : Nat), .bool false, .bool false, .bool false, .pointer (some ⟨X, 1, none⟩), .int .i64 (bb : Int), .bool false, .bool false, .bool false, .pointer (some ⟨X, 1, none⟩), .int .i64 (bb : Int), .int .i64 (n : Nat), .bool false, .bool false, .bool false, .pointer (some ⟨X, 0, none⟩), .int .i64 (aa : Int), .pointer (some ⟨X, 1, none⟩), .int .i64 (bb : Int), .bool false, .bool false, .bool false, .pointer (some ⟨X, 0, none⟩), .int .i64 (aa : Int), .pointer (some ⟨B, 2, none⟩), .int .i64 g, .bool false, .bool false, .bool false, .pointer (some ⟨B, 0, none⟩), .slice (some ad1) n cA, .pointer (some ⟨X, 0, none⟩), .int .i64 (aa : Int), .pointer (some (ad1.add aa)), .slice (some ad2) n cc, .pointer (some ⟨X, 1, none⟩), .int .i64 (bb : Int), .pointer (some (ad2.add bb)), .int .i64 pp, .bool true, .bool true, .bool true, undef, undef, undef, undef, undef, undef, undef, undef, undef, undef, undef, undef, undef, .bool true] ⟨#[c0, c1, .pointer (some ⟨B, 0, none⟩), c3, c4, .int .i64 (n : Nat), c6, c7, .pointer (some ⟨X, 0, none⟩), c9, c10, c11, c12, c13, c14, c15, c16, c17, c18, c19, c20, c21, c22, c23, c24, c25, c26, c27, c28, c29, c30, c31, c32, c33, c34, c35, c36, c37, c38, c39, c40, c41, c42, c43, c44, c45, c46, c47, c48, c49, c50, c51, c52, c53, c54, c55, c56, c57, c58, c59, c60, c61, c62, c63, c64, c65, c66, c67, c68, c69, c70, c71, c72, c73, c74, c75, c76, c77, c78, c79, c80, c81, c82, c83, c84, c85, c86, c87, c88, c89, c90, c91, c92, c93, c94, c95, c96, c97, c98, c99, c100, c101, c102, c103, c104, c105, c106, c107, c108, c109, c110, c111, c112, c113, c114, c115, c116, c117, c118, c119, c120, c121, c122, c123, c124, c125, c126, c127, c128, c129, c130, c131, c132, c133, c134, c135, c136, c137, c138, c139, c140], df⟩ L a ∧ Hid (Ext wr wc)) ⟨Inv.start, Lib.hid ((Ext.refl wr).drew)⟩ ?_ ?_
  · refine ⟨?_, ?_, ?_, ?_, ?_, ?_, ?_, ?_, ?_, ?_, ?_, ?_, ?_, ?_, ?_, ?_, ?_, ?_, ?_, ?_, ?_, ?_, ?_, ?_, ?_, ?_, ?_, ?_, ?_, ?_, ?_, ?_, ?_, ?_, ?_, ?_, ?_, ?_, ?_, ?_, ?_, ?_, ?_, ?_, ?_, ?_, ?_, ?_, ?_, ?_, ?_, ?_, ?_, ?_, ?_, ?_, ?_, ?_, ?_, ?_, ?_, ?_, trivial⟩
    · -- 0 field
      rintro L a wc ⟨hv, HO⟩ hL hc hd
      exact wpOp_val rfl rfl (ex_field rfl ((hv.fixed 8 (by decide)).trans rfl) (by go_simp)) ⟨hv.put hop_6_apart 0 rfl (Nat.le_of_ble_eq_true rfl) (Nat.le_of_ble_eq_true rfl) rfl, HO⟩
    · -- 1 load
      rintro L a wc ⟨hv, HO⟩ hL hc hd
      have x0' : wc.cell? ⟨X, 0, none⟩ = some (.int .i64 (aa : Int)) := HO.out.cell x0
      exact wpOp_val rfl rfl (ex_load rfl (hv.get 0 rfl rfl (hd 0 (by decide))) (by go_simp)) ⟨hv.put hop_6_apart 1 rfl (Nat.le_of_ble_eq_true rfl) (Nat.le_of_ble_eq_true rfl) rfl, HO⟩
    · -- 2 bin
      rintro L a wc ⟨hv, HO⟩ hL hc hd
      exact wpOp_val rfl rfl (ex_bin rfl (hv.get 1 rfl rfl (hd 1 (by decide))) rfl (by go_simp)) ⟨hv.put hop_6_apart 2 rfl (Nat.le_of_ble_eq_true rfl) (Nat.le_of_ble_eq_true rfl) rfl, HO⟩
    · -- 3 move
      rintro L a wc ⟨hv, HO⟩ hL hc hd
      exact wpOp_val rfl rfl (ex_move rfl (hv.get 2 rfl rfl (hd 2 (by decide)))) ⟨hv.put hop_6_apart 3 rfl (Nat.le_of_ble_eq_true rfl) (Nat.le_of_ble_eq_true rfl) rfl, HO⟩
    · -- 4 field
      rintro L a wc ⟨hv, HO⟩ hL hc hd
      exact wpOp_val rfl ((wanted_at rfl rfl (hv.get 3 rfl rfl (hd 3 (by decide)))).trans rfl) (ex_field rfl ((hv.fixed 8 (by decide)).trans rfl) (by go_simp)) ⟨hv.put hop_6_apart 4 rfl (Nat.le_of_ble_eq_true rfl) (Nat.le_of_ble_eq_true rfl) rfl, HO⟩
    · -- 5 load
      rintro L a wc ⟨hv, HO⟩ hL hc hd
      have x0' : wc.cell? ⟨X, 0, none⟩ = some (.int .i64 (aa : Int)) := HO.out.cell x0
      exact wpOp_val rfl ((wanted_at rfl rfl (hv.get 3 rfl rfl (hd 3 (by decide)))).trans rfl) (ex_load rfl (hv.get 4 rfl rfl (hd 4 (by decide))) (by go_simp)) ⟨hv.put hop_6_apart 5 rfl (Nat.le_of_ble_eq_true rfl) (Nat.le_of_ble_eq_true rfl) rfl, HO⟩
    · -- 6 move
      rintro L a wc ⟨hv, HO⟩ hL hc hd
      exact wpOp_val rfl ((wanted_at rfl rfl (hv.get 3 rfl rfl (hd 3 (by decide)))).trans rfl) (ex_move rfl ((hv.fixed 5 (by decide)).trans rfl)) ⟨hv.put hop_6_apart 6 rfl (Nat.le_of_ble_eq_true rfl) (Nat.le_of_ble_eq_true rfl) rfl, HO⟩
    · -- 7 bin
      rintro L a wc ⟨hv, HO⟩ hL hc hd
      exact wpOp_val rfl ((wanted_at rfl rfl (hv.get 3 rfl rfl (hd 3 (by decide)))).trans rfl) (ex_bin rfl (hv.get 5 rfl rfl (hd 5 (by decide))) (hv.get 6 rfl rfl (hd 6 (by decide))) (by go_simp)) ⟨hv.put hop_6_apart 7 rfl (Nat.le_of_ble_eq_true rfl) (Nat.le_of_ble_eq_true rfl) rfl, HO⟩
    · -- 8 pick
      rintro L a wc ⟨hv, HO⟩ hL hc hd
      exact wpOp_val rfl rfl (ex_pick rfl (hv.get 3 rfl rfl (hd 3 (by decide))) ((if_neg (by simp)).trans (hv.get 7 rfl rfl (hd 7 (by decide))))) ⟨hv.put hop_6_apart 8 rfl (Nat.le_of_ble_eq_true rfl) (Nat.le_of_ble_eq_true rfl) rfl, HO⟩
    · -- 9 move
      rintro L a wc ⟨hv, HO⟩ hL hc hd
      exact wpOp_val rfl rfl (ex_move rfl (hv.get 8 rfl rfl (hd 8 (by decide)))) ⟨hv.put hop_6_apart 9 rfl (Nat.le_of_ble_eq_true rfl) (Nat.le_of_ble_eq_true rfl) rfl, HO⟩
    · -- 10 field
      rintro L a wc ⟨hv, HO⟩ hL hc hd
      exact wpOp_val rfl ((wanted_at rfl rfl (hv.get 9 rfl rfl (hd 9 (by decide)))).trans rfl) (ex_field rfl ((hv.fixed 8 (by decide)).trans rfl) (by go_simp)) ⟨hv.put hop_6_apart 10 rfl (Nat.le_of_ble_eq_true rfl) (Nat.le_of_ble_eq_true rfl) rfl, HO⟩
    · -- 11 load
      rintro L a wc ⟨hv, HO⟩ hL hc hd
      have x1' : wc.cell? ⟨X, 1, none⟩ = some (.int .i64 (bb : Int)) := HO.out.cell x1
      exact wpOp_val rfl ((wanted_at rfl rfl (hv.get 9 rfl rfl (hd 9 (by decide)))).trans rfl) (ex_load rfl (hv.get 10 rfl rfl (hd 10 (by decide))) (by go_simp)) ⟨hv.put hop_6_apart 11 rfl (Nat.le_of_ble_eq_true rfl) (Nat.le_of_ble_eq_true rfl) rfl, HO⟩
    · -- 12 bin
      rintro L a wc ⟨hv, HO⟩ hL hc hd
      exact wpOp_val rfl ((wanted_at rfl rfl (hv.get 9 rfl rfl (hd 9 (by decide)))).trans rfl) (ex_bin rfl (hv.get 11 rfl rfl (hd 11 (by decide))) rfl (by go_simp)) ⟨hv.put hop_6_apart 12 rfl (Nat.le_of_ble_eq_true rfl) (Nat.le_of_ble_eq_true rfl) rfl, HO⟩
    · -- 13 pick
      rintro L a wc ⟨hv, HO⟩ hL hc hd
      exact wpOp_val rfl rfl (ex_pick rfl (hv.get 9 rfl rfl (hd 9 (by decide))) ((if_neg (by simp)).trans (hv.get 12 rfl rfl (hd 12 (by decide))))) ⟨hv.put hop_6_apart 13 rfl (Nat.le_of_ble_eq_true rfl) (Nat.le_of_ble_eq_true rfl) rfl, HO⟩
    · -- 14 move
      rintro L a wc ⟨hv, HO⟩ hL hc hd
      exact wpOp_val rfl rfl (ex_move rfl (hv.get 13 rfl rfl (hd 13 (by decide)))) ⟨hv.put hop_6_apart 14 rfl (Nat.le_of_ble_eq_true rfl) (Nat.le_of_ble_eq_true rfl) rfl, HO⟩
    · -- 15 field
      rintro L a wc ⟨hv, HO⟩ hL hc hd
      exact wpOp_val rfl ((wanted_at rfl rfl (hv.get 14 rfl rfl (hd 14 (by decide)))).trans rfl) (ex_field rfl ((hv.fixed 8 (by decide)).trans rfl) (by go_simp)) ⟨hv.put hop_6_apart 15 rfl (Nat.le_of_ble_eq_true rfl) (Nat.le_of_ble_eq_true rfl) rfl, HO⟩
    · -- 16 load
      rintro L a wc ⟨hv, HO⟩ hL hc hd
      have x1' : wc.cell? ⟨X, 1, none⟩ = some (.int .i64 (bb : Int)) := HO.out.cell x1
      exact wpOp_val rfl ((wanted_at rfl rfl (hv.get 14 rfl rfl (hd 14 (by decide)))).trans rfl) (ex_load rfl (hv.get 15 rfl rfl (hd 15 (by decide))) (by go_simp)) ⟨hv.put hop_6_apart 16 rfl (Nat.le_of_ble_eq_true rfl) (Nat.le_of_ble_eq_true rfl) rfl, HO⟩
    · -- 17 move
      rintro L a wc ⟨hv, HO⟩ hL hc hd
      exact wpOp_val rfl ((wanted_at rfl rfl (hv.get 14 rfl rfl (hd 14 (by decide)))).trans rfl) (ex_move rfl ((hv.fixed 5 (by decide)).trans rfl)) ⟨hv.put hop_6_apart 17 rfl (Nat.le_of_ble_eq_true rfl) (Nat.le_of_ble_eq_true rfl) rfl, HO⟩
    · -- 18 bin
      rintro L a wc ⟨hv, HO⟩ hL hc hd
      exact wpOp_val rfl ((wanted_at rfl rfl (hv.get 14 rfl rfl (hd 14 (by decide)))).trans rfl) (ex_bin rfl (hv.get 16 rfl rfl (hd 16 (by decide))) (hv.get 17 rfl rfl (hd 17 (by decide))) (by go_simp)) ⟨hv.put hop_6_apart 18 rfl (Nat.le_of_ble_eq_true rfl) (Nat.le_of_ble_eq_true rfl) rfl, HO⟩
    · -- 19 pick
      rintro L a wc ⟨hv, HO⟩ hL hc hd
      exact wpOp_val rfl rfl (ex_pick rfl (hv.get 14 rfl rfl (hd 14 (by decide))) ((if_neg (by simp)).trans (hv.get 18 rfl rfl (hd 18 (by decide))))) ⟨hv.put hop_6_apart 19 rfl (Nat.le_of_ble_eq_true rfl) (Nat.le_of_ble_eq_true rfl) rfl, HO⟩
    · -- 20 move
      rintro L a wc ⟨hv, HO⟩ hL hc hd
      exact wpOp_val rfl rfl (ex_move rfl (hv.get 19 rfl rfl (hd 19 (by decide)))) ⟨hv.put hop_6_apart 20 rfl (Nat.le_of_ble_eq_true rfl) (Nat.le_of_ble_eq_true rfl) rfl, HO⟩
    · -- 21 field
      rintro L a wc ⟨hv, HO⟩ hL hc hd
      exact wpOp_val rfl ((wanted_at rfl rfl (hv.get 20 rfl rfl (hd 20 (by decide)))).trans rfl) (ex_field rfl ((hv.fixed 8 (by decide)).trans rfl) (by go_simp)) ⟨hv.put hop_6_apart 21 rfl (Nat.le_of_ble_eq_true rfl) (Nat.le_of_ble_eq_true rfl) rfl, HO⟩
    · -- 22 load
      rintro L a wc ⟨hv, HO⟩ hL hc hd
      have x0' : wc.cell? ⟨X, 0, none⟩ = some (.int .i64 (aa : Int)) := HO.out.cell x0
      exact wpOp_val rfl ((wanted_at rfl rfl (hv.get 20 rfl rfl (hd 20 (by decide)))).trans rfl) (ex_load rfl (hv.get 21 rfl rfl (hd 21 (by decide))) (by go_simp)) ⟨hv.put hop_6_apart 22 rfl (Nat.le_of_ble_eq_true rfl) (Nat.le_of_ble_eq_true rfl) rfl, HO⟩
    · -- 23 field
      rintro L a wc ⟨hv, HO⟩ hL hc hd
      exact wpOp_val rfl ((wanted_at rfl rfl (hv.get 20 rfl rfl (hd 20 (by decide)))).trans rfl) (ex_field rfl ((hv.fixed 8 (by decide)).trans rfl) (by go_simp)) ⟨hv.put hop_6_apart 23 rfl (Nat.le_of_ble_eq_true rfl) (Nat.le_of_ble_eq_true rfl) rfl, HO⟩
    · -- 24 load
      rintro L a wc ⟨hv, HO⟩ hL hc hd
      have x1' : wc.cell? ⟨X, 1, none⟩ = some (.int .i64 (bb : Int)) := HO.out.cell x1
      exact wpOp_val rfl ((wanted_at rfl rfl (hv.get 20 rfl rfl (hd 20 (by decide)))).trans rfl) (ex_load rfl (hv.get 23 rfl rfl (hd 23 (by decide))) (by go_simp)) ⟨hv.put hop_6_apart 24 rfl (Nat.le_of_ble_eq_true rfl) (Nat.le_of_ble_eq_true rfl) rfl, HO⟩
    · -- 25 bin
      rintro L a wc ⟨hv, HO⟩ hL hc hd
      exact wpOp_val rfl ((wanted_at rfl rfl (hv.get 20 rfl rfl (hd 20 (by decide)))).trans rfl) (ex_bin rfl (hv.get 22 rfl rfl (hd 22 (by decide))) (hv.get 24 rfl rfl (hd 24 (by decide))) (by go_simp)) ⟨hv.put hop_6_apart 25 rfl (Nat.le_of_ble_eq_true rfl) (Nat.le_of_ble_eq_true rfl) rfl, HO⟩
    · -- 26 pick
      rintro L a wc ⟨hv, HO⟩ hL hc hd
      exact wpOp_val rfl rfl (ex_pick rfl (hv.get 20 rfl rfl (hd 20 (by decide))) ((if_neg (by simp)).trans (hv.get 25 rfl rfl (hd 25 (by decide))))) ⟨hv.put hop_6_apart 26 rfl (Nat.le_of_ble_eq_true rfl) (Nat.le_of_ble_eq_true rfl) rfl, HO⟩
    · -- 27 move
      rintro L a wc ⟨hv, HO⟩ hL hc hd
      exact wpOp_val rfl rfl (ex_move rfl (hv.get 26 rfl rfl (hd 26 (by decide)))) ⟨hv.put hop_6_apart 27 rfl (Nat.le_of_ble_eq_true rfl) (Nat.le_of_ble_eq_true rfl) rfl, HO⟩
    · -- 28 field
      rintro L a wc ⟨hv, HO⟩ hL hc hd
      exact wpOp_val rfl ((wanted_at rfl rfl (hv.get 27 rfl rfl (hd 27 (by decide)))).trans rfl) (ex_field rfl ((hv.fixed 8 (by decide)).trans rfl) (by go_simp)) ⟨hv.put hop_6_apart 28 rfl (Nat.le_of_ble_eq_true rfl) (Nat.le_of_ble_eq_true rfl) rfl, HO⟩
    · -- 29 load
      rintro L a wc ⟨hv, HO⟩ hL hc hd
      have x0' : wc.cell? ⟨X, 0, none⟩ = some (.int .i64 (aa : Int)) := HO.out.cell x0
      exact wpOp_val rfl ((wanted_at rfl rfl (hv.get 27 rfl rfl (hd 27 (by decide)))).trans rfl) (ex_load rfl (hv.get 28 rfl rfl (hd 28 (by decide))) (by go_simp)) ⟨hv.put hop_6_apart 29 rfl (Nat.le_of_ble_eq_true rfl) (Nat.le_of_ble_eq_true rfl) rfl, HO⟩
    · -- 30 field
      rintro L a wc ⟨hv, HO⟩ hL hc hd
      exact wpOp_val rfl ((wanted_at rfl rfl (hv.get 27 rfl rfl (hd 27 (by decide)))).trans rfl) (ex_field rfl ((hv.fixed 2 (by decide)).trans rfl) (by go_simp)) ⟨hv.put hop_6_apart 30 rfl (Nat.le_of_ble_eq_true rfl) (Nat.le_of_ble_eq_true rfl) rfl, HO⟩
    · -- 31 load
      rintro L a wc ⟨hv, HO⟩ hL hc hd
      have h2' : wc.cell? ⟨B, 2, none⟩ = some (.int .i64 g) := HO.out.cell h2
      exact wpOp_val rfl ((wanted_at rfl rfl (hv.get 27 rfl rfl (hd 27 (by decide)))).trans rfl) (ex_load rfl (hv.get 30 rfl rfl (hd 30 (by decide))) (by go_simp)) ⟨hv.put hop_6_apart 31 rfl (Nat.le_of_ble_eq_true rfl) (Nat.le_of_ble_eq_true rfl) rfl, HO⟩
    · -- 32 bin
      rintro L a wc ⟨hv, HO⟩ hL hc hd
      exact wpOp_val rfl ((wanted_at rfl rfl (hv.get 27 rfl rfl (hd 27 (by decide)))).trans rfl) (ex_bin rfl (hv.get 29 rfl rfl (hd 29 (by decide))) (hv.get 31 rfl rfl (hd 31 (by decide))) (by go_simp)) ⟨hv.put hop_6_apart 32 rfl (Nat.le_of_ble_eq_true rfl) (Nat.le_of_ble_eq_true rfl) rfl, HO⟩
    · -- 33 pick
      rintro L a wc ⟨hv, HO⟩ hL hc hd
      exact wpOp_val rfl rfl (ex_pick rfl (hv.get 27 rfl rfl (hd 27 (by decide))) ((if_neg (by simp)).trans (hv.get 32 rfl rfl (hd 32 (by decide))))) ⟨hv.put hop_6_apart 33 rfl (Nat.le_of_ble_eq_true rfl) (Nat.le_of_ble_eq_true rfl) rfl, HO⟩
    · -- 34 move
      rintro L a wc ⟨hv, HO⟩ hL hc hd
      exact wpOp_val rfl rfl (ex_move rfl (hv.get 33 rfl rfl (hd 33 (by decide)))) ⟨hv.put hop_6_apart 34 rfl (Nat.le_of_ble_eq_true rfl) (Nat.le_of_ble_eq_true rfl) rfl, HO⟩
    · -- 35 field
      rintro L a wc ⟨hv, HO⟩ hL hc hd
      exact wpOp_val rfl ((wanted_at rfl rfl (hv.get 34 rfl rfl (hd 34 (by decide)))).trans rfl) (ex_field rfl ((hv.fixed 2 (by decide)).trans rfl) (by go_simp)) ⟨hv.put hop_6_apart 35 rfl (Nat.le_of_ble_eq_true rfl) (Nat.le_of_ble_eq_true rfl) rfl, HO⟩
    · -- 36 load
      rintro L a wc ⟨hv, HO⟩ hL hc hd
      have h0' : wc.cell? ⟨B, 0, none⟩ = some (.slice (some ad1) n cA) := HO.out.cell h0
      exact wpOp_val rfl ((wanted_at rfl rfl (hv.get 34 rfl rfl (hd 34 (by decide)))).trans rfl) (ex_load rfl (hv.get 35 rfl rfl (hd 35 (by decide))) (by go_simp)) ⟨hv.put hop_6_apart 36 rfl (Nat.le_of_ble_eq_true rfl) (Nat.le_of_ble_eq_true rfl) rfl, HO⟩
    · -- 37 field
      rintro L a wc ⟨hv, HO⟩ hL hc hd
      exact wpOp_val rfl ((wanted_at rfl rfl (hv.get 34 rfl rfl (hd 34 (by decide)))).trans rfl) (ex_field rfl ((hv.fixed 8 (by decide)).trans rfl) (by go_simp)) ⟨hv.put hop_6_apart 37 rfl (Nat.le_of_ble_eq_true rfl) (Nat.le_of_ble_eq_true rfl) rfl, HO⟩
    · -- 38 load
      rintro L a wc ⟨hv, HO⟩ hL hc hd
      have x0' : wc.cell? ⟨X, 0, none⟩ = some (.int .i64 (aa : Int)) := HO.out.cell x0
      exact wpOp_val rfl ((wanted_at rfl rfl (hv.get 34 rfl rfl (hd 34 (by decide)))).trans rfl) (ex_load rfl (hv.get 37 rfl rfl (hd 37 (by decide))) (by go_simp)) ⟨hv.put hop_6_apart 38 rfl (Nat.le_of_ble_eq_true rfl) (Nat.le_of_ble_eq_true rfl) rfl, HO⟩
    · -- 39 index
      rintro L a wc ⟨hv, HO⟩ hL hc hd
      exact wpOp_val rfl ((wanted_at rfl rfl (hv.get 34 rfl rfl (hd 34 (by decide)))).trans rfl) (ex_index rfl (hv.get 36 rfl rfl (hd 36 (by decide))) (hv.get 38 rfl rfl (hd 38 (by decide))) (by go_simp)) ⟨hv.put hop_6_apart 39 rfl (Nat.le_of_ble_eq_true rfl) (Nat.le_of_ble_eq_true rfl) rfl, HO⟩
    · -- 40 load
      rintro L a wc ⟨hv, HO⟩ hL hc hd
      have g1' : wc.cell? (ad1.add aa) = some (.slice (some ad2) n cc) := HO.out.cell g1
      exact wpOp_val rfl ((wanted_at rfl rfl (hv.get 34 rfl rfl (hd 34 (by decide)))).trans rfl) (ex_load rfl (hv.get 39 rfl rfl (hd 39 (by decide))) (by go_simp)) ⟨hv.put hop_6_apart 40 rfl (Nat.le_of_ble_eq_true rfl) (Nat.le_of_ble_eq_true rfl) rfl, HO⟩
    · -- 41 field
      rintro L a wc ⟨hv, HO⟩ hL hc hd
      exact wpOp_val rfl ((wanted_at rfl rfl (hv.get 34 rfl rfl (hd 34 (by decide)))).trans rfl) (ex_field rfl ((hv.fixed 8 (by decide)).trans rfl) (by go_simp)) ⟨hv.put hop_6_apart 41 rfl (Nat.le_of_ble_eq_true rfl) (Nat.le_of_ble_eq_true rfl) rfl, HO⟩
    · -- 42 load
      rintro L a wc ⟨hv, HO⟩ hL hc hd
      have x1' : wc.cell? ⟨X, 1, none⟩ = some (.int .i64 (bb : Int)) := HO.out.cell x1
      exact wpOp_val rfl ((wanted_at rfl rfl (hv.get 34 rfl rfl (hd 34 (by decide)))).trans rfl) (ex_load rfl (hv.get 41 rfl rfl (hd 41 (by decide))) (by go_simp)) ⟨hv.put hop_6_apart 42 rfl (Nat.le_of_ble_eq_true rfl) (Nat.le_of_ble_eq_true rfl) rfl, HO⟩
    · -- 43 index
      rintro L a wc ⟨hv, HO⟩ hL hc hd
      exact wpOp_val rfl ((wanted_at rfl rfl (hv.get 34 rfl rfl (hd 34 (by decide)))).trans rfl) (ex_index rfl (hv.get 40 rfl rfl (hd 40 (by decide))) (hv.get 42 rfl rfl (hd 42 (by decide))) (by go_simp)) ⟨hv.put hop_6_apart 43 rfl (Nat.le_of_ble_eq_true rfl) (Nat.le_of_ble_eq_true rfl) rfl, HO⟩
    · -- 44 load
      rintro L a wc ⟨hv, HO⟩ hL hc hd
      have g2' : wc.cell? (ad2.add bb) = some (.int .i64 pp) := HO.out.cell g2
      exact wpOp_val rfl ((wanted_at rfl rfl (hv.get 34 rfl rfl (hd 34 (by decide)))).trans rfl) (ex_load rfl (hv.get 43 rfl rfl (hd 43 (by decide))) (by go_simp)) ⟨hv.put hop_6_apart 44 rfl (Nat.le_of_ble_eq_true rfl) (Nat.le_of_ble_eq_true rfl) rfl, HO⟩
    · -- 45 bin
      rintro L a wc ⟨hv, HO⟩ hL hc hd
      exact wpOp_val rfl ((wanted_at rfl rfl (hv.get 34 rfl rfl (hd 34 (by decide)))).trans rfl) (ex_bin rfl (hv.get 44 rfl rfl (hd 44 (by decide))) rfl (by go_simp)) ⟨hv.put hop_6_apart 45 rfl (Nat.le_of_ble_eq_true rfl) (Nat.le_of_ble_eq_true rfl) rfl, HO⟩
    · -- 46 pick
      rintro L a wc ⟨hv, HO⟩ hL hc hd
      exact wpOp_val rfl rfl (ex_pick rfl (hv.get 34 rfl rfl (hd 34 (by decide))) ((if_neg (by simp)).trans (hv.get 45 rfl rfl (hd 45 (by decide))))) ⟨hv.put hop_6_apart 46 rfl (Nat.le_of_ble_eq_true rfl) (Nat.le_of_ble_eq_true rfl) rfl, HO⟩
    · -- 47 move
      rintro L a wc ⟨hv, HO⟩ hL hc hd
      exact wpOp_val rfl rfl (ex_move rfl (hv.get 46 rfl rfl (hd 46 (by decide)))) ⟨hv.put hop_6_apart 47 rfl (Nat.le_of_ble_eq_true rfl) (Nat.le_of_ble_eq_true rfl) rfl, HO⟩
    · -- 48 off
      rintro L a wc ⟨hv, HO⟩ hL hc hd
      exact wpOp_off rfl ((wanted_at rfl rfl (hv.get 47 rfl rfl (hd 47 (by decide)))).trans rfl) ⟨hv.put hop_6_apart 48 rfl (Nat.le_of_ble_eq_true rfl) (Nat.le_of_ble_eq_true rfl) rfl, HO⟩
    · -- 49 off
      rintro L a wc ⟨hv, HO⟩ hL hc hd
      exact wpOp_off rfl ((wanted_at rfl rfl (hv.get 47 rfl rfl (hd 47 (by decide)))).trans rfl) ⟨hv.put hop_6_apart 49 rfl (Nat.le_of_ble_eq_true rfl) (Nat.le_of_ble_eq_true rfl) rfl, HO⟩
    · -- 50 off
      rintro L a wc ⟨hv, HO⟩ hL hc hd
      exact wpOp_off rfl ((wanted_at rfl rfl (hv.get 47 rfl rfl (hd 47 (by decide)))).trans rfl) ⟨hv.put hop_6_apart 50 rfl (Nat.le_of_ble_eq_true rfl) (Nat.le_of_ble_eq_true rfl) rfl, HO⟩
    · -- 51 off
      rintro L a wc ⟨hv, HO⟩ hL hc hd
      exact wpOp_off rfl (wanted_undef rfl rfl (hv.get 50 rfl rfl (hd 50 (by decide)))) ⟨hv.put hop_6_apart 51 rfl (Nat.le_of_ble_eq_true rfl) (Nat.le_of_ble_eq_true rfl) rfl, HO⟩
    · -- 52 off
      rintro L a wc ⟨hv, HO⟩ hL hc hd
      exact wpOp_off rfl (wanted_undef rfl rfl (hv.get 50 rfl rfl (hd 50 (by decide)))) ⟨hv.put hop_6_apart 52 rfl (Nat.le_of_ble_eq_true rfl) (Nat.le_of_ble_eq_true rfl) rfl, HO⟩
    · -- 53 off
      rintro L a wc ⟨hv, HO⟩ hL hc hd
      exact wpOp_off rfl (wanted_undef rfl rfl (hv.get 50 rfl rfl (hd 50 (by decide)))) ⟨hv.put hop_6_apart 53 rfl (Nat.le_of_ble_eq_true rfl) (Nat.le_of_ble_eq_true rfl) rfl, HO⟩
    · -- 54 off
      rintro L a wc ⟨hv, HO⟩ hL hc hd
      exact wpOp_off rfl (wanted_undef rfl rfl (hv.get 50 rfl rfl (hd 50 (by decide)))) ⟨hv.put hop_6_apart 54 rfl (Nat.le_of_ble_eq_true rfl) (Nat.le_of_ble_eq_true rfl) rfl, HO⟩
    · -- 55 off
      rintro L a wc ⟨hv, HO⟩ hL hc hd
      exact wpOp_off rfl (wanted_undef rfl rfl (hv.get 50 rfl rfl (hd 50 (by decide)))) ⟨hv.put hop_6_apart 55 rfl (Nat.le_of_ble_eq_true rfl) (Nat.le_of_ble_eq_true rfl) rfl, HO⟩
    · -- 56 off
      rintro L a wc ⟨hv, HO⟩ hL hc hd
      exact wpOp_off rfl (wanted_undef rfl rfl (hv.get 50 rfl rfl (hd 50 (by decide)))) ⟨hv.put hop_6_apart 56 rfl (Nat.le_of_ble_eq_true rfl) (Nat.le_of_ble_eq_true rfl) rfl, HO⟩
    · -- 57 off
      rintro L a wc ⟨hv, HO⟩ hL hc hd
      exact wpOp_off rfl (wanted_undef rfl rfl (hv.get 50 rfl rfl (hd 50 (by decide)))) ⟨hv.put hop_6_apart 57 rfl (Nat.le_of_ble_eq_true rfl) (Nat.le_of_ble_eq_true rfl) rfl, HO⟩
    · -- 58 off
      rintro L a wc ⟨hv, HO⟩ hL hc hd
      exact wpOp_off rfl (wanted_undef rfl rfl (hv.get 50 rfl rfl (hd 50 (by decide)))) ⟨hv.put hop_6_apart 58 rfl (Nat.le_of_ble_eq_true rfl) (Nat.le_of_ble_eq_true rfl) rfl, HO⟩
    · -- 59 off
      rintro L a wc ⟨hv, HO⟩ hL hc hd
      exact wpOp_off rfl (wanted_undef rfl rfl (hv.get 50 rfl rfl (hd 50 (by decide)))) ⟨hv.put hop_6_apart 59 rfl (Nat.le_of_ble_eq_true rfl) (Nat.le_of_ble_eq_true rfl) rfl, HO⟩
    · -- 60 off
      rintro L a wc ⟨hv, HO⟩ hL hc hd
      exact wpOp_off rfl ((wanted_at rfl rfl (hv.get 47 rfl rfl (hd 47 (by decide)))).trans rfl) ⟨hv.put hop_6_apart 60 rfl (Nat.le_of_ble_eq_true rfl) (Nat.le_of_ble_eq_true rfl) rfl, HO⟩
    · -- 61 pick
      rintro L a wc ⟨hv, HO⟩ hL hc hd
      exact wpOp_val rfl rfl (ex_pick rfl (hv.get 47 rfl rfl (hd 47 (by decide))) rfl) ⟨hv.put hop_6_apart 61 rfl (Nat.le_of_ble_eq_true rfl) (Nat.le_of_ble_eq_true rfl) rfl, HO⟩
  · rintro L a wc ⟨hv, HO⟩ hall
    show K a wc
    have ha := act_lit a
    rw [hv.size, hv.defers] at ha
    have hl : ∀ f : Nat → Value, ((List.range (⟨#[c0, c1, .pointer (some ⟨B, 0, none⟩), c3, c4, .int .i64 (n : Nat), c6, c7, .pointer (some ⟨X, 0, none⟩), c9, c10, c11, c12, c13, c14, c15, c16, c17, c18, c19, c20, c21, c22, c23, c24, c25, c26, c27, c28, c29, c30, c31, c32, c33, c34, c35, c36, c37, c38, c39, c40, c41, c42, c43, c44, c45, c46, c47, c48, c49, c50, c51, c52, c53, c54, c55, c56, c57, c58, c59, c60, c61, c62, c63, c64, c65, c66, c67, c68, c69, c70, c71, c72, c73, c74, c75, c76, c77, c78, c79, c80, c81, c82, c83, c84, c85, c86, c87, c88, c89, c90, c91, c92, c93, c94, c95, c96, c97, c98, c99, c100, c101, c102, c103, c104, c105, c106, c107, c108, c109, c110, c111, c112, c113, c114, c115, c116, c117, c118, c119, c120, c121, c122, c123, c124, c125, c126, c127, c128, c129, c130, c131, c132, c133, c134, c135, c136, c137, c138, c139, c140], df⟩ : Act).tmps.size).map f).toArray = #[f 0, f 1, f 2, f 3, f 4, f 5, f 6, f 7, f 8, f 9, f 10, f 11, f 12, f 13, f 14, f 15, f 16, f 17, f 18, f 19, f 20, f 21, f 22, f 23, f 24, f 25, f 26, f 27, f 28, f 29, f 30, f 31, f 32, f 33, f 34, f 35, f 36, f 37, f 38, f 39, f 40, f 41, f 42, f 43, f 44, f 45, f 46, f 47, f 48, f 49, f 50, f 51, f 52, f 53, f 54, f 55, f 56, f 57, f 58, f 59, f 60, f 61, f 62, f 63, f 64, f 65, f 66, f 67, f 68, f 69, f 70, f 71, f 72, f 73, f 74, f 75, f 76, f 77, f 78, f 79, f 80, f 81, f 82, f 83, f 84, f 85, f 86, f 87, f 88, f 89, f 90, f 91, f 92, f 93, f 94, f 95, f 96, f 97, f 98, f 99, f 100, f 101, f 102, f 103, f 104, f 105, f 106, f 107, f 108, f 109, f 110, f 111, f 112, f 113, f 114, f 115, f 116, f 117, f 118, f 119, f 120, f 121, f 122, f 123, f 124, f 125, f 126, f 127, f 128, f 129, f 130, f 131, f 132, f 133, f 134, f 135, f 136, f 137, f 138, f 139, f 140] := fun _ => rfl
    rw [hl] at ha
    simp only [hv.fixed 0 (by decide), hv.fixed 1 (by decide), hv.fixed 2 (by decide), hv.fixed 3 (by decide), hv.fixed 4 (by decide), hv.fixed 5 (by decide), hv.fixed 6 (by decide), hv.fixed 7 (by decide), hv.fixed 8 (by decide), hv.fixed 9 (by decide), hv.fixed 10 (by decide), hv.fixed 11 (by decide), hv.fixed 12 (by decide), hv.fixed 13 (by decide), hv.fixed 14 (by decide), hv.fixed 15 (by decide), hv.fixed 16 (by decide), hv.fixed 17 (by decide), hv.fixed 18 (by decide), hv.fixed 19 (by decide), hv.fixed 20 (by decide), hv.fixed 21 (by decide), hv.fixed 22 (by decide), hv.fixed 23 (by decide), hv.fixed 24 (by decide), hv.fixed 25 (by decide), hv.fixed 26 (by decide), hv.fixed 27 (by decide), hv.fixed 28 (by decide), hv.fixed 29 (by decide), hv.fixed 30 (by decide), hv.fixed 31 (by decide), hv.fixed 94 (by decide), hv.fixed 95 (by decide), hv.fixed 96 (by decide), hv.fixed 97 (by decide), hv.fixed 98 (by decide), hv.fixed 99 (by decide), hv.fixed 100 (by decide), hv.fixed 101 (by decide), hv.fixed 102 (by decide), hv.fixed 103 (by decide), hv.fixed 104 (by decide), hv.fixed 105 (by decide), hv.fixed 106 (by decide), hv.fixed 107 (by decide), hv.fixed 108 (by decide), hv.fixed 109 (by decide), hv.fixed 110 (by decide), hv.fixed 111 (by decide), hv.fixed 112 (by decide), hv.fixed 113 (by decide), hv.fixed 114 (by decide), hv.fixed 115 (by decide), hv.fixed 116 (by decide), hv.fixed 117 (by decide), hv.fixed 118 (by decide), hv.fixed 119 (by decide), hv.fixed 120 (by decide), hv.fixed 121 (by decide), hv.fixed 122 (by decide), hv.fixed 123 (by decide), hv.fixed 124 (by decide), hv.fixed 125 (by decide), hv.fixed 126 (by decide), hv.fixed 127 (by decide), hv.fixed 128 (by decide), hv.fixed 129 (by decide), hv.fixed 130 (by decide), hv.fixed 131 (by decide), hv.fixed 132 (by decide), hv.fixed 133 (by decide), hv.fixed 134 (by decide), hv.fixed 135 (by decide), hv.fixed 136 (by decide), hv.fixed 137 (by decide), hv.fixed 138 (by decide), hv.fixed 139 (by decide), hv.fixed 140 (by decide), hv.get 61 (d := 93) rfl rfl (hall 61 (by decide))] at ha
    rw [ha]
    exact hK _ _ _ _ _ _ _ _ _ _ _ _ _ _ _ _ _ _ _ _ _ _ _ _ _ _ _ _ _ _ _ _ _ _ _ _ _ _ _ _ _ _ _ _ _ _ _ _ _ _ _ _ _ _ _ _ _ _ _ _ _ wc HO.out
noncomputable def hop_7_code : Code := ((Tryd.f14.body.bind (regionOf 8)).getD .skip)
def hop_7_dsts : List (Option Nat) := [some 32, some 33, some 34, some 35, some 36, some 37, some 38, some 39, some 40, some 41, some 42, some 43, some 44, some 45, some 46, some 47, some 48, some 49, some 50, some 51, some 52, some 53, some 54, some 55, some 56, some 57, some 58, some 59, some 60, some 61, some 62, some 63, some 64, some 65, some 66, some 67, some 68, some 69, some 70, some 71, some 72, some 73, some 74, some 75, some 76, some 77, some 78, some 79, some 80, some 81, some 82, some 83, some 84, some 85, some 86, some 87, some 88, some 89, some 90, some 91, some 92, some 93]
theorem hop_7_apart : apartD hop_7_dsts = true := by decide +kernel
set_option maxRecDepth 1000000 in
set_option maxHeartbeats 16000000 in
theorem hop_7 (wr : World) (aa bb : Nat) (X n : Nat) (x0 : wr.cell? ⟨X, 0, none⟩ = some (.int .i64 (aa : Int))) (x1 : wr.cell? ⟨X, 1, none⟩ = some (.int .i64 (bb : Int))) (ha : aa < n) (hb : bb < n) (u4 : ((aa : Int) == (bb : Int)) = false) (g : Int) (B : Nat) (h2 : wr.cell? ⟨B, 2, none⟩ = some (.int .i64 g)) (u5 : ((aa : Int) == g) = false) (cA cc : Nat) (ad1 ad2 : Addr) (pp : Int) (h0 : wr.cell? ⟨B, 0, none⟩ = some (.slice (some ad1) n cA)) (g1 : wr.cell? (ad1.add aa) = some (.slice (some ad2) n cc)) (g2 : wr.cell? (ad2.add bb) = some (.int .i64 pp)) (q6 : ¬ pp < 0) (I f0 : Int) (j ln e : Nat) (ad : Addr) (hI : I = (j : Int) + 1) (hj : j < ln) (hln : ln ≤ 9223372036854775807) (m1 : wr.cell? (ad.add (j * 2)) = some (.int .i64 f0)) (q8 : (aa : Int) ≤ f0) (c0 c3 c4 c6 c9 c10 c11 c12 c13 c14 c15 c16 c17 c18 c19 c20 c21 c22 c23 c24 c25 c26 c27 c28 c29 c30 c31 c32 c33 c34 c35 c36 c37 c38 c39 c40 c41 c42 c43 c44 c45 c46 c47 c48 c49 c50 c51 c52 c53 c54 c55 c56 c57 c58 c59 c60 c61 c62 c63 c64 c65 c66 c67 c68 c69 c70 c71 c72 c73 c74 c75 c76 c77 c78 c79 c80 c81 c82 c83 c84 c85 c86 c87 c88 c89 c90 c91 c92 c93 c94 c95 c96 c97 c98 c99 c100 c101 c102 c103 c104 c105 c106 c107 c108 c109 c110 c111 c112 c113 c114 c115 c116 c117 c118 c119 c120 c121 c122 c123 c124 c125 c126 c127 c128 c129 c130 c131 c132 c133 c134 c135 c136 c137 c138 c139 c140 : Value) (df : List Deferred) (K : Act → World → Prop)
    (hK : ∀  (u32 u33 u34 u35 u36 u37 u38 u39 u40 u41 u42 u43 u44 u45 u46 u47 u48 u49 u50 u51 u52 u53 u54 u55 u56 u57 u58 u59 u60 u61 u62 u63 u64 u65 u66 u67 u68 u69 u70 u71 u72 u73 u74 u75 u76 u77 u78 u79 u80 u81 u82 u83 u84 u85 u86 u87 u88 u89 u90 u91 u92 : Value) (wx : World), Ext wr wx → K ⟨#[c0, .slice (some ad) ln e, .pointer (some ⟨B, 0, none⟩), c3, c4, .int .i64 (n : Nat), c6, .int .i64 I, .pointer (some ⟨X, 0, none⟩), c9, c10, c11, c12, c13, c14, c15, c16, c17, c18, c19, c20, c21, c22, c23, c24, c25, c26, c27, c28, c29, c30, c31, u32, u33, u34, u35, u36, u37, u38, u39, u40, u41, u42, u43, u44, u45, u46, u47, u48, u49, u50, u51, u52, u53, u54, u55, u56, u57, u58, u59, u60, u61, u62, u63, u64, u65, u66, u67, u68, u69, u70, u71, u72, u73, u74, u75, u76, u77, u78, u79, u80, u81, u82, u83, u84, u85, u86, u87, u88, u89, u90, u91, u92, .bool true, c94, c95, c96, c97, c98, c99, c100, c101, c102, c103, c104, c105, c106, c107, c108, c109, c110, c111, c112, c113, c114, c115, c116, c117, c118, c119, c120, c121, c122, c123, c124, c125, c126, c127, c128, c129, c130, c131, c132, c133, c134, c135, c136, c137, c138, c139, c140], df⟩ wx) :
    Code.wp Tryd.prog hop_7_code (AtEnd K) ⟨#[c0, .slice (some ad) ln e, .pointer (some ⟨B, 0, none⟩), c3, c4, .int .i64 (n : Nat), c6, .int .i64 I, .pointer (some ⟨X, 0, none⟩), c9, c10, c11, c12, c13, c14, c15, c16, c17, c18, c19, c20, c21, c22, c23, c24, c25, c26, c27, c28, c29, c30, c31, c32, c33, c34, c35, c36, c37, c38, c39, c40, c41, c42, c43, c44, c45, c46, c47, c48, c49, c50, c51, c52, c53, c54, c55, c56, c57, c58, c59, c60, c61, c62, c63, c64, c65, c66, c67, c68, c69, c70, c71, c72, c73, c74, c75, c76, c77, c78, c79, c80, c81, c82, c83, c84, c85, c86, c87, c88, c89, c90, c91, c92, c93, c94, c95, c96, c97, c98, c99, c100, c101, c102, c103, c104, c105, c106, c107, c108, c109, c110, c111, c112, c113, c114, c115, c116, c117, c118, c119, c120, c121, c122, c123, c124, c125, c126, c127, c128, c129, c130, c131, c132, c133, c134, c135, c136, c137, c138, c139, c140], df⟩ wr := by
  conv => arg 2; whnf
  refine region_inv (by kernel_rfl) [[], [0], [1], [2], [3], [4, 3], [3], [5, 6, 3], [3, 7], [8, 3], [9], [10, 9], [11, 9], [9, 12], [13, 9], [14], [15, 14], [14], [16, 17, 14], [14, 18], [19, 14], [20], [21, 20], [20], [23, 20], [22, 24, 20], [20, 25], [26, 20], [27], [28, 27], [27], [30, 27], [29, 31, 27], [27, 32], [33, 27], [34], [35, 34], [34], [37, 34], [36, 38, 34], [39, 34], [34], [41, 34], [40, 42, 34], [43, 34], [44, 34], [34, 45], [46, 34], [47], [48, 47], [49, 47, 47], [50], [50], [52, 50], [51, 53, 50], [54, 50], [55, 50], [50], [57, 50], [56, 58, 50], [50, 59, 47], [47, 60]] (by kernel_rfl) [0, 1, 2, 3, 4, 5, 6, 7, 8, 9, 10, 11, 12, 13, 14, 15, 16, 17, 18, 19, 20, 21, 22, 23, 24, 25, 26, 27, 28, 29, 30, 31, 32, 33, 34, 35, 36, 37, 38, 39, 40, 41, 42, 43, 44, 45, 46, 47, 48, 49, 50, 51, 52, 53, 54, 55, 56, 57, 58, 59, 60, 61] (by decide +kernel) (by decide +kernel) (by decide +kernel) (fun L a wc => Inv hop_7_dsts [.pointer (some ⟨X, 0, none⟩), .int .i64 (aa : Int), .bool false, .bool false, .pointer (some ⟨X, 0, none⟩), .int .i64 (aa : Int), .int .i64 (n : Nat), .bool false, .bool false, .bool false, .pointer (some ⟨X, 1, none⟩), .int .i64 (bb : Int), .bool false, .bool false, .bool false, .pointer (some ⟨X, 1, none⟩), .int .i64 (bb : Int), .int .i64 (n : Nat), .bool false, .bool false, .bool false, .pointer (some ⟨X, 0, none⟩), .int .i64 (aa : Int), .pointer (some ⟨X, 1, none⟩), .int .i64 (bb : Int), .bool false, .bool false, .bool false, .pointer (some ⟨X, 0, none⟩), .int .i64 (aa : Int), .pointer (some ⟨B, 2, none⟩), .int .i64 g, .bool false, .bool false, .bool false, .pointer (some ⟨B, 0, none⟩), .slice (some ad1) n cA, .pointer (some ⟨X, 0, none⟩), .int .i64 (aa : Int), .pointer (some (ad1.add aa)), .slice (some ad2) n cc, .pointer (some ⟨X, 1, none⟩), .int .i64 (bb : Int), .pointer (some (ad2.add bb)), .int .i64 pp, .bool false, .bool false, .bool false, .int .i64 I, .bool true, .bool true, .slice (some ad) ln e, .int .i64 I, .int .i64 (j : Nat), .pointer (some (ad.add (j * 2))), .pointer (some (ad.add (j * 2))), .int .i64 f0, .pointer (some ⟨X, 0, none⟩), .int .i64 (aa : Int), .bool true, .bool true, .bool true] ⟨#[c0, .slice (some ad) ln e, .pointer (some ⟨B, 0, none⟩), c3, c4, .int .i64 (n : Nat), c6, .int .i64 I, .pointer (some ⟨X, 0, none⟩), c9, c10, c11, c12, c13, c14, c15, c16, c17, c18, c19, c20, c21, c22, c23, c24, c25, c26, c27, c28, c29, c30, c31, c32, c33, c34, c35, c36, c37, c38, c39, c40, c41, c42, c43, c44, c45, c46, c47, c48, c49, c50, c51, c52, c53, c54, c55, c56, c57, c58, c59, c60, c61, c62, c63, c64, c65, c66, c67, c68, c69, c70, c71, c72, c73, c74, c75, c76, c77, c78, c79, c80, c81, c82, c83, c84, c85, c86, c87, c88, c89, c90, c91, c92, c93, c94, c95, c96, c97, c98, c99, c100, c101, c102, c103, c104, c105, c106, c107, c108, c109, c110, c111, c112, c113, c114, c115, c116, c117, c118, c119, c120, c121, c122, c123, c124, c125, c126, c127, c128, c129, c130, c131, c132, c133, c134, c135, c136, c137, c138, c139, c140], df⟩ L a ∧ Hid (Ext wr wc)) ⟨Inv.start, Lib.hid ((Ext.refl wr).drew)⟩ ?_ ?_
  · refine ⟨?_, ?_, ?_, ?_, ?_, ?_, ?_, ?_, ?_, ?_, ?_, ?_, ?_, ?_, ?_, ?_, ?_, ?_, ?_, ?_, ?_, ?_, ?_, ?_, ?_, ?_, ?_, ?_, ?_, ?_, ?_, ?_, ?_, ?_, ?_, ?_, ?_, ?_, ?_, ?_, ?_, ?_, ?_, ?_, ?_, ?_, ?_, ?_, ?_, ?_, ?_, ?_, ?_, ?_, ?_, ?_, ?_, ?_, ?_, ?_, ?_, ?_, trivial⟩
    · -- 0 field
      rintro L a wc ⟨hv, HO⟩ hL hc hd
      exact wpOp_val rfl rfl (ex_field rfl ((hv.fixed 8 (by decide)).trans rfl) (by go_simp)) ⟨hv.put hop_7_apart 0 rfl (Nat.le_of_ble_eq_true rfl) (Nat.le_of_ble_eq_true rfl) rfl, HO⟩
    · -- 1 load
      rintro L a wc ⟨hv, HO⟩ hL hc hd
      have x0' : wc.cell? ⟨X, 0, none⟩ = some (.int .i64 (aa : Int)) := HO.out.cell x0
      exact wpOp_val rfl rfl (ex_load rfl (hv.get 0 rfl rfl (hd 0 (by decide))) (by go_simp)) ⟨hv.put hop_7_apart 1 rfl (Nat.le_of_ble_eq_true rfl) (Nat.le_of_ble_eq_true rfl) rfl, HO⟩
    · -- 2 bin
      rintro L a wc ⟨hv, HO⟩ hL hc hd
      exact wpOp_val rfl rfl (ex_bin rfl (hv.get 1 rfl rfl (hd 1 (by decide))) rfl (by go_simp)) ⟨hv.put hop_7_apart 2 rfl (Nat.le_of_ble_eq_true rfl) (Nat.le_of_ble_eq_true rfl) rfl, HO⟩
    · -- 3 move
      rintro L a wc ⟨hv, HO⟩ hL hc hd
      exact wpOp_val rfl rfl (ex_move rfl (hv.get 2 rfl rfl (hd 2 (by decide)))) ⟨hv.put hop_7_apart 3 rfl (Nat.le_of_ble_eq_true rfl) (Nat.le_of_ble_eq_true rfl) rfl, HO⟩
    · -- 4 field
      rintro L a wc ⟨hv, HO⟩ hL hc hd
      exact wpOp_val rfl ((wanted_at rfl rfl (hv.get 3 rfl rfl (hd 3 (by decide)))).trans rfl) (ex_field rfl ((hv.fixed 8 (by decide)).trans rfl) (by go_simp)) ⟨hv.put hop_7_apart 4 rfl (Nat.le_of_ble_eq_true rfl) (Nat.le_of_ble_eq_true rfl) rfl, HO⟩
    · -- 5 load
      rintro L a wc ⟨hv, HO⟩ hL hc hd
      have x0' : wc.cell? ⟨X, 0, none⟩ = some (.int .i64 (aa : Int)) := HO.out.cell x0
      exact wpOp_val rfl ((wanted_at rfl rfl (hv.get 3 rfl rfl (hd 3 (by decide)))).trans rfl) (ex_load rfl (hv.get 4 rfl rfl (hd 4 (by decide))) (by go_simp)) ⟨hv.put hop_7_apart 5 rfl (Nat.le_of_ble_eq_true rfl) (Nat.le_of_ble_eq_true rfl) rfl, HO⟩
    · -- 6 move
      rintro L a wc ⟨hv, HO⟩ hL hc hd
      exact wpOp_val rfl ((wanted_at rfl rfl (hv.get 3 rfl rfl (hd 3 (by decide)))).trans rfl) (ex_move rfl ((hv.fixed 5 (by decide)).trans rfl)) ⟨hv.put hop_7_apart 6 rfl (Nat.le_of_ble_eq_true rfl) (Nat.le_of_ble_eq_true rfl) rfl, HO⟩
    · -- 7 bin
      rintro L a wc ⟨hv, HO⟩ hL hc hd
      exact wpOp_val rfl ((wanted_at rfl rfl (hv.get 3 rfl rfl (hd 3 (by decide)))).trans rfl) (ex_bin rfl (hv.get 5 rfl rfl (hd 5 (by decide))) (hv.get 6 rfl rfl (hd 6 (by decide))) (by go_simp)) ⟨hv.put hop_7_apart 7 rfl (Nat.le_of_ble_eq_true rfl) (Nat.le_of_ble_eq_true rfl) rfl, HO⟩
    · -- 8 pick
      rintro L a wc ⟨hv, HO⟩ hL hc hd
      exact wpOp_val rfl rfl (ex_pick rfl (hv.get 3 rfl rfl (hd 3 (by decide))) ((if_neg (by simp)).trans (hv.get 7 rfl rfl (hd 7 (by decide))))) ⟨hv.put hop_7_apart 8 rfl (Nat.le_of_ble_eq_true rfl) (Nat.le_of_ble_eq_true rfl) rfl, HO⟩
    · -- 9 move
      rintro L a wc ⟨hv, HO⟩ hL hc hd
      exact wpOp_val rfl rfl (ex_move rfl (hv.get 8 rfl rfl (hd 8 (by decide)))) ⟨hv.put hop_7_apart 9 rfl (Nat.le_of_ble_eq_true rfl) (Nat.le_of_ble_eq_true rfl) rfl, HO⟩
    · -- 10 field
      rintro L a wc ⟨hv, HO⟩ hL hc hd
      exact wpOp_val rfl ((wanted_at rfl rfl (hv.get 9 rfl rfl (hd 9 (by decide)))).trans rfl) (ex_field rfl ((hv.fixed 8 (by decide)).trans rfl) (by go_simp)) ⟨hv.put hop_7_apart 10 rfl (Nat.le_of_ble_eq_true rfl) (Nat.le_of_ble_eq_true rfl) rfl, HO⟩
    · -- 11 load
      rintro L a wc ⟨hv, HO⟩ hL hc hd
      have x1' : wc.cell? ⟨X, 1, none⟩ = some (.int .i64 (bb : Int)) := HO.out.cell x1
      exact wpOp_val rfl ((wanted_at rfl rfl (hv.get 9 rfl rfl (hd 9 (by decide)))).trans rfl) (ex_load rfl (hv.get 10 rfl rfl (hd 10 (by decide))) (by go_simp)) ⟨hv.put hop_7_apart 11 rfl (Nat.le_of_ble_eq_true rfl) (Nat.le_of_ble_eq_true rfl) rfl, HO⟩
    · -- 12 bin
      rintro L a wc ⟨hv, HO⟩ hL hc hd
      exact wpOp_val rfl ((wanted_at rfl rfl (hv.get 9 rfl rfl (hd 9 (by decide)))).trans rfl) (ex_bin rfl (hv.get 11 rfl rfl (hd 11 (by decide))) rfl (by go_simp)) ⟨hv.put hop_7_apart 12 rfl (Nat.le_of_ble_eq_true rfl) (Nat.le_of_ble_eq_true rfl) rfl, HO⟩
    · -- 13 pick
      rintro L a wc ⟨hv, HO⟩ hL hc hd
      exact wpOp_val rfl rfl (ex_pick rfl (hv.get 9 rfl rfl (hd 9 (by decide))) ((if_neg (by simp)).trans (hv.get 12 rfl rfl (hd 12 (by decide))))) ⟨hv.put hop_7_apart 13 rfl (Nat.le_of_ble_eq_true rfl) (Nat.le_of_ble_eq_true rfl) rfl, HO⟩
    · -- 14 move
      rintro L a wc ⟨hv, HO⟩ hL hc hd
      exact wpOp_val rfl rfl (ex_move rfl (hv.get 13 rfl rfl (hd 13 (by decide)))) ⟨hv.put hop_7_apart 14 rfl (Nat.le_of_ble_eq_true rfl) (Nat.le_of_ble_eq_true rfl) rfl, HO⟩
    · -- 15 field
      rintro L a wc ⟨hv, HO⟩ hL hc hd
      exact wpOp_val rfl ((wanted_at rfl rfl (hv.get 14 rfl rfl (hd 14 (by decide)))).trans rfl) (ex_field rfl ((hv.fixed 8 (by decide)).trans rfl) (by go_simp)) ⟨hv.put hop_7_apart 15 rfl (Nat.le_of_ble_eq_true rfl) (Nat.le_of_ble_eq_true rfl) rfl, HO⟩
    · -- 16 load
      rintro L a wc ⟨hv, HO⟩ hL hc hd
      have x1' : wc.cell? ⟨X, 1, none⟩ = some (.int .i64 (bb : Int)) := HO.out.cell x1
      exact wpOp_val rfl ((wanted_at rfl rfl (hv.get 14 rfl rfl (hd 14 (by decide)))).trans rfl) (ex_load rfl (hv.get 15 rfl rfl (hd 15 (by decide))) (by go_simp)) ⟨hv.put hop_7_apart 16 rfl (Nat.le_of_ble_eq_true rfl) (Nat.le_of_ble_eq_true rfl) rfl, HO⟩
    · -- 17 move
      rintro L a wc ⟨hv, HO⟩ hL hc hd
      exact wpOp_val rfl ((wanted_at rfl rfl (hv.get 14 rfl rfl (hd 14 (by decide)))).trans rfl) (ex_move rfl ((hv.fixed 5 (by decide)).trans rfl)) ⟨hv.put hop_7_apart 17 rfl (Nat.le_of_ble_eq_true rfl) (Nat.le_of_ble_eq_true rfl) rfl, HO⟩
    · -- 18 bin
      rintro L a wc ⟨hv, HO⟩ hL hc hd
      exact wpOp_val rfl ((wanted_at rfl rfl (hv.get 14 rfl rfl (hd 14 (by decide)))).trans rfl) (ex_bin rfl (hv.get 16 rfl rfl (hd 16 (by decide))) (hv.get 17 rfl rfl (hd 17 (by decide))) (by go_simp)) ⟨hv.put hop_7_apart 18 rfl (Nat.le_of_ble_eq_true rfl) (Nat.le_of_ble_eq_true rfl) rfl, HO⟩
    · -- 19 pick
      rintro L a wc ⟨hv, HO⟩ hL hc hd
      exact wpOp_val rfl rfl (ex_pick rfl (hv.get 14 rfl rfl (hd 14 (by decide))) ((if_neg (by simp)).trans (hv.get 18 rfl rfl (hd 18 (by decide))))) ⟨hv.put hop_7_apart 19 rfl (Nat.le_of_ble_eq_true rfl) (Nat.le_of_ble_eq_true rfl) rfl, HO⟩
    · -- 20 move
      rintro L a wc ⟨hv, HO⟩ hL hc hd
      exact wpOp_val rfl rfl (ex_move rfl (hv.get 19 rfl rfl (hd 19 (by decide)))) ⟨hv.put hop_7_apart 20 rfl (Nat.le_of_ble_eq_true rfl) (Nat.le_of_ble_eq_true rfl) rfl, HO⟩
    · -- 21 field
      rintro L a wc ⟨hv, HO⟩ hL hc hd
      exact wpOp_val rfl ((wanted_at rfl rfl (hv.get 20 rfl rfl (hd 20 (by decide)))).trans rfl) (ex_field rfl ((hv.fixed 8 (by decide)).trans rfl) (by go_simp)) ⟨hv.put hop_7_apart 21 rfl (Nat.le_of_ble_eq_true rfl) (Nat.le_of_ble_eq_true rfl) rfl, HO⟩
    · -- 22 load
      rintro L a wc ⟨hv, HO⟩ hL hc hd
      have x0' : wc.cell? ⟨X, 0, none⟩ = some (.int .i64 (aa : Int)) := HO.out.cell x0
      exact wpOp_val rfl ((wanted_at rfl rfl (hv.get 20 rfl rfl (hd 20 (by decide)))).trans rfl) (ex_load rfl (hv.get 21 rfl rfl (hd 21 (by decide))) (by go_simp)) ⟨hv.put hop_7_apart 22 rfl (Nat.le_of_ble_eq_true rfl) (Nat.le_of_ble_eq_true rfl) rfl, HO⟩
    · -- 23 field
      rintro L a wc ⟨hv, HO⟩ hL hc hd
      exact wpOp_val rfl ((wanted_at rfl rfl (hv.get 20 rfl rfl (hd 20 (by decide)))).trans rfl) (ex_field rfl ((hv.fixed 8 (by decide)).trans rfl) (by go_simp)) ⟨hv.put hop_7_apart 23 rfl (Nat.le_of_ble_eq_true rfl) (Nat.le_of_ble_eq_true rfl) rfl, HO⟩
    · -- 24 load
      rintro L a wc ⟨hv, HO⟩ hL hc hd
      have x1' : wc.cell? ⟨X, 1, none⟩ = some (.int .i64 (bb : Int)) := HO.out.cell x1
      exact wpOp_val rfl ((wanted_at rfl rfl (hv.get 20 rfl rfl (hd 20 (by decide)))).trans rfl) (ex_load rfl (hv.get 23 rfl rfl (hd 23 (by decide))) (by go_simp)) ⟨hv.put hop_7_apart 24 rfl (Nat.le_of_ble_eq_true rfl) (Nat.le_of_ble_eq_true rfl) rfl, HO⟩
    · -- 25 bin
      rintro L a wc ⟨hv, HO⟩ hL hc hd
      exact wpOp_val rfl ((wanted_at rfl rfl (hv.get 20 rfl rfl (hd 20 (by decide)))).trans rfl) (ex_bin rfl (hv.get 22 rfl rfl (hd 22 (by decide))) (hv.get 24 rfl rfl (hd 24 (by decide))) (by go_simp)) ⟨hv.put hop_7_apart 25 rfl (Nat.le_of_ble_eq_true rfl) (Nat.le_of_ble_eq_true rfl) rfl, HO⟩
    · -- 26 pick
      rintro L a wc ⟨hv, HO⟩ hL hc hd
      exact wpOp_val rfl rfl (ex_pick rfl (hv.get 20 rfl rfl (hd 20 (by decide))) ((if_neg (by simp)).trans (hv.get 25 rfl rfl (hd 25 (by decide))))) ⟨hv.put hop_7_apart 26 rfl (Nat.le_of_ble_eq_true rfl) (Nat.le_of_ble_eq_true rfl) rfl, HO⟩
    · -- 27 move
      rintro L a wc ⟨hv, HO⟩ hL hc hd
      exact wpOp_val rfl rfl (ex_move rfl (hv.get 26 rfl rfl (hd 26 (by decide)))) ⟨hv.put hop_7_apart 27 rfl (Nat.le_of_ble_eq_true rfl) (Nat.le_of_ble_eq_true rfl) rfl, HO⟩
    · -- 28 field
      rintro L a wc ⟨hv, HO⟩ hL hc hd
      exact wpOp_val rfl ((wanted_at rfl rfl (hv.get 27 rfl rfl (hd 27 (by decide)))).trans rfl) (ex_field rfl ((hv.fixed 8 (by decide)).trans rfl) (by go_simp)) ⟨hv.put hop_7_apart 28 rfl (Nat.le_of_ble_eq_true rfl) (Nat.le_of_ble_eq_true rfl) rfl, HO⟩
    · -- 29 load
      rintro L a wc ⟨hv, HO⟩ hL hc hd
      have x0' : wc.cell? ⟨X, 0, none⟩ = some (.int .i64 (aa : Int)) := HO.out.cell x0
      exact wpOp_val rfl ((wanted_at rfl rfl (hv.get 27 rfl rfl (hd 27 (by decide)))).trans rfl) (ex_load rfl (hv.get 28 rfl rfl (hd 28 (by decide))) (by go_simp)) ⟨hv.put hop_7_apart 29 rfl (Nat.le_of_ble_eq_true rfl) (Nat.le_of_ble_eq_true rfl) rfl, HO⟩
    · -- 30 field
      rintro L a wc ⟨hv, HO⟩ hL hc hd
      exact wpOp_val rfl ((wanted_at rfl rfl (hv.get 27 rfl rfl (hd 27 (by decide)))).trans rfl) (ex_field rfl ((hv.fixed 2 (by decide)).trans rfl) (by go_simp)) ⟨hv.put hop_7_apart 30 rfl (Nat.le_of_ble_eq_true rfl) (Nat.le_of_ble_eq_true rfl) rfl, HO⟩
    · -- 31 load
      rintro L a wc ⟨hv, HO⟩ hL hc hd
      have h2' : wc.cell? ⟨B, 2, none⟩ = some (.int .i64 g) := HO.out.cell h2
      exact wpOp_val rfl ((wanted_at rfl rfl (hv.get 27 rfl rfl (hd 27 (by decide)))).trans rfl) (ex_load rfl (hv.get 30 rfl rfl (hd 30 (by decide))) (by go_simp)) ⟨hv.put hop_7_apart 31 rfl (Nat.le_of_ble_eq_true rfl) (Nat.le_of_ble_eq_true rfl) rfl, HO⟩
    · -- 32 bin
      rintro L a wc ⟨hv, HO⟩ hL hc hd
      exact wpOp_val rfl ((wanted_at rfl rfl (hv.get 27 rfl rfl (hd 27 (by decide)))).trans rfl) (ex_bin rfl (hv.get 29 rfl rfl (hd 29 (by decide))) (hv.get 31 rfl rfl (hd 31 (by decide))) (by go_simp)) ⟨hv.put hop_7_apart 32 rfl (Nat.le_of_ble_eq_true rfl) (Nat.le_of_ble_eq_true rfl) rfl, HO⟩
    · -- 33 pick
      rintro L a wc ⟨hv, HO⟩ hL hc hd
      exact wpOp_val rfl rfl (ex_pick rfl (hv.get 27 rfl rfl (hd 27 (by decide))) ((if_neg (by simp)).trans (hv.get 32 rfl rfl (hd 32 (by decide))))) ⟨hv.put hop_7_apart 33 rfl (Nat.le_of_ble_eq_true rfl) (Nat.le_of_ble_eq_true rfl) rfl, HO⟩
    · -- 34 move
      rintro L a wc ⟨hv, HO⟩ hL hc hd
      exact wpOp_val rfl rfl (ex_move rfl (hv.get 33 rfl rfl (hd 33 (by decide)))) ⟨hv.put hop_7_apart 34 rfl (Nat.le_of_ble_eq_true rfl) (Nat.le_of_ble_eq_true rfl) rfl, HO⟩
    · -- 35 field
      rintro L a wc ⟨hv, HO⟩ hL hc hd
      exact wpOp_val rfl ((wanted_at rfl rfl (hv.get 34 rfl rfl (hd 34 (by decide)))).trans rfl) (ex_field rfl ((hv.fixed 2 (by decide)).trans rfl) (by go_simp)) ⟨hv.put hop_7_apart 35 rfl (Nat.le_of_ble_eq_true rfl) (Nat.le_of_ble_eq_true rfl) rfl, HO⟩
    · -- 36 load
      rintro L a wc ⟨hv, HO⟩ hL hc hd
      have h0' : wc.cell? ⟨B, 0, none⟩ = some (.slice (some ad1) n cA) := HO.out.cell h0
      exact wpOp_val rfl ((wanted_at rfl rfl (hv.get 34 rfl rfl (hd 34 (by decide)))).trans rfl) (ex_load rfl (hv.get 35 rfl rfl (hd 35 (by decide))) (by go_simp)) ⟨hv.put hop_7_apart 36 rfl (Nat.le_of_ble_eq_true rfl) (Nat.le_of_ble_eq_true rfl) rfl, HO⟩
    · -- 37 field
      rintro L a wc ⟨hv, HO⟩ hL hc hd
      exact wpOp_val rfl ((wanted_at rfl rfl (hv.get 34 rfl rfl (hd 34 (by decide)))).trans rfl) (ex_field rfl ((hv.fixed 8 (by decide)).trans rfl) (by go_simp)) ⟨hv.put hop_7_apart 37 rfl (Nat.le_of_ble_eq_true rfl) (Nat.le_of_ble_eq_true rfl) rfl, HO⟩
    · -- 38 load
      rintro L a wc ⟨hv, HO⟩ hL hc hd
      have x0' : wc.cell? ⟨X, 0, none⟩ = some (.int .i64 (aa : Int)) := HO.out.cell x0
      exact wpOp_val rfl ((wanted_at rfl rfl (hv.get 34 rfl rfl (hd 34 (by decide)))).trans rfl) (ex_load rfl (hv.get 37 rfl rfl (hd 37 (by decide))) (by go_simp)) ⟨hv.put hop_7_apart 38 rfl (Nat.le_of_ble_eq_true rfl) (Nat.le_of_ble_eq_true rfl) rfl, HO⟩
    · -- 39 index
      rintro L a wc ⟨hv, HO⟩ hL hc hd
      exact wpOp_val rfl ((wanted_at rfl rfl (hv.get 34 rfl rfl (hd 34 (by decide)))).trans rfl) (ex_index rfl (hv.get 36 rfl rfl (hd 36 (by decide))) (hv.get 38 rfl rfl (hd 38 (by decide))) (by go_simp)) ⟨hv.put hop_7_apart 39 rfl (Nat.le_of_ble_eq_true rfl) (Nat.le_of_ble_eq_true rfl) rfl, HO⟩
    · -- 40 load
      rintro L a wc ⟨hv, HO⟩ hL hc hd
      have g1' : wc.cell? (ad1.add aa) = some (.slice (some ad2) n cc) := HO.out.cell g1
      exact wpOp_val rfl ((wanted_at rfl rfl (hv.get 34 rfl rfl (hd 34 (by decide)))).trans rfl) (ex_load rfl (hv.get 39 rfl rfl (hd 39 (by decide))) (by go_simp)) ⟨hv.put hop_7_apart 40 rfl (Nat.le_of_ble_eq_true rfl) (Nat.le_of_ble_eq_true rfl) rfl, HO⟩
    · -- 41 field
      rintro L a wc ⟨hv, HO⟩ hL hc hd
      exact wpOp_val rfl ((wanted_at rfl rfl (hv.get 34 rfl rfl (hd 34 (by decide)))).trans rfl) (ex_field rfl ((hv.fixed 8 (by decide)).trans rfl) (by go_simp)) ⟨hv.put hop_7_apart 41 rfl (Nat.le_of_ble_eq_true rfl) (Nat.le_of_ble_eq_true rfl) rfl, HO⟩
    · -- 42 load
      rintro L a wc ⟨hv, HO⟩ hL hc hd
      have x1' : wc.cell? ⟨X, 1, none⟩ = some (.int .i64 (bb : Int)) := HO.out.cell x1
      exact wpOp_val rfl ((wanted_at rfl rfl (hv.get 34 rfl rfl (hd 34 (by decide)))).trans rfl) (ex_load rfl (hv.get 41 rfl rfl (hd 41 (by decide))) (by go_simp)) ⟨hv.put hop_7_apart 42 rfl (Nat.le_of_ble_eq_true rfl) (Nat.le_of_ble_eq_true rfl) rfl, HO⟩
    · -- 43 index
      rintro L a wc ⟨hv, HO⟩ hL hc hd
      exact wpOp_val rfl ((wanted_at rfl rfl (hv.get 34 rfl rfl (hd 34 (by decide)))).trans rfl) (ex_index rfl (hv.get 40 rfl rfl (hd 40 (by decide))) (hv.get 42 rfl rfl (hd 42 (by decide))) (by go_simp)) ⟨hv.put hop_7_apart 43 rfl (Nat.le_of_ble_eq_true rfl) (Nat.le_of_ble_eq_true rfl) rfl, HO⟩
    · -- 44 load
      rintro L a wc ⟨hv, HO⟩ hL hc hd
      have g2' : wc.cell? (ad2.add bb) = some (.int .i64 pp) := HO.out.cell g2
      exact wpOp_val rfl ((wanted_at rfl rfl (hv.get 34 rfl rfl (hd 34 (by decide)))).trans rfl) (ex_load rfl (hv.get 43 rfl rfl (hd 43 (by decide))) (by go_simp)) ⟨hv.put hop_7_apart 44 rfl (Nat.le_of_ble_eq_true rfl) (Nat.le_of_ble_eq_true rfl) rfl, HO⟩
    · -- 45 bin
      rintro L a wc ⟨hv, HO⟩ hL hc hd
      exact wpOp_val rfl ((wanted_at rfl rfl (hv.get 34 rfl rfl (hd 34 (by decide)))).trans rfl) (ex_bin rfl (hv.get 44 rfl rfl (hd 44 (by decide))) rfl (by go_simp)) ⟨hv.put hop_7_apart 45 rfl (Nat.le_of_ble_eq_true rfl) (Nat.le_of_ble_eq_true rfl) rfl, HO⟩
    · -- 46 pick
      rintro L a wc ⟨hv, HO⟩ hL hc hd
      exact wpOp_val rfl rfl (ex_pick rfl (hv.get 34 rfl rfl (hd 34 (by decide))) ((if_neg (by simp)).trans (hv.get 45 rfl rfl (hd 45 (by decide))))) ⟨hv.put hop_7_apart 46 rfl (Nat.le_of_ble_eq_true rfl) (Nat.le_of_ble_eq_true rfl) rfl, HO⟩
    · -- 47 move
      rintro L a wc ⟨hv, HO⟩ hL hc hd
      exact wpOp_val rfl rfl (ex_move rfl (hv.get 46 rfl rfl (hd 46 (by decide)))) ⟨hv.put hop_7_apart 47 rfl (Nat.le_of_ble_eq_true rfl) (Nat.le_of_ble_eq_true rfl) rfl, HO⟩
    · -- 48 move
      rintro L a wc ⟨hv, HO⟩ hL hc hd
      exact wpOp_val rfl ((wanted_at rfl rfl (hv.get 47 rfl rfl (hd 47 (by decide)))).trans rfl) (ex_move rfl ((hv.fixed 7 (by decide)).trans rfl)) ⟨hv.put hop_7_apart 48 rfl (Nat.le_of_ble_eq_true rfl) (Nat.le_of_ble_eq_true rfl) rfl, HO⟩
    · -- 49 bin
      rintro L a wc ⟨hv, HO⟩ hL hc hd
      exact wpOp_val rfl ((wanted_at rfl rfl (hv.get 47 rfl rfl (hd 47 (by decide)))).trans rfl) (ex_bin rfl (hv.get 48 rfl rfl (hd 48 (by decide))) rfl (by go_simp)) ⟨hv.put hop_7_apart 49 rfl (Nat.le_of_ble_eq_true rfl) (Nat.le_of_ble_eq_true rfl) rfl, HO⟩
    · -- 50 move
      rintro L a wc ⟨hv, HO⟩ hL hc hd
      exact wpOp_val rfl ((wanted_at rfl rfl (hv.get 47 rfl rfl (hd 47 (by decide)))).trans rfl) (ex_move rfl (hv.get 49 rfl rfl (hd 49 (by decide)))) ⟨hv.put hop_7_apart 50 rfl (Nat.le_of_ble_eq_true rfl) (Nat.le_of_ble_eq_true rfl) rfl, HO⟩
    · -- 51 move
      rintro L a wc ⟨hv, HO⟩ hL hc hd
      exact wpOp_val rfl ((wanted_at rfl rfl (hv.get 50 rfl rfl (hd 50 (by decide)))).trans rfl) (ex_move rfl ((hv.fixed 1 (by decide)).trans rfl)) ⟨hv.put hop_7_apart 51 rfl (Nat.le_of_ble_eq_true rfl) (Nat.le_of_ble_eq_true rfl) rfl, HO⟩
    · -- 52 move
      rintro L a wc ⟨hv, HO⟩ hL hc hd
      exact wpOp_val rfl ((wanted_at rfl rfl (hv.get 50 rfl rfl (hd 50 (by decide)))).trans rfl) (ex_move rfl ((hv.fixed 7 (by decide)).trans rfl)) ⟨hv.put hop_7_apart 52 rfl (Nat.le_of_ble_eq_true rfl) (Nat.le_of_ble_eq_true rfl) rfl, HO⟩
    · -- 53 bin
      rintro L a wc ⟨hv, HO⟩ hL hc hd
      have h : IntKind.i64.wrap (j : Int) = (j : Int) := by rw [IntKind.wrap_i64]; omega
      exact wpOp_val rfl ((wanted_at rfl rfl (hv.get 50 rfl rfl (hd 50 (by decide)))).trans rfl) (ex_bin rfl (hv.get 52 rfl rfl (hd 52 (by decide))) rfl (by go_simp)) ⟨hv.put hop_7_apart 53 rfl (Nat.le_of_ble_eq_true rfl) (Nat.le_of_ble_eq_true rfl) rfl, HO⟩
    · -- 54 index
      rintro L a wc ⟨hv, HO⟩ hL hc hd
      exact wpOp_val rfl ((wanted_at rfl rfl (hv.get 50 rfl rfl (hd 50 (by decide)))).trans rfl) (ex_index rfl (hv.get 51 rfl rfl (hd 51 (by decide))) (hv.get 53 rfl rfl (hd 53 (by decide))) (by go_simp)) ⟨hv.put hop_7_apart 54 rfl (Nat.le_of_ble_eq_true rfl) (Nat.le_of_ble_eq_true rfl) rfl, HO⟩
    · -- 55 field
      rintro L a wc ⟨hv, HO⟩ hL hc hd
      exact wpOp_val rfl ((wanted_at rfl rfl (hv.get 50 rfl rfl (hd 50 (by decide)))).trans rfl) (ex_field rfl (hv.get 54 rfl rfl (hd 54 (by decide))) (by go_simp)) ⟨hv.put hop_7_apart 55 rfl (Nat.le_of_ble_eq_true rfl) (Nat.le_of_ble_eq_true rfl) rfl, HO⟩
    · -- 56 load
      rintro L a wc ⟨hv, HO⟩ hL hc hd
      have m1' : wc.cell? (ad.add (j * 2)) = some (.int .i64 f0) := HO.out.cell m1
      exact wpOp_val rfl ((wanted_at rfl rfl (hv.get 50 rfl rfl (hd 50 (by decide)))).trans rfl) (ex_load rfl (hv.get 55 rfl rfl (hd 55 (by decide))) (by go_simp)) ⟨hv.put hop_7_apart 56 rfl (Nat.le_of_ble_eq_true rfl) (Nat.le_of_ble_eq_true rfl) rfl, HO⟩
    · -- 57 field
      rintro L a wc ⟨hv, HO⟩ hL hc hd
      exact wpOp_val rfl ((wanted_at rfl rfl (hv.get 50 rfl rfl (hd 50 (by decide)))).trans rfl) (ex_field rfl ((hv.fixed 8 (by decide)).trans rfl) (by go_simp)) ⟨hv.put hop_7_apart 57 rfl (Nat.le_of_ble_eq_true rfl) (Nat.le_of_ble_eq_true rfl) rfl, HO⟩
    · -- 58 load
      rintro L a wc ⟨hv, HO⟩ hL hc hd
      have x0' : wc.cell? ⟨X, 0, none⟩ = some (.int .i64 (aa : Int)) := HO.out.cell x0
      exact wpOp_val rfl ((wanted_at rfl rfl (hv.get 50 rfl rfl (hd 50 (by decide)))).trans rfl) (ex_load rfl (hv.get 57 rfl rfl (hd 57 (by decide))) (by go_simp)) ⟨hv.put hop_7_apart 58 rfl (Nat.le_of_ble_eq_true rfl) (Nat.le_of_ble_eq_true rfl) rfl, HO⟩
    · -- 59 bin
      rintro L a wc ⟨hv, HO⟩ hL hc hd
      exact wpOp_val rfl ((wanted_at rfl rfl (hv.get 50 rfl rfl (hd 50 (by decide)))).trans rfl) (ex_bin rfl (hv.get 56 rfl rfl (hd 56 (by decide))) (hv.get 58 rfl rfl (hd 58 (by decide))) (by go_simp)) ⟨hv.put hop_7_apart 59 rfl (Nat.le_of_ble_eq_true rfl) (Nat.le_of_ble_eq_true rfl) rfl, HO⟩
    · -- 60 pick
      rintro L a wc ⟨hv, HO⟩ hL hc hd
      exact wpOp_val rfl ((wanted_at rfl rfl (hv.get 47 rfl rfl (hd 47 (by decide)))).trans rfl) (ex_pick rfl (hv.get 50 rfl rfl (hd 50 (by decide))) ((if_pos rfl).trans (hv.get 59 rfl rfl (hd 59 (by decide))))) ⟨hv.put hop_7_apart 60 rfl (Nat.le_of_ble_eq_true rfl) (Nat.le_of_ble_eq_true rfl) rfl, HO⟩
    · -- 61 pick
      rintro L a wc ⟨hv, HO⟩ hL hc hd
      exact wpOp_val rfl rfl (ex_pick rfl (hv.get 47 rfl rfl (hd 47 (by decide))) ((if_neg (by simp)).trans (hv.get 60 rfl rfl (hd 60 (by decide))))) ⟨hv.put hop_7_apart 61 rfl (Nat.le_of_ble_eq_true rfl) (Nat.le_of_ble_eq_true rfl) rfl, HO⟩
  · rintro L a wc ⟨hv, HO⟩ hall
    show K a wc
    have ha := act_lit a
    rw [hv.size, hv.defers] at ha
    have hl : ∀ f : Nat → Value, ((List.range (⟨#[c0, .slice (some ad) ln e, .pointer (some ⟨B, 0, none⟩), c3, c4, .int .i64 (n : Nat), c6, .int .i64 I, .pointer (some ⟨X, 0, none⟩), c9, c10, c11, c12, c13, c14, c15, c16, c17, c18, c19, c20, c21, c22, c23, c24, c25, c26, c27, c28, c29, c30, c31, c32, c33, c34, c35, c36, c37, c38, c39, c40, c41, c42, c43, c44, c45, c46, c47, c48, c49, c50, c51, c52, c53, c54, c55, c56, c57, c58, c59, c60, c61, c62, c63, c64, c65, c66, c67, c68, c69, c70, c71, c72, c73, c74, c75, c76, c77, c78, c79, c80, c81, c82, c83, c84, c85, c86, c87, c88, c89, c90, c91, c92, c93, c94, c95, c96, c97, c98, c99, c100, c101, c102, c103, c104, c105, c106, c107, c108, c109, c110, c111, c112, c113, c114, c115, c116, c117, c118, c119, c120, c121, c122, c123, c124, c125, c126, c127, c128, c129, c130, c131, c132, c133, c134, c135, c136, c137, c138, c139, c140], df⟩ : Act).tmps.size).map f).toArray = #[f 0, f 1, f 2, f 3, f 4, f 5, f 6, f 7, f 8, f 9, f 10, f 11, f 12, f 13, f 14, f 15, f 16, f 17, f 18, f 19, f 20, f 21, f 22, f 23, f 24, f 25, f 26, f 27, f 28, f 29, f 30, f 31, f 32, f 33, f 34, f 35, f 36, f 37, f 38, f 39, f 40, f 41, f 42, f 43, f 44, f 45, f 46, f 47, f 48, f 49, f 50, f 51, f 52, f 53, f 54, f 55, f 56, f 57, f 58, f 59, f 60, f 61, f 62, f 63, f 64, f 65, f 66, f 67, f 68, f 69, f 70, f 71, f 72, f 73, f 74, f 75, f 76, f 77, f 78, f 79, f 80, f 81, f 82, f 83, f 84, f 85, f 86, f 87, f 88, f 89, f 90, f 91, f 92, f 93, f 94, f 95, f 96, f 97, f 98, f 99, f 100, f 101, f 102, f 103, f 104, f 105, f 106, f 107, f 108, f 109, f 110, f 111, f 112, f 113, f 114, f 115, f 116, f 117, f 118, f 119, f 120, f 121, f 122, f 123, f 124, f 125, f 126, f 127, f 128, f 129, f 130, f 131, f 132, f 133, f 134, f 135, f 136, f 137, f 138, f 139, f 140] := fun _ => rfl
    rw [hl] at ha
    simp only [hv.fixed 0 (by decide), hv.fixed 1 (by decide), hv.fixed 2 (by decide), hv.fixed 3 (by decide), hv.fixed 4 (by decide), hv.fixed 5 (by decide), hv.fixed 6 (by decide), hv.fixed 7 (by decide), hv.fixed 8 (by decide), hv.fixed 9 (by decide), hv.fixed 10 (by decide), hv.fixed 11 (by decide), hv.fixed 12 (by decide), hv.fixed 13 (by decide), hv.fixed 14 (by decide), hv.fixed 15 (by decide), hv.fixed 16 (by decide), hv.fixed 17 (by decide), hv.fixed 18 (by decide), hv.fixed 19 (by decide), hv.fixed 20 (by decide), hv.fixed 21 (by decide), hv.fixed 22 (by decide), hv.fixed 23 (by decide), hv.fixed 24 (by decide), hv.fixed 25 (by decide), hv.fixed 26 (by decide), hv.fixed 27 (by decide), hv.fixed 28 (by decide), hv.fixed 29 (by decide), hv.fixed 30 (by decide), hv.fixed 31 (by decide), hv.fixed 94 (by decide), hv.fixed 95 (by decide), hv.fixed 96 (by decide), hv.fixed 97 (by decide), hv.fixed 98 (by decide), hv.fixed 99 (by decide), hv.fixed 100 (by decide), hv.fixed 101 (by decide), hv.fixed 102 (by decide), hv.fixed 103 (by decide), hv.fixed 104 (by decide), hv.fixed 105 (by decide), hv.fixed 106 (by decide), hv.fixed 107 (by decide), hv.fixed 108 (by decide), hv.fixed 109 (by decide), hv.fixed 110 (by decide), hv.fixed 111 (by decide), hv.fixed 112 (by decide), hv.fixed 113 (by decide), hv.fixed 114 (by decide), hv.fixed 115 (by decide), hv.fixed 116 (by decide), hv.fixed 117 (by decide), hv.fixed 118 (by decide), hv.fixed 119 (by decide), hv.fixed 120 (by decide), hv.fixed 121 (by decide), hv.fixed 122 (by decide), hv.fixed 123 (by decide), hv.fixed 124 (by decide), hv.fixed 125 (by decide), hv.fixed 126 (by decide), hv.fixed 127 (by decide), hv.fixed 128 (by decide), hv.fixed 129 (by decide), hv.fixed 130 (by decide), hv.fixed 131 (by decide), hv.fixed 132 (by decide), hv.fixed 133 (by decide), hv.fixed 134 (by decide), hv.fixed 135 (by decide), hv.fixed 136 (by decide), hv.fixed 137 (by decide), hv.fixed 138 (by decide), hv.fixed 139 (by decide), hv.fixed 140 (by decide), hv.get 61 (d := 93) rfl rfl (hall 61 (by decide))] at ha
    rw [ha]
    exact hK _ _ _ _ _ _ _ _ _ _ _ _ _ _ _ _ _ _ _ _ _ _ _ _ _ _ _ _ _ _ _ _ _ _ _ _ _ _ _ _ _ _ _ _ _ _ _ _ _ _ _ _ _ _ _ _ _ _ _ _ _ wc HO.out
noncomputable def hop_8_code : Code := ((Tryd.f14.body.bind (regionOf 8)).getD .skip)
def hop_8_dsts : List (Option Nat) := [some 32, some 33, some 34, some 35, some 36, some 37, some 38, some 39, some 40, some 41, some 42, some 43, some 44, some 45, some 46, some 47, some 48, some 49, some 50, some 51, some 52, some 53, some 54, some 55, some 56, some 57, some 58, some 59, some 60, some 61, some 62, some 63, some 64, some 65, some 66, some 67, some 68, some 69, some 70, some 71, some 72, some 73, some 74, some 75, some 76, some 77, some 78, some 79, some 80, some 81, some 82, some 83, some 84, some 85, some 86, some 87, some 88, some 89, some 90, some 91, some 92, some 93]
theorem hop_8_apart : apartD hop_8_dsts = true := by decide +kernel
set_option maxRecDepth 1000000 in
set_option maxHeartbeats 16000000 in
theorem hop_8 (wr : World) (aa bb : Nat) (X n : Nat) (x0 : wr.cell? ⟨X, 0, none⟩ = some (.int .i64 (aa : Int))) (x1 : wr.cell? ⟨X, 1, none⟩ = some (.int .i64 (bb : Int))) (ha : aa < n) (hb : bb < n) (u4 : ((aa : Int) == (bb : Int)) = false) (g : Int) (B : Nat) (h2 : wr.cell? ⟨B, 2, none⟩ = some (.int .i64 g)) (u5 : ((aa : Int) == g) = false) (cA cc : Nat) (ad1 ad2 : Addr) (pp : Int) (h0 : wr.cell? ⟨B, 0, none⟩ = some (.slice (some ad1) n cA)) (g1 : wr.cell? (ad1.add aa) = some (.slice (some ad2) n cc)) (g2 : wr.cell? (ad2.add bb) = some (.int .i64 pp)) (q6 : ¬ pp < 0) (I : Int) (hI0 : ¬ 0 < I) (c0 c1 c3 c4 c6 c9 c10 c11 c12 c13 c14 c15 c16 c17 c18 c19 c20 c21 c22 c23 c24 c25 c26 c27 c28 c29 c30 c31 c32 c33 c34 c35 c36 c37 c38 c39 c40 c41 c42 c43 c44 c45 c46 c47 c48 c49 c50 c51 c52 c53 c54 c55 c56 c57 c58 c59 c60 c61 c62 c63 c64 c65 c66 c67 c68 c69 c70 c71 c72 c73 c74 c75 c76 c77 c78 c79 c80 c81 c82 c83 c84 c85 c86 c87 c88 c89 c90 c91 c92 c93 c94 c95 c96 c97 c98 c99 c100 c101 c102 c103 c104 c105 c106 c107 c108 c109 c110 c111 c112 c113 c114 c115 c116 c117 c118 c119 c120 c121 c122 c123 c124 c125 c126 c127 c128 c129 c130 c131 c132 c133 c134 c135 c136 c137 c138 c139 c140 : Value) (df : List Deferred) (K : Act → World → Prop)
    (hK : ∀  (u32 u33 u34 u35 u36 u37 u38 u39 u40 u41 u42 u43 u44 u45 u46 u47 u48 u49 u50 u51 u52 u53 u54 u55 u56 u57 u58 u59 u60 u61 u62 u63 u64 u65 u66 u67 u68 u69 u70 u71 u72 u73 u74 u75 u76 u77 u78 u79 u80 u81 u82 u83 u84 u85 u86 u87 u88 u89 u90 u91 u92 : Value) (wx : World), Ext wr wx → K ⟨#[c0, c1, .pointer (some ⟨B, 0, none⟩), c3, c4, .int .i64 (n : Nat), c6, .int .i64 I, .pointer (some ⟨X, 0, none⟩), c9, c10, c11, c12, c13, c14, c15, c16, c17, c18, c19, c20, c21, c22, c23, c24, c25, c26, c27, c28, c29, c30, c31, u32, u33, u34, u35, u36, u37, u38, u39, u40, u41, u42, u43, u44, u45, u46, u47, u48, u49, u50, u51, u52, u53, u54, u55, u56, u57, u58, u59, u60, u61, u62, u63, u64, u65, u66, u67, u68, u69, u70, u71, u72, u73, u74, u75, u76, u77, u78, u79, u80, u81, u82, u83, u84, u85, u86, u87, u88, u89, u90, u91, u92, .bool false, c94, c95, c96, c97, c98, c99, c100, c101, c102, c103, c104, c105, c106, c107, c108, c109, c110, c111, c112, c113, c114, c115, c116, c117, c118, c119, c120, c121, c122, c123, c124, c125, c126, c127, c128, c129, c130, c131, c132, c133, c134, c135, c136, c137, c138, c139, c140], df⟩ wx) :
    Code.wp Tryd.prog hop_8_code (AtEnd K) ⟨#[c0, c1, .pointer (some ⟨B, 0, none⟩), c3, c4, .int .i64 (n : Nat), c6, .int .i64 I, .pointer (some ⟨X, 0, none⟩), c9, c10, c11, c12, c13, c14, c15, c16, c17, c18, c19, c20, c21, c22, c23, c24, c25, c26, c27, c28, c29, c30, c31, c32, c33, c34, c35, c36, c37, c38, c39, c40, c41, c42, c43, c44, c45, c46, c47, c48, c49, c50, c51, c52, c53, c54, c55, c56, c57, c58, c59, c60, c61, c62, c63, c64, c65, c66, c67, c68, c69, c70, c71, c72, c73, c74, c75, c76, c77, c78, c79, c80, c81, c82, c83, c84, c85, c86, c87, c88, c89, c90, c91, c92, c93, c94, c95, c96, c97, c98, c99, c100, c101, c102, c103, c104, c105, c106, c107, c108, c109, c110, c111, c112, c113, c114, c115, c116, c117, c118, c119, c120, c121, c122, c123, c124, c125, c126, c127, c128, c129, c130, c131, c132, c133, c134, c135, c136, c137, c138, c139, c140], df⟩ wr := by
  conv => arg 2; whnf
  refine region_inv (by kernel_rfl) [[], [0], [1], [2], [3], [4, 3], [3], [5, 6, 3], [3, 7], [8, 3], [9], [10, 9], [11, 9], [9, 12], [13, 9], [14], [15, 14], [14], [16, 17, 14], [14, 18], [19, 14], [20], [21, 20], [20], [23, 20], [22, 24, 20], [20, 25], [26, 20], [27], [28, 27], [27], [30, 27], [29, 31, 27], [27, 32], [33, 27], [34], [35, 34], [34], [37, 34], [36, 38, 34], [39, 34], [34], [41, 34], [40, 42, 34], [43, 34], [44, 34], [34, 45], [46, 34], [47], [48, 47], [49, 47, 47], [50], [50], [52, 50], [51, 53, 50], [54, 50], [55, 50], [50], [57, 50], [56, 58, 50], [50, 59, 47], [47, 60]] (by kernel_rfl) [0, 1, 2, 3, 4, 5, 6, 7, 8, 9, 10, 11, 12, 13, 14, 15, 16, 17, 18, 19, 20, 21, 22, 23, 24, 25, 26, 27, 28, 29, 30, 31, 32, 33, 34, 35, 36, 37, 38, 39, 40, 41, 42, 43, 44, 45, 46, 47, 48, 49, 50, 51, 52, 53, 54, 55, 56, 57, 58, 59, 60, 61] (by decide +kernel) (by decide +kernel) (by decide +kernel) (fun L a wc => Inv hop_8_dsts [.pointer (some ⟨X, 0, none⟩), .int .i64 (aa : Int), .bool false, .bool false, .pointer (some ⟨X, 0, none⟩), .int .i64 (aa : Int), .int .i64 (n : Nat), .bool false, .bool false, .bool false, .pointer (some ⟨X, 1, none⟩), .int .i64 (bb : Int), .bool false, .bool false, .bool false, .pointer (some ⟨X, 1, none⟩), .int .i64 (bb : Int), .int .i64 (n : Nat), .bool false, .bool false, .bool false, .pointer (some ⟨X, 0, none⟩), .int .i64 (aa : Int), .pointer (some ⟨X, 1, none⟩), .int .i64 (bb : Int), .bool false, .bool false, .bool false, .pointer (some ⟨X, 0, none⟩), .int .i64 (aa : Int), .pointer (some ⟨B, 2, none⟩), .int .i64 g, .bool false, .bool false, .bool false, .pointer (some ⟨B, 0, none⟩), .slice (some ad1) n cA, .pointer (some ⟨X, 0, none⟩), .int .i64 (aa : Int), .pointer (some (ad1.add aa)), .slice (some ad2) n cc, .pointer (some ⟨X, 1, none⟩), .int .i64 (bb : Int), .pointer (some (ad2.add bb)), .int .i64 pp, .bool false, .bool false, .bool false, .int .i64 I, .bool false, .bool false, undef, undef, undef, undef, undef, undef, undef, undef, undef, .bool false, .bool false] ⟨#[c0, c1, .pointer (some ⟨B, 0, none⟩), c3, c4, .int .i64 (n : Nat), c6, .int .i64 I, .pointer (some ⟨X, 0, none⟩), c9, c10, c11, c12, c13, c14, c15, c16, c17, c18, c19, c20, c21, c22, c23, c24, c25, c26, c27, c28, c29, c30, c31, c32, c33, c34, c35, c36, c37, c38, c39, c40, c41, c42, c43, c44, c45, c46, c47, c48, c49, c50, c51, c52, c53, c54, c55, c56, c57, c58, c59, c60, c61, c62, c63, c64, c65, c66, c67, c68, c69, c70, c71, c72, c73, c74, c75, c76, c77, c78, c79, c80, c81, c82, c83, c84, c85, c86, c87, c88, c89, c90, c91, c92, c93, c94, c95, c96, c97, c98, c99, c100, c101, c102, c103, c104, c105, c106, c107, c108, c109, c110, c111, c112, c113, c114, c115, c116, c117, c118, c119, c120, c121, c122, c123, c124, c125, c126, c127, c128, c129, c130, c131, c132, c133, c134, c135, c136, c137, c138, c139, c140], df⟩ L a ∧ Hid (Ext wr wc)) ⟨Inv.start, Lib.hid ((Ext.refl wr).drew)⟩ ?_ ?_
  · refine ⟨?_, ?_, ?_, ?_, ?_, ?_, ?_, ?_, ?_, ?_, ?_, ?_, ?_, ?_, ?_, ?_, ?_, ?_, ?_, ?_, ?_, ?_, ?_, ?_, ?_, ?_, ?_, ?_, ?_, ?_, ?_, ?_, ?_, ?_, ?_, ?_, ?_, ?_, ?_, ?_, ?_, ?_, ?_, ?_, ?_, ?_, ?_, ?_, ?_, ?_, ?_, ?_, ?_, ?_, ?_, ?_, ?_, ?_, ?_, ?_, ?_, ?_, trivial⟩
    · -- 0 field
      rintro L a wc ⟨hv, HO⟩ hL hc hd
      exact wpOp_val rfl rfl (ex_field rfl ((hv.fixed 8 (by decide)).trans rfl) (by go_simp)) ⟨hv.put hop_8_apart 0 rfl (Nat.le_of_ble_eq_true rfl) (Nat.le_of_ble_eq_true rfl) rfl, HO⟩
    · -- 1 load
      rintro L a wc ⟨hv, HO⟩ hL hc hd
      have x0' : wc.cell? ⟨X, 0, none⟩ = some (.int .i64 (aa : Int)) := HO.out.cell x0
      exact wpOp_val rfl rfl (ex_load rfl (hv.get 0 rfl rfl (hd 0 (by decide))) (by go_simp)) ⟨hv.put hop_8_apart 1 rfl (Nat.le_of_ble_eq_true rfl) (Nat.le_of_ble_eq_true rfl) rfl, HO⟩
    · -- 2 bin
      rintro L a wc ⟨hv, HO⟩ hL hc hd
      exact wpOp_val rfl rfl (ex_bin rfl (hv.get 1 rfl rfl (hd 1 (by decide))) rfl (by go_simp)) ⟨hv.put hop_8_apart 2 rfl (Nat.le_of_ble_eq_true rfl) (Nat.le_of_ble_eq_true rfl) rfl, HO⟩
    · -- 3 move
      rintro L a wc ⟨hv, HO⟩ hL hc hd
      exact wpOp_val rfl rfl (ex_move rfl (hv.get 2 rfl rfl (hd 2 (by decide)))) ⟨hv.put hop_8_apart 3 rfl (Nat.le_of_ble_eq_true rfl) (Nat.le_of_ble_eq_true rfl) rfl, HO⟩
    · -- 4 field
      rintro L a wc ⟨hv, HO⟩ hL hc hd
      exact wpOp_val rfl ((wanted_at rfl rfl (hv.get 3 rfl rfl (hd 3 (by decide)))).trans rfl) (ex_field rfl ((hv.fixed 8 (by decide)).trans rfl) (by go_simp)) ⟨hv.put hop_8_apart 4 rfl (Nat.le_of_ble_eq_true rfl) (Nat.le_of_ble_eq_true rfl) rfl, HO⟩
    · -- 5 load
      rintro L a wc ⟨hv, HO⟩ hL hc hd
      have x0' : wc.cell? ⟨X, 0, none⟩ = some (.int .i64 (aa : Int)) := HO.out.cell x0
      exact wpOp_val rfl ((wanted_at rfl rfl (hv.get 3 rfl rfl (hd 3 (by decide)))).trans rfl) (ex_load rfl (hv.get 4 rfl rfl (hd 4 (by decide))) (by go_simp)) ⟨hv.put hop_8_apart 5 rfl (Nat.le_of_ble_eq_true rfl) (Nat.le_of_ble_eq_true rfl) rfl, HO⟩
    · -- 6 move
      rintro L a wc ⟨hv, HO⟩ hL hc hd
      exact wpOp_val rfl ((wanted_at rfl rfl (hv.get 3 rfl rfl (hd 3 (by decide)))).trans rfl) (ex_move rfl ((hv.fixed 5 (by decide)).trans rfl)) ⟨hv.put hop_8_apart 6 rfl (Nat.le_of_ble_eq_true rfl) (Nat.le_of_ble_eq_true rfl) rfl, HO⟩
    · -- 7 bin
      rintro L a wc ⟨hv, HO⟩ hL hc hd
      exact wpOp_val rfl ((wanted_at rfl rfl (hv.get 3 rfl rfl (hd 3 (by decide)))).trans rfl) (ex_bin rfl (hv.get 5 rfl rfl (hd 5 (by decide))) (hv.get 6 rfl rfl (hd 6 (by decide))) (by go_simp)) ⟨hv.put hop_8_apart 7 rfl (Nat.le_of_ble_eq_true rfl) (Nat.le_of_ble_eq_true rfl) rfl, HO⟩
    · -- 8 pick
      rintro L a wc ⟨hv, HO⟩ hL hc hd
      exact wpOp_val rfl rfl (ex_pick rfl (hv.get 3 rfl rfl (hd 3 (by decide))) ((if_neg (by simp)).trans (hv.get 7 rfl rfl (hd 7 (by decide))))) ⟨hv.put hop_8_apart 8 rfl (Nat.le_of_ble_eq_true rfl) (Nat.le_of_ble_eq_true rfl) rfl, HO⟩
    · -- 9 move
      rintro L a wc ⟨hv, HO⟩ hL hc hd
      exact wpOp_val rfl rfl (ex_move rfl (hv.get 8 rfl rfl (hd 8 (by decide)))) ⟨hv.put hop_8_apart 9 rfl (Nat.le_of_ble_eq_true rfl) (Nat.le_of_ble_eq_true rfl) rfl, HO⟩
    · -- 10 field
      rintro L a wc ⟨hv, HO⟩ hL hc hd
      exact wpOp_val rfl ((wanted_at rfl rfl (hv.get 9 rfl rfl (hd 9 (by decide)))).trans rfl) (ex_field rfl ((hv.fixed 8 (by decide)).trans rfl) (by go_simp)) ⟨hv.put hop_8_apart 10 rfl (Nat.le_of_ble_eq_true rfl) (Nat.le_of_ble_eq_true rfl) rfl, HO⟩
    · -- 11 load
      rintro L a wc ⟨hv, HO⟩ hL hc hd
      have x1' : wc.cell? ⟨X, 1, none⟩ = some (.int .i64 (bb : Int)) := HO.out.cell x1
      exact wpOp_val rfl ((wanted_at rfl rfl (hv.get 9 rfl rfl (hd 9 (by decide)))).trans rfl) (ex_load rfl (hv.get 10 rfl rfl (hd 10 (by decide))) (by go_simp)) ⟨hv.put hop_8_apart 11 rfl (Nat.le_of_ble_eq_true rfl) (Nat.le_of_ble_eq_true rfl) rfl, HO⟩
    · -- 12 bin
      rintro L a wc ⟨hv, HO⟩ hL hc hd
      exact wpOp_val rfl ((wanted_at rfl rfl (hv.get 9 rfl rfl (hd 9 (by decide)))).trans rfl) (ex_bin rfl (hv.get 11 rfl rfl (hd 11 (by decide))) rfl (by go_simp)) ⟨hv.put hop_8_apart 12 rfl (Nat.le_of_ble_eq_true rfl) (Nat.le_of_ble_eq_true rfl) rfl, HO⟩
    · -- 13 pick
      rintro L a wc ⟨hv, HO⟩ hL hc hd
      exact wpOp_val rfl rfl (ex_pick rfl (hv.get 9 rfl rfl (hd 9 (by decide))) ((if_neg (by simp)).trans (hv.get 12 rfl rfl (hd 12 (by decide))))) ⟨hv.put hop_8_apart 13 rfl (Nat.le_of_ble_eq_true rfl) (Nat.le_of_ble_eq_true rfl) rfl, HO⟩
    · -- 14 move
      rintro L a wc ⟨hv, HO⟩ hL hc hd
      exact wpOp_val rfl rfl (ex_move rfl (hv.get 13 rfl rfl (hd 13 (by decide)))) ⟨hv.put hop_8_apart 14 rfl (Nat.le_of_ble_eq_true rfl) (Nat.le_of_ble_eq_true rfl) rfl, HO⟩
    · -- 15 field
      rintro L a wc ⟨hv, HO⟩ hL hc hd
      exact wpOp_val rfl ((wanted_at rfl rfl (hv.get 14 rfl rfl (hd 14 (by decide)))).trans rfl) (ex_field rfl ((hv.fixed 8 (by decide)).trans rfl) (by go_simp)) ⟨hv.put hop_8_apart 15 rfl (Nat.le_of_ble_eq_true rfl) (Nat.le_of_ble_eq_true rfl) rfl, HO⟩
    · -- 16 load
      rintro L a wc ⟨hv, HO⟩ hL hc hd
      have x1' : wc.cell? ⟨X, 1, none⟩ = some (.int .i64 (bb : Int)) := HO.out.cell x1
      exact wpOp_val rfl ((wanted_at rfl rfl (hv.get 14 rfl rfl (hd 14 (by decide)))).trans rfl) (ex_load rfl (hv.get 15 rfl rfl (hd 15 (by decide))) (by go_simp)) ⟨hv.put hop_8_apart 16 rfl (Nat.le_of_ble_eq_true rfl) (Nat.le_of_ble_eq_true rfl) rfl, HO⟩
    · -- 17 move
      rintro L a wc ⟨hv, HO⟩ hL hc hd
      exact wpOp_val rfl ((wanted_at rfl rfl (hv.get 14 rfl rfl (hd 14 (by decide)))).trans rfl) (ex_move rfl ((hv.fixed 5 (by decide)).trans rfl)) ⟨hv.put hop_8_apart 17 rfl (Nat.le_of_ble_eq_true rfl) (Nat.le_of_ble_eq_true rfl) rfl, HO⟩
    · -- 18 bin
      rintro L a wc ⟨hv, HO⟩ hL hc hd
      exact wpOp_val rfl ((wanted_at rfl rfl (hv.get 14 rfl rfl (hd 14 (by decide)))).trans rfl) (ex_bin rfl (hv.get 16 rfl rfl (hd 16 (by decide))) (hv.get 17 rfl rfl (hd 17 (by decide))) (by go_simp)) ⟨hv.put hop_8_apart 18 rfl (Nat.le_of_ble_eq_true rfl) (Nat.le_of_ble_eq_true rfl) rfl, HO⟩
    · -- 19 pick
      rintro L a wc ⟨hv, HO⟩ hL hc hd
      exact wpOp_val rfl rfl (ex_pick rfl (hv.get 14 rfl rfl (hd 14 (by decide))) ((if_neg (by simp)).trans (hv.get 18 rfl rfl (hd 18 (by decide))))) ⟨hv.put hop_8_apart 19 rfl (Nat.le_of_ble_eq_true rfl) (Nat.le_of_ble_eq_true rfl) rfl, HO⟩
    · -- 20 move
      rintro L a wc ⟨hv, HO⟩ hL hc hd
      exact wpOp_val rfl rfl (ex_move rfl (hv.get 19 rfl rfl (hd 19 (by decide)))) ⟨hv.put hop_8_apart 20 rfl (Nat.le_of_ble_eq_true rfl) (Nat.le_of_ble_eq_true rfl) rfl, HO⟩
    · -- 21 field
      rintro L a wc ⟨hv, HO⟩ hL hc hd
      exact wpOp_val rfl ((wanted_at rfl rfl (hv.get 20 rfl rfl (hd 20 (by decide)))).trans rfl) (ex_field rfl ((hv.fixed 8 (by decide)).trans rfl) (by go_simp)) ⟨hv.put hop_8_apart 21 rfl (Nat.le_of_ble_eq_true rfl) (Nat.le_of_ble_eq_true rfl) rfl, HO⟩
    · -- 22 load
      rintro L a wc ⟨hv, HO⟩ hL hc hd
      have x0' : wc.cell? ⟨X, 0, none⟩ = some (.int .i64 (aa : Int)) := HO.out.cell x0
      exact wpOp_val rfl ((wanted_at rfl rfl (hv.get 20 rfl rfl (hd 20 (by decide)))).trans rfl) (ex_load rfl (hv.get 21 rfl rfl (hd 21 (by decide))) (by go_simp)) ⟨hv.put hop_8_apart 22 rfl (Nat.le_of_ble_eq_true rfl) (Nat.le_of_ble_eq_true rfl) rfl, HO⟩
    · -- 23 field
      rintro L a wc ⟨hv, HO⟩ hL hc hd
      exact wpOp_val rfl ((wanted_at rfl rfl (hv.get 20 rfl rfl (hd 20 (by decide)))).trans rfl) (ex_field rfl ((hv.fixed 8 (by decide)).trans rfl) (by go_simp)) ⟨hv.put hop_8_apart 23 rfl (Nat.le_of_ble_eq_true rfl) (Nat.le_of_ble_eq_true rfl) rfl, HO⟩
    · -- 24 load
      rintro L a wc ⟨hv, HO⟩ hL hc hd
      have x1' : wc.cell? ⟨X, 1, none⟩ = some (.int .i64 (bb : Int)) := HO.out.cell x1
      exact wpOp_val rfl ((wanted_at rfl rfl (hv.get 20 rfl rfl (hd 20 (by decide)))).trans rfl) (ex_load rfl (hv.get 23 rfl rfl (hd 23 (by decide))) (by go_simp)) ⟨hv.put hop_8_apart 24 rfl (Nat.le_of_ble_eq_true rfl) (Nat.le_of_ble_eq_true rfl) rfl, HO⟩
    · -- 25 bin
      rintro L a wc ⟨hv, HO⟩ hL hc hd
      exact wpOp_val rfl ((wanted_at rfl rfl (hv.get 20 rfl rfl (hd 20 (by decide)))).trans rfl) (ex_bin rfl (hv.get 22 rfl rfl (hd 22 (by decide))) (hv.get 24 rfl rfl (hd 24 (by decide))) (by go_simp)) ⟨hv.put hop_8_apart 25 rfl (Nat.le_of_ble_eq_true rfl) (Nat.le_of_ble_eq_true rfl) rfl, HO⟩
    · -- 26 pick
      rintro L a wc ⟨hv, HO⟩ hL hc hd
      exact wpOp_val rfl rfl (ex_pick rfl (hv.get 20 rfl rfl (hd 20 (by decide))) ((if_neg (by simp)).trans (hv.get 25 rfl rfl (hd 25 (by decide))))) ⟨hv.put hop_8_apart 26 rfl (Nat.le_of_ble_eq_true rfl) (Nat.le_of_ble_eq_true rfl) rfl, HO⟩
    · -- 27 move
      rintro L a wc ⟨hv, HO⟩ hL hc hd
      exact wpOp_val rfl rfl (ex_move rfl (hv.get 26 rfl rfl (hd 26 (by decide)))) ⟨hv.put hop_8_apart 27 rfl (Nat.le_of_ble_eq_true rfl) (Nat.le_of_ble_eq_true rfl) rfl, HO⟩
    · -- 28 field
      rintro L a wc ⟨hv, HO⟩ hL hc hd
      exact wpOp_val rfl ((wanted_at rfl rfl (hv.get 27 rfl rfl (hd 27 (by decide)))).trans rfl) (ex_field rfl ((hv.fixed 8 (by decide)).trans rfl) (by go_simp)) ⟨hv.put hop_8_apart 28 rfl (Nat.le_of_ble_eq_true rfl) (Nat.le_of_ble_eq_true rfl) rfl, HO⟩
    · -- 29 load
      rintro L a wc ⟨hv, HO⟩ hL hc hd
      have x0' : wc.cell? ⟨X, 0, none⟩ = some (.int .i64 (aa : Int)) := HO.out.cell x0
      exact wpOp_val rfl ((wanted_at rfl rfl (hv.get 27 rfl rfl (hd 27 (by decide)))).trans rfl) (ex_load rfl (hv.get 28 rfl rfl (hd 28 (by decide))) (by go_simp)) ⟨hv.put hop_8_apart 29 rfl (Nat.le_of_ble_eq_true rfl) (Nat.le_of_ble_eq_true rfl) rfl, HO⟩
    · -- 30 field
      rintro L a wc ⟨hv, HO⟩ hL hc hd
      exact wpOp_val rfl ((wanted_at rfl rfl (hv.get 27 rfl rfl (hd 27 (by decide)))).trans rfl) (ex_field rfl ((hv.fixed 2 (by decide)).trans rfl) (by go_simp)) ⟨hv.put hop_8_apart 30 rfl (Nat.le_of_ble_eq_true rfl) (Nat.le_of_ble_eq_true rfl) rfl, HO⟩
    · -- 31 load
      rintro L a wc ⟨hv, HO⟩ hL hc hd
      have h2' : wc.cell? ⟨B, 2, none⟩ = some (.int .i64 g) := HO.out.cell h2
      exact wpOp_val rfl ((wanted_at rfl rfl (hv.get 27 rfl rfl (hd 27 (by decide)))).trans rfl) (ex_load rfl (hv.get 30 rfl rfl (hd 30 (by decide))) (by go_simp)) ⟨hv.put hop_8_apart 31 rfl (Nat.le_of_ble_eq_true rfl) (Nat.le_of_ble_eq_true rfl) rfl, HO⟩
    · -- 32 bin
      rintro L a wc ⟨hv, HO⟩ hL hc hd
      exact wpOp_val rfl ((wanted_at rfl rfl (hv.get 27 rfl rfl (hd 27 (by decide)))).trans rfl) (ex_bin rfl (hv.get 29 rfl rfl (hd 29 (by decide))) (hv.get 31 rfl rfl (hd 31 (by decide))) (by go_simp)) ⟨hv.put hop_8_apart 32 rfl (Nat.le_of_ble_eq_true rfl) (Nat.le_of_ble_eq_true rfl) rfl, HO⟩
    · -- 33 pick
      rintro L a wc ⟨hv, HO⟩ hL hc hd
      exact wpOp_val rfl rfl (ex_pick rfl (hv.get 27 rfl rfl (hd 27 (by decide))) ((if_neg (by simp)).trans (hv.get 32 rfl rfl (hd 32 (by decide))))) ⟨hv.put hop_8_apart 33 rfl (Nat.le_of_ble_eq_true rfl) (Nat.le_of_ble_eq_true rfl) rfl, HO⟩
    · -- 34 move
      rintro L a wc ⟨hv, HO⟩ hL hc hd
      exact wpOp_val rfl rfl (ex_move rfl (hv.get 33 rfl rfl (hd 33 (by decide)))) ⟨hv.put hop_8_apart 34 rfl (Nat.le_of_ble_eq_true rfl) (Nat.le_of_ble_eq_true rfl) rfl, HO⟩
    · -- 35 field
      rintro L a wc ⟨hv, HO⟩ hL hc hd
      exact wpOp_val rfl ((wanted_at rfl rfl (hv.get 34 rfl rfl (hd 34 (by decide)))).trans rfl) (ex_field rfl ((hv.fixed 2 (by decide)).trans rfl) (by go_simp)) ⟨hv.put hop_8_apart 35 rfl (Nat.le_of_ble_eq_true rfl) (Nat.le_of_ble_eq_true rfl) rfl, HO⟩
    · -- 36 load
      rintro L a wc ⟨hv, HO⟩ hL hc hd
      have h0' : wc.cell? ⟨B, 0, none⟩ = some (.slice (some ad1) n cA) := HO.out.cell h0
      exact wpOp_val rfl ((wanted_at rfl rfl (hv.get 34 rfl rfl (hd 34 (by decide)))).trans rfl) (ex_load rfl (hv.get 35 rfl rfl (hd 35 (by decide))) (by go_simp)) ⟨hv.put hop_8_apart 36 rfl (Nat.le_of_ble_eq_true rfl) (Nat.le_of_ble_eq_true rfl) rfl, HO⟩
    · -- 37 field
      rintro L a wc ⟨hv, HO⟩ hL hc hd
      exact wpOp_val rfl ((wanted_at rfl rfl (hv.get 34 rfl rfl (hd 34 (by decide)))).trans rfl) (ex_field rfl ((hv.fixed 8 (by decide)).trans rfl) (by go_simp)) ⟨hv.put hop_8_apart 37 rfl (Nat.le_of_ble_eq_true rfl) (Nat.le_of_ble_eq_true rfl) rfl, HO⟩
    · -- 38 load
      rintro L a wc ⟨hv, HO⟩ hL hc hd
      have x0' : wc.cell? ⟨X, 0, none⟩ = some (.int .i64 (aa : Int)) := HO.out.cell x0
      exact wpOp_val rfl ((wanted_at rfl rfl (hv.get 34 rfl rfl (hd 34 (by decide)))).trans rfl) (ex_load rfl (hv.get 37 rfl rfl (hd 37 (by decide))) (by go_simp)) ⟨hv.put hop_8_apart 38 rfl (Nat.le_of_ble_eq_true rfl) (Nat.le_of_ble_eq_true rfl) rfl, HO⟩
    · -- 39 index
      rintro L a wc ⟨hv, HO⟩ hL hc hd
      exact wpOp_val rfl ((wanted_at rfl rfl (hv.get 34 rfl rfl (hd 34 (by decide)))).trans rfl) (ex_index rfl (hv.get 36 rfl rfl (hd 36 (by decide))) (hv.get 38 rfl rfl (hd 38 (by decide))) (by go_simp)) ⟨hv.put hop_8_apart 39 rfl (Nat.le_of_ble_eq_true rfl) (Nat.le_of_ble_eq_true rfl) rfl, HO⟩
    · -- 40 load
      rintro L a wc ⟨hv, HO⟩ hL hc hd
      have g1' : wc.cell? (ad1.add aa) = some (.slice (some ad2) n cc) := HO.out.cell g1
      exact wpOp_val rfl ((wanted_at rfl rfl (hv.get 34 rfl rfl (hd 34 (by decide)))).trans rfl) (ex_load rfl (hv.get 39 rfl rfl (hd 39 (by decide))) (by go_simp)) ⟨hv.put hop_8_apart 40 rfl (Nat.le_of_ble_eq_true rfl) (Nat.le_of_ble_eq_true rfl) rfl, HO⟩
    · -- 41 field
      rintro L a wc ⟨hv, HO⟩ hL hc hd
      exact wpOp_val rfl ((wanted_at rfl rfl (hv.get 34 rfl rfl (hd 34 (by decide)))).trans rfl) (ex_field rfl ((hv.fixed 8 (by decide)).trans rfl) (by go_simp)) ⟨hv.put hop_8_apart 41 rfl (Nat.le_of_ble_eq_true rfl) (Nat.le_of_ble_eq_true rfl) rfl, HO⟩
    · -- 42 load
      rintro L a wc ⟨hv, HO⟩ hL hc hd
      have x1' : wc.cell? ⟨X, 1, none⟩ = some (.int .i64 (bb : Int)) := HO.out.cell x1
      exact wpOp_val rfl ((wanted_at rfl rfl (hv.get 34 rfl rfl (hd 34 (by decide)))).trans rfl) (ex_load rfl (hv.get 41 rfl rfl (hd 41 (by decide))) (by go_simp)) ⟨hv.put hop_8_apart 42 rfl (Nat.le_of_ble_eq_true rfl) (Nat.le_of_ble_eq_true rfl) rfl, HO⟩
    · -- 43 index
      rintro L a wc ⟨hv, HO⟩ hL hc hd
      exact wpOp_val rfl ((wanted_at rfl rfl (hv.get 34 rfl rfl (hd 34 (by decide)))).trans rfl) (ex_index rfl (hv.get 40 rfl rfl (hd 40 (by decide))) (hv.get 42 rfl rfl (hd 42 (by decide))) (by go_simp)) ⟨hv.put hop_8_apart 43 rfl (Nat.le_of_ble_eq_true rfl) (Nat.le_of_ble_eq_true rfl) rfl, HO⟩
    · -- 44 load
      rintro L a wc ⟨hv, HO⟩ hL hc hd
      have g2' : wc.cell? (ad2.add bb) = some (.int .i64 pp) := HO.out.cell g2
      exact wpOp_val rfl ((wanted_at rfl rfl (hv.get 34 rfl rfl (hd 34 (by decide)))).trans rfl) (ex_load rfl (hv.get 43 rfl rfl (hd 43 (by decide))) (by go_simp)) ⟨hv.put hop_8_apart 44 rfl (Nat.le_of_ble_eq_true rfl) (Nat.le_of_ble_eq_true rfl) rfl, HO⟩
    · -- 45 bin
      rintro L a wc ⟨hv, HO⟩ hL hc hd
      exact wpOp_val rfl ((wanted_at rfl rfl (hv.get 34 rfl rfl (hd 34 (by decide)))).trans rfl) (ex_bin rfl (hv.get 44 rfl rfl (hd 44 (by decide))) rfl (by go_simp)) ⟨hv.put hop_8_apart 45 rfl (Nat.le_of_ble_eq_true rfl) (Nat.le_of_ble_eq_true rfl) rfl, HO⟩
    · -- 46 pick
      rintro L a wc ⟨hv, HO⟩ hL hc hd
      exact wpOp_val rfl rfl (ex_pick rfl (hv.get 34 rfl rfl (hd 34 (by decide))) ((if_neg (by simp)).trans (hv.get 45 rfl rfl (hd 45 (by decide))))) ⟨hv.put hop_8_apart 46 rfl (Nat.le_of_ble_eq_true rfl) (Nat.le_of_ble_eq_true rfl) rfl, HO⟩
    · -- 47 move
      rintro L a wc ⟨hv, HO⟩ hL hc hd
      exact wpOp_val rfl rfl (ex_move rfl (hv.get 46 rfl rfl (hd 46 (by decide)))) ⟨hv.put hop_8_apart 47 rfl (Nat.le_of_ble_eq_true rfl) (Nat.le_of_ble_eq_true rfl) rfl, HO⟩
    · -- 48 move
      rintro L a wc ⟨hv, HO⟩ hL hc hd
      exact wpOp_val rfl ((wanted_at rfl rfl (hv.get 47 rfl rfl (hd 47 (by decide)))).trans rfl) (ex_move rfl ((hv.fixed 7 (by decide)).trans rfl)) ⟨hv.put hop_8_apart 48 rfl (Nat.le_of_ble_eq_true rfl) (Nat.le_of_ble_eq_true rfl) rfl, HO⟩
    · -- 49 bin
      rintro L a wc ⟨hv, HO⟩ hL hc hd
      exact wpOp_val rfl ((wanted_at rfl rfl (hv.get 47 rfl rfl (hd 47 (by decide)))).trans rfl) (ex_bin rfl (hv.get 48 rfl rfl (hd 48 (by decide))) rfl (by go_simp)) ⟨hv.put hop_8_apart 49 rfl (Nat.le_of_ble_eq_true rfl) (Nat.le_of_ble_eq_true rfl) rfl, HO⟩
    · -- 50 move
      rintro L a wc ⟨hv, HO⟩ hL hc hd
      exact wpOp_val rfl ((wanted_at rfl rfl (hv.get 47 rfl rfl (hd 47 (by decide)))).trans rfl) (ex_move rfl (hv.get 49 rfl rfl (hd 49 (by decide)))) ⟨hv.put hop_8_apart 50 rfl (Nat.le_of_ble_eq_true rfl) (Nat.le_of_ble_eq_true rfl) rfl, HO⟩
    · -- 51 off
      rintro L a wc ⟨hv, HO⟩ hL hc hd
      exact wpOp_off rfl ((wanted_at rfl rfl (hv.get 50 rfl rfl (hd 50 (by decide)))).trans rfl) ⟨hv.put hop_8_apart 51 rfl (Nat.le_of_ble_eq_true rfl) (Nat.le_of_ble_eq_true rfl) rfl, HO⟩
    · -- 52 off
      rintro L a wc ⟨hv, HO⟩ hL hc hd
      exact wpOp_off rfl ((wanted_at rfl rfl (hv.get 50 rfl rfl (hd 50 (by decide)))).trans rfl) ⟨hv.put hop_8_apart 52 rfl (Nat.le_of_ble_eq_true rfl) (Nat.le_of_ble_eq_true rfl) rfl, HO⟩
    · -- 53 off
      rintro L a wc ⟨hv, HO⟩ hL hc hd
      exact wpOp_off rfl ((wanted_at rfl rfl (hv.get 50 rfl rfl (hd 50 (by decide)))).trans rfl) ⟨hv.put hop_8_apart 53 rfl (Nat.le_of_ble_eq_true rfl) (Nat.le_of_ble_eq_true rfl) rfl, HO⟩
    · -- 54 off
      rintro L a wc ⟨hv, HO⟩ hL hc hd
      exact wpOp_off rfl ((wanted_at rfl rfl (hv.get 50 rfl rfl (hd 50 (by decide)))).trans rfl) ⟨hv.put hop_8_apart 54 rfl (Nat.le_of_ble_eq_true rfl) (Nat.le_of_ble_eq_true rfl) rfl, HO⟩
    · -- 55 off
      rintro L a wc ⟨hv, HO⟩ hL hc hd
      exact wpOp_off rfl ((wanted_at rfl rfl (hv.get 50 rfl rfl (hd 50 (by decide)))).trans rfl) ⟨hv.put hop_8_apart 55 rfl (Nat.le_of_ble_eq_true rfl) (Nat.le_of_ble_eq_true rfl) rfl, HO⟩
    · -- 56 off
      rintro L a wc ⟨hv, HO⟩ hL hc hd
      exact wpOp_off rfl ((wanted_at rfl rfl (hv.get 50 rfl rfl (hd 50 (by decide)))).trans rfl) ⟨hv.put hop_8_apart 56 rfl (Nat.le_of_ble_eq_true rfl) (Nat.le_of_ble_eq_true rfl) rfl, HO⟩
    · -- 57 off
      rintro L a wc ⟨hv, HO⟩ hL hc hd
      exact wpOp_off rfl ((wanted_at rfl rfl (hv.get 50 rfl rfl (hd 50 (by decide)))).trans rfl) ⟨hv.put hop_8_apart 57 rfl (Nat.le_of_ble_eq_true rfl) (Nat.le_of_ble_eq_true rfl) rfl, HO⟩
    · -- 58 off
      rintro L a wc ⟨hv, HO⟩ hL hc hd
      exact wpOp_off rfl ((wanted_at rfl rfl (hv.get 50 rfl rfl (hd 50 (by decide)))).trans rfl) ⟨hv.put hop_8_apart 58 rfl (Nat.le_of_ble_eq_true rfl) (Nat.le_of_ble_eq_true rfl) rfl, HO⟩
    · -- 59 off
      rintro L a wc ⟨hv, HO⟩ hL hc hd
      exact wpOp_off rfl ((wanted_at rfl rfl (hv.get 50 rfl rfl (hd 50 (by decide)))).trans rfl) ⟨hv.put hop_8_apart 59 rfl (Nat.le_of_ble_eq_true rfl) (Nat.le_of_ble_eq_true rfl) rfl, HO⟩
    · -- 60 pick
      rintro L a wc ⟨hv, HO⟩ hL hc hd
      exact wpOp_val rfl ((wanted_at rfl rfl (hv.get 47 rfl rfl (hd 47 (by decide)))).trans rfl) (ex_pick rfl (hv.get 50 rfl rfl (hd 50 (by decide))) rfl) ⟨hv.put hop_8_apart 60 rfl (Nat.le_of_ble_eq_true rfl) (Nat.le_of_ble_eq_true rfl) rfl, HO⟩
    · -- 61 pick
      rintro L a wc ⟨hv, HO⟩ hL hc hd
      exact wpOp_val rfl rfl (ex_pick rfl (hv.get 47 rfl rfl (hd 47 (by decide))) ((if_neg (by simp)).trans (hv.get 60 rfl rfl (hd 60 (by decide))))) ⟨hv.put hop_8_apart 61 rfl (Nat.le_of_ble_eq_true rfl) (Nat.le_of_ble_eq_true rfl) rfl, HO⟩
  · rintro L a wc ⟨hv, HO⟩ hall
    show K a wc
    have ha := act_lit a
    rw [hv.size, hv.defers] at ha
    have hl : ∀ f : Nat → Value, ((List.range (⟨#[c0, c1, .pointer (some ⟨B, 0, none⟩), c3, c4, .int .i64 (n : Nat), c6, .int .i64 I, .pointer (some ⟨X, 0, none⟩), c9, c10, c11, c12, c13, c14, c15, c16, c17, c18, c19, c20, c21, c22, c23, c24, c25, c26, c27, c28, c29, c30, c31, c32, c33, c34, c35, c36, c37, c38, c39, c40, c41, c42, c43, c44, c45, c46, c47, c48, c49, c50, c51, c52, c53, c54, c55, c56, c57, c58, c59, c60, c61, c62, c63, c64, c65, c66, c67, c68, c69, c70, c71, c72, c73, c74, c75, c76, c77, c78, c79, c80, c81, c82, c83, c84, c85, c86, c87, c88, c89, c90, c91, c92, c93, c94, c95, c96, c97, c98, c99, c100, c101, c102, c103, c104, c105, c106, c107, c108, c109, c110, c111, c112, c113, c114, c115, c116, c117, c118, c119, c120, c121, c122, c123, c124, c125, c126, c127, c128, c129, c130, c131, c132, c133, c134, c135, c136, c137, c138, c139, c140], df⟩ : Act).tmps.size).map f).toArray = #[f 0, f 1, f 2, f 3, f 4, f 5, f 6, f 7, f 8, f 9, f 10, f 11, f 12, f 13, f 14, f 15, f 16, f 17, f 18, f 19, f 20, f 21, f 22, f 23, f 24, f 25, f 26, f 27, f 28, f 29, f 30, f 31, f 32, f 33, f 34, f 35, f 36, f 37, f 38, f 39, f 40, f 41, f 42, f 43, f 44, f 45, f 46, f 47, f 48, f 49, f 50, f 51, f 52, f 53, f 54, f 55, f 56, f 57, f 58, f 59, f 60, f 61, f 62, f 63, f 64, f 65, f 66, f 67, f 68, f 69, f 70, f 71, f 72, f 73, f 74, f 75, f 76, f 77, f 78, f 79, f 80, f 81, f 82, f 83, f 84, f 85, f 86, f 87, f 88, f 89, f 90, f 91, f 92, f 93, f 94, f 95, f 96, f 97, f 98, f 99, f 100, f 101, f 102, f 103, f 104, f 105, f 106, f 107, f 108, f 109, f 110, f 111, f 112, f 113, f 114, f 115, f 116, f 117, f 118, f 119, f 120, f 121, f 122, f 123, f 124, f 125, f 126, f 127, f 128, f 129, f 130, f 131, f 132, f 133, f 134, f 135, f 136, f 137, f 138, f 139, f 140] := fun _ => rfl
    rw [hl] at ha
    simp only [hv.fixed 0 (by decide), hv.fixed 1 (by decide), hv.fixed 2 (by decide), hv.fixed 3 (by decide), hv.fixed 4 (by decide), hv.fixed 5 (by decide), hv.fixed 6 (by decide), hv.fixed 7 (by decide), hv.fixed 8 (by decide), hv.fixed 9 (by decide), hv.fixed 10 (by decide), hv.fixed 11 (by decide), hv.fixed 12 (by decide), hv.fixed 13 (by decide), hv.fixed 14 (by decide), hv.fixed 15 (by decide), hv.fixed 16 (by decide), hv.fixed 17 (by decide), hv.fixed 18 (by decide), hv.fixed 19 (by decide), hv.fixed 20 (by decide), hv.fixed 21 (by decide), hv.fixed 22 (by decide), hv.fixed 23 (by decide), hv.fixed 24 (by decide), hv.fixed 25 (by decide), hv.fixed 26 (by decide), hv.fixed 27 (by decide), hv.fixed 28 (by decide), hv.fixed 29 (by decide), hv.fixed 30 (by decide), hv.fixed 31 (by decide), hv.fixed 94 (by decide), hv.fixed 95 (by decide), hv.fixed 96 (by decide), hv.fixed 97 (by decide), hv.fixed 98 (by decide), hv.fixed 99 (by decide), hv.fixed 100 (by decide), hv.fixed 101 (by decide), hv.fixed 102 (by decide), hv.fixed 103 (by decide), hv.fixed 104 (by decide), hv.fixed 105 (by decide), hv.fixed 106 (by decide), hv.fixed 107 (by decide), hv.fixed 108 (by decide), hv.fixed 109 (by decide), hv.fixed 110 (by decide), hv.fixed 111 (by decide), hv.fixed 112 (by decide), hv.fixed 113 (by decide), hv.fixed 114 (by decide), hv.fixed 115 (by decide), hv.fixed 116 (by decide), hv.fixed 117 (by decide), hv.fixed 118 (by decide), hv.fixed 119 (by decide), hv.fixed 120 (by decide), hv.fixed 121 (by decide), hv.fixed 122 (by decide), hv.fixed 123 (by decide), hv.fixed 124 (by decide), hv.fixed 125 (by decide), hv.fixed 126 (by decide), hv.fixed 127 (by decide), hv.fixed 128 (by decide), hv.fixed 129 (by decide), hv.fixed 130 (by decide), hv.fixed 131 (by decide), hv.fixed 132 (by decide), hv.fixed 133 (by decide), hv.fixed 134 (by decide), hv.fixed 135 (by decide), hv.fixed 136 (by decide), hv.fixed 137 (by decide), hv.fixed 138 (by decide), hv.fixed 139 (by decide), hv.fixed 140 (by decide), hv.get 61 (d := 93) rfl rfl (hall 61 (by decide))] at ha
    rw [ha]
    exact hK _ _ _ _ _ _ _ _ _ _ _ _ _ _ _ _ _ _ _ _ _ _ _ _ _ _ _ _ _ _ _ _ _ _ _ _ _ _ _ _ _ _ _ _ _ _ _ _ _ _ _ _ _ _ _ _ _ _ _ _ _ wc HO.out
noncomputable def hop_9_code : Code := ((Tryd.f14.body.bind (regionOf 8)).getD .skip)
def hop_9_dsts : List (Option Nat) := [some 32, some 33, some 34, some 35, some 36, some 37, some 38, some 39, some 40, some 41, some 42, some 43, some 44, some 45, some 46, some 47, some 48, some 49, some 50, some 51, some 52, some 53, some 54, some 55, some 56, some 57, some 58, some 59, some 60, some 61, some 62, some 63, some 64, some 65, some 66, some 67, some 68, some 69, some 70, some 71, some 72, some 73, some 74, some 75, some 76, some 77, some 78, some 79, some 80, some 81, some 82, some 83, some 84, some 85, some 86, some 87, some 88, some 89, some 90, some 91, some 92, some 93]
theorem hop_9_apart : apartD hop_9_dsts = true := by decide +kernel
set_option maxRecDepth 1000000 in
set_option maxHeartbeats 16000000 in
theorem hop_9 (wr : World) (aa bb : Nat) (X n : Nat) (x0 : wr.cell? ⟨X, 0, none⟩ = some (.int .i64 (aa : Int))) (x1 : wr.cell? ⟨X, 1, none⟩ = some (.int .i64 (bb : Int))) (ha : aa < n) (hb : bb < n) (u4 : ((aa : Int) == (bb : Int)) = false) (g : Int) (B : Nat) (h2 : wr.cell? ⟨B, 2, none⟩ = some (.int .i64 g)) (u5 : ((aa : Int) == g) = false) (cA cc : Nat) (ad1 ad2 : Addr) (pp : Int) (h0 : wr.cell? ⟨B, 0, none⟩ = some (.slice (some ad1) n cA)) (g1 : wr.cell? (ad1.add aa) = some (.slice (some ad2) n cc)) (g2 : wr.cell? (ad2.add bb) = some (.int .i64 pp)) (q6 : ¬ pp < 0) (I f0 : Int) (j ln e : Nat) (ad : Addr) (hI : I = (j : Int) + 1) (hj : j < ln) (hln : ln ≤ 9223372036854775807) (m1 : wr.cell? (ad.add (j * 2)) = some (.int .i64 f0)) (q8 : ¬ (aa : Int) ≤ f0) (c0 c3 c4 c6 c9 c10 c11 c12 c13 c14 c15 c16 c17 c18 c19 c20 c21 c22 c23 c24 c25 c26 c27 c28 c29 c30 c31 c32 c33 c34 c35 c36 c37 c38 c39 c40 c41 c42 c43 c44 c45 c46 c47 c48 c49 c50 c51 c52 c53 c54 c55 c56 c57 c58 c59 c60 c61 c62 c63 c64 c65 c66 c67 c68 c69 c70 c71 c72 c73 c74 c75 c76 c77 c78 c79 c80 c81 c82 c83 c84 c85 c86 c87 c88 c89 c90 c91 c92 c93 c94 c95 c96 c97 c98 c99 c100 c101 c102 c103 c104 c105 c106 c107 c108 c109 c110 c111 c112 c113 c114 c115 c116 c117 c118 c119 c120 c121 c122 c123 c124 c125 c126 c127 c128 c129 c130 c131 c132 c133 c134 c135 c136 c137 c138 c139 c140 : Value) (df : List Deferred) (K : Act → World → Prop)
    (hK : ∀  (u32 u33 u34 u35 u36 u37 u38 u39 u40 u41 u42 u43 u44 u45 u46 u47 u48 u49 u50 u51 u52 u53 u54 u55 u56 u57 u58 u59 u60 u61 u62 u63 u64 u65 u66 u67 u68 u69 u70 u71 u72 u73 u74 u75 u76 u77 u78 u79 u80 u81 u82 u83 u84 u85 u86 u87 u88 u89 u90 u91 u92 : Value) (wx : World), Ext wr wx → K ⟨#[c0, .slice (some ad) ln e, .pointer (some ⟨B, 0, none⟩), c3, c4, .int .i64 (n : Nat), c6, .int .i64 I, .pointer (some ⟨X, 0, none⟩), c9, c10, c11, c12, c13, c14, c15, c16, c17, c18, c19, c20, c21, c22, c23, c24, c25, c26, c27, c28, c29, c30, c31, u32, u33, u34, u35, u36, u37, u38, u39, u40, u41, u42, u43, u44, u45, u46, u47, u48, u49, u50, u51, u52, u53, u54, u55, u56, u57, u58, u59, u60, u61, u62, u63, u64, u65, u66, u67, u68, u69, u70, u71, u72, u73, u74, u75, u76, u77, u78, u79, u80, u81, u82, u83, u84, u85, u86, u87, u88, u89, u90, u91, u92, .bool false, c94, c95, c96, c97, c98, c99, c100, c101, c102, c103, c104, c105, c106, c107, c108, c109, c110, c111, c112, c113, c114, c115, c116, c117, c118, c119, c120, c121, c122, c123, c124, c125, c126, c127, c128, c129, c130, c131, c132, c133, c134, c135, c136, c137, c138, c139, c140], df⟩ wx) :
    Code.wp Tryd.prog hop_9_code (AtEnd K) ⟨#[c0, .slice (some ad) ln e, .pointer (some ⟨B, 0, none⟩), c3, c4, .int .i64 (n : Nat), c6, .int .i64 I, .pointer (some ⟨X, 0, none⟩), c9, c10, c11, c12, c13, c14, c15, c16, c17, c18, c19, c20, c21, c22, c23, c24, c25, c26, c27, c28, c29, c30, c31, c32, c33, c34, c35, c36, c37, c38, c39, c40, c41, c42, c43, c44, c45, c46, c47, c48, c49, c50, c51, c52, c53, c54, c55, c56, c57, c58, c59, c60, c61, c62, c63, c64, c65, c66, c67, c68, c69, c70, c71, c72, c73, c74, c75, c76, c77, c78, c79, c80, c81, c82, c83, c84, c85, c86, c87, c88, c89, c90, c91, c92, c93, c94, c95, c96, c97, c98, c99, c100, c101, c102, c103, c104, c105, c106, c107, c108, c109, c110, c111, c112, c113, c114, c115, c116, c117, c118, c119, c120, c121, c122, c123, c124, c125, c126, c127, c128, c129, c130, c131, c132, c133, c134, c135, c136, c137, c138, c139, c140], df⟩ wr := by
  conv => arg 2; whnf
  refine region_inv (by kernel_rfl) [[], [0], [1], [2], [3], [4, 3], [3], [5, 6, 3], [3, 7], [8, 3], [9], [10, 9], [11, 9], [9, 12], [13, 9], [14], [15, 14], [14], [16, 17, 14], [14, 18], [19, 14], [20], [21, 20], [20], [23, 20], [22, 24, 20], [20, 25], [26, 20], [27], [28, 27], [27], [30, 27], [29, 31, 27], [27, 32], [33, 27], [34], [35, 34], [34], [37, 34], [36, 38, 34], [39, 34], [34], [41, 34], [40, 42, 34], [43, 34], [44, 34], [34, 45], [46, 34], [47], [48, 47], [49, 47, 47], [50], [50], [52, 50], [51, 53, 50], [54, 50], [55, 50], [50], [57, 50], [56, 58, 50], [50, 59, 47], [47, 60]] (by kernel_rfl) [0, 1, 2, 3, 4, 5, 6, 7, 8, 9, 10, 11, 12, 13, 14, 15, 16, 17, 18, 19, 20, 21, 22, 23, 24, 25, 26, 27, 28, 29, 30, 31, 32, 33, 34, 35, 36, 37, 38, 39, 40, 41, 42, 43, 44, 45, 46, 47, 48, 49, 50, 51, 52, 53, 54, 55, 56, 57, 58, 59, 60, 61] (by decide +kernel) (by decide +kernel) (by decide +kernel) (fun L a wc => Inv hop_9_dsts [.pointer (some ⟨X, 0, none⟩), .int .i64 (aa : Int), .bool false, .bool false, .pointer (some ⟨X, 0, none⟩), .int .i64 (aa : Int), .int .i64 (n : Nat), .bool false, .bool false, .bool false, .pointer (some ⟨X, 1, none⟩), .int .i64 (bb : Int), .bool false, .bool false, .bool false, .pointer (some ⟨X, 1, none⟩), .int .i64 (bb : Int), .int .i64 (n : Nat), .bool false, .bool false, .bool false, .pointer (some ⟨X, 0, none⟩), .int .i64 (aa : Int), .pointer (some ⟨X, 1, none⟩), .int .i64 (bb : Int), .bool false, .bool false, .bool false, .pointer (some ⟨X, 0, none⟩), .int .i64 (aa : Int), .pointer (some ⟨B, 2, none⟩), .int .i64 g, .bool false, .bool false, .bool false, .pointer (some ⟨B, 0, none⟩), .slice (some ad1) n cA, .pointer (some ⟨X, 0, none⟩), .int .i64 (aa : Int), .pointer (some (ad1.add aa)), .slice (some ad2) n cc, .pointer (some ⟨X, 1, none⟩), .int .i64 (bb : Int), .pointer (some (ad2.add bb)), .int .i64 pp, .bool false, .bool false, .bool false, .int .i64 I, .bool true, .bool true, .slice (some ad) ln e, .int .i64 I, .int .i64 (j : Nat), .pointer (some (ad.add (j * 2))), .pointer (some (ad.add (j * 2))), .int .i64 f0, .pointer (some ⟨X, 0, none⟩), .int .i64 (aa : Int), .bool false, .bool false, .bool false] ⟨#[c0, .slice (some ad) ln e, .pointer (some ⟨B, 0, none⟩), c3, c4, .int .i64 (n : Nat), c6, .int .i64 I, .pointer (some ⟨X, 0, none⟩), c9, c10, c11, c12, c13, c14, c15, c16, c17, c18, c19, c20, c21, c22, c23, c24, c25, c26, c27, c28, c29, c30, c31, c32, c33, c34, c35, c36, c37, c38, c39, c40, c41, c42, c43, c44, c45, c46, c47, c48, c49, c50, c51, c52, c53, c54, c55, c56, c57, c58, c59, c60, c61, c62, c63, c64, c65, c66, c67, c68, c69, c70, c71, c72, c73, c74, c75, c76, c77, c78, c79, c80, c81, c82, c83, c84, c85, c86, c87, c88, c89, c90, c91, c92, c93, c94, c95, c96, c97, c98, c99, c100, c101, c102, c103, c104, c105, c106, c107, c108, c109, c110, c111, c112, c113, c114, c115, c116, c117, c118, c119, c120, c121, c122, c123, c124, c125, c126, c127, c128, c129, c130, c131, c132, c133, c134, c135, c136, c137, c138, c139, c140], df⟩ L a ∧ Hid (Ext wr wc)) ⟨Inv.start, Lib.hid ((Ext.refl wr).drew)⟩ ?_ ?_
  · refine ⟨?_, ?_, ?_, ?_, ?_, ?_, ?_, ?_, ?_, ?_, ?_, ?_, ?_, ?_, ?_, ?_, ?_, ?_, ?_, ?_, ?_, ?_, ?_, ?_, ?_, ?_, ?_, ?_, ?_, ?_, ?_, ?_, ?_, ?_, ?_, ?_, ?_, ?_, ?_, ?_, ?_, ?_, ?_, ?_, ?_, ?_, ?_, ?_, ?_, ?_, ?_, ?_, ?_, ?_, ?_, ?_, ?_, ?_, ?_, ?_, ?_, ?_, trivial⟩
    · -- 0 field
      rintro L a wc ⟨hv, HO⟩ hL hc hd
      exact wpOp_val rfl rfl (ex_field rfl ((hv.fixed 8 (by decide)).trans rfl) (by go_simp)) ⟨hv.put hop_9_apart 0 rfl (Nat.le_of_ble_eq_true rfl) (Nat.le_of_ble_eq_true rfl) rfl, HO⟩
    · -- 1 load
      rintro L a wc ⟨hv, HO⟩ hL hc hd
      have x0' : wc.cell? ⟨X, 0, none⟩ = some (.int .i64 (aa : Int)) := HO.out.cell x0
      exact wpOp_val rfl rfl (ex_load rfl (hv.get 0 rfl rfl (hd 0 (by decide))) (by go_simp)) ⟨hv.put hop_9_apart 1 rfl (Nat.le_of_ble_eq_true rfl) (Nat.le_of_ble_eq_true rfl) rfl, HO⟩
    · -- 2 bin
      rintro L a wc ⟨hv, HO⟩ hL hc hd
      exact wpOp_val rfl rfl (ex_bin rfl (hv.get 1 rfl rfl (hd 1 (by decide))) rfl (by go_simp)) ⟨hv.put hop_9_apart 2 rfl (Nat.le_of_ble_eq_true rfl) (Nat.le_of_ble_eq_true rfl) rfl, HO⟩
    · -- 3 move
      rintro L a wc ⟨hv, HO⟩ hL hc hd
      exact wpOp_val rfl rfl (ex_move rfl (hv.get 2 rfl rfl (hd 2 (by decide)))) ⟨hv.put hop_9_apart 3 rfl (Nat.le_of_ble_eq_true rfl) (Nat.le_of_ble_eq_true rfl) rfl, HO⟩
    · -- 4 field
      rintro L a wc ⟨hv, HO⟩ hL hc hd
      exact wpOp_val rfl ((wanted_at rfl rfl (hv.get 3 rfl rfl (hd 3 (by decide)))).trans rfl) (ex_field rfl ((hv.fixed 8 (by decide)).trans rfl) (by go_simp)) ⟨hv.put hop_9_apart 4 rfl (Nat.le_of_ble_eq_true rfl) (Nat.le_of_ble_eq_true rfl) rfl, HO⟩
    · -- 5 load
      rintro L a wc ⟨hv, HO⟩ hL hc hd
      have x0' : wc.cell? ⟨X, 0, none⟩ = some (.int .i64 (aa : Int)) := HO.out.cell x0
      exact wpOp_val rfl ((wanted_at rfl rfl (hv.get 3 rfl rfl (hd 3 (by decide)))).trans rfl) (ex_load rfl (hv.get 4 rfl rfl (hd 4 (by decide))) (by go_simp)) ⟨hv.put hop_9_apart 5 rfl (Nat.le_of_ble_eq_true rfl) (Nat.le_of_ble_eq_true rfl) rfl, HO⟩
    · -- 6 move
      rintro L a wc ⟨hv, HO⟩ hL hc hd
      exact wpOp_val rfl ((wanted_at rfl rfl (hv.get 3 rfl rfl (hd 3 (by decide)))).trans rfl) (ex_move rfl ((hv.fixed 5 (by decide)).trans rfl)) ⟨hv.put hop_9_apart 6 rfl (Nat.le_of_ble_eq_true rfl) (Nat.le_of_ble_eq_true rfl) rfl, HO⟩
    · -- 7 bin
      rintro L a wc ⟨hv, HO⟩ hL hc hd
      exact wpOp_val rfl ((wanted_at rfl rfl (hv.get 3 rfl rfl (hd 3 (by decide)))).trans rfl) (ex_bin rfl (hv.get 5 rfl rfl (hd 5 (by decide))) (hv.get 6 rfl rfl (hd 6 (by decide))) (by go_simp)) ⟨hv.put hop_9_apart 7 rfl (Nat.le_of_ble_eq_true rfl) (Nat.le_of_ble_eq_true rfl) rfl, HO⟩
    · -- 8 pick
      rintro L a wc ⟨hv, HO⟩ hL hc hd
      exact wpOp_val rfl rfl (ex_pick rfl (hv.get 3 rfl rfl (hd 3 (by decide))) ((if_neg (by simp)).trans (hv.get 7 rfl rfl (hd 7 (by decide))))) ⟨hv.put hop_9_apart 8 rfl (Nat.le_of_ble_eq_true rfl) (Nat.le_of_ble_eq_true rfl) rfl, HO⟩
    · -- 9 move
      rintro L a wc ⟨hv, HO⟩ hL hc hd
      exact wpOp_val rfl rfl (ex_move rfl (hv.get 8 rfl rfl (hd 8 (by decide)))) ⟨hv.put hop_9_apart 9 rfl (Nat.le_of_ble_eq_true rfl) (Nat.le_of_ble_eq_true rfl) rfl, HO⟩
    · -- 10 field
      rintro L a wc ⟨hv, HO⟩ hL hc hd
      exact wpOp_val rfl ((wanted_at rfl rfl (hv.get 9 rfl rfl (hd 9 (by decide)))).trans rfl) (ex_field rfl ((hv.fixed 8 (by decide)).trans rfl) (by go_simp)) ⟨hv.put hop_9_apart 10 rfl (Nat.le_of_ble_eq_true rfl) (Nat.le_of_ble_eq_true rfl) rfl, HO⟩
    · -- 11 load
      rintro L a wc ⟨hv, HO⟩ hL hc hd
      have x1' : wc.cell? ⟨X, 1, none⟩ = some (.int .i64 (bb : Int)) := HO.out.cell x1
      exact wpOp_val rfl ((wanted_at rfl rfl (hv.get 9 rfl rfl (hd 9 (by decide)))).trans rfl) (ex_load rfl (hv.get 10 rfl rfl (hd 10 (by decide))) (by go_simp)) ⟨hv.put hop_9_apart 11 rfl (Nat.le_of_ble_eq_true rfl) (Nat.le_of_ble_eq_true rfl) rfl, HO⟩
    · -- 12 bin
      rintro L a wc ⟨hv, HO⟩ hL hc hd
      exact wpOp_val rfl ((wanted_at rfl rfl (hv.get 9 rfl rfl (hd 9 (by decide)))).trans rfl) (ex_bin rfl (hv.get 11 rfl rfl (hd 11 (by decide))) rfl (by go_simp)) ⟨hv.put hop_9_apart 12 rfl (Nat.le_of_ble_eq_true rfl) (Nat.le_of_ble_eq_true rfl) rfl, HO⟩
    · -- 13 pick
      rintro L a wc ⟨hv, HO⟩ hL hc hd
      exact wpOp_val rfl rfl (ex_pick rfl (hv.get 9 rfl rfl (hd 9 (by decide))) ((if_neg (by simp)).trans (hv.get 12 rfl rfl (hd 12 (by decide))))) ⟨hv.put hop_9_apart 13 rfl (Nat.le_of_ble_eq_true rfl) (Nat.le_of_ble_eq_true rfl) rfl, HO⟩
    · -- 14 move
      rintro L a wc ⟨hv, HO⟩ hL hc hd
      exact wpOp_val rfl rfl (ex_move rfl (hv.get 13 rfl rfl (hd 13 (by decide)))) ⟨hv.put hop_9_apart 14 rfl (Nat.le_of_ble_eq_true rfl) (Nat.le_of_ble_eq_true rfl) rfl, HO⟩
    · -- 15 field
      rintro L a wc ⟨hv, HO⟩ hL hc hd
      exact wpOp_val rfl ((wanted_at rfl rfl (hv.get 14 rfl rfl (hd 14 (by decide)))).trans rfl) (ex_field rfl ((hv.fixed 8 (by decide)).trans rfl) (by go_simp)) ⟨hv.put hop_9_apart 15 rfl (Nat.le_of_ble_eq_true rfl) (Nat.le_of_ble_eq_true rfl) rfl, HO⟩
    · -- 16 load
      rintro L a wc ⟨hv, HO⟩ hL hc hd
      have x1' : wc.cell? ⟨X, 1, none⟩ = some (.int .i64 (bb : Int)) := HO.out.cell x1
      exact wpOp_val rfl ((wanted_at rfl rfl (hv.get 14 rfl rfl (hd 14 (by decide)))).trans rfl) (ex_load rfl (hv.get 15 rfl rfl (hd 15 (by decide))) (by go_simp)) ⟨hv.put hop_9_apart 16 rfl (Nat.le_of_ble_eq_true rfl) (Nat.le_of_ble_eq_true rfl) rfl, HO⟩
    · -- 17 move
      rintro L a wc ⟨hv, HO⟩ hL hc hd
      exact wpOp_val rfl ((wanted_at rfl rfl (hv.get 14 rfl rfl (hd 14 (by decide)))).trans rfl) (ex_move rfl ((hv.fixed 5 (by decide)).trans rfl)) ⟨hv.put hop_9_apart 17 rfl (Nat.le_of_ble_eq_true rfl) (Nat.le_of_ble_eq_true rfl) rfl, HO⟩
    · -- 18 bin
      rintro L a wc ⟨hv, HO⟩ hL hc hd
      exact wpOp_val rfl ((wanted_at rfl rfl (hv.get 14 rfl rfl (hd 14 (by decide)))).trans rfl) (ex_bin rfl (hv.get 16 rfl rfl (hd 16 (by decide))) (hv.get 17 rfl rfl (hd 17 (by decide))) (by go_simp)) ⟨hv.put hop_9_apart 18 rfl (Nat.le_of_ble_eq_true rfl) (Nat.le_of_ble_eq_true rfl) rfl, HO⟩
    · -- 19 pick
      rintro L a wc ⟨hv, HO⟩ hL hc hd
      exact wpOp_val rfl rfl (ex_pick rfl (hv.get 14 rfl rfl (hd 14 (by decide))) ((if_neg (by simp)).trans (hv.get 18 rfl rfl (hd 18 (by decide))))) ⟨hv.put hop_9_apart 19 rfl (Nat.le_of_ble_eq_true rfl) (Nat.le_of_ble_eq_true rfl) rfl, HO⟩
    · -- 20 move
      rintro L a wc ⟨hv, HO⟩ hL hc hd
      exact wpOp_val rfl rfl (ex_move rfl (hv.get 19 rfl rfl (hd 19 (by decide)))) ⟨hv.put hop_9_apart 20 rfl (Nat.le_of_ble_eq_true rfl) (Nat.le_of_ble_eq_true rfl) rfl, HO⟩
    · -- 21 field
      rintro L a wc ⟨hv, HO⟩ hL hc hd
      exact wpOp_val rfl ((wanted_at rfl rfl (hv.get 20 rfl rfl (hd 20 (by decide)))).trans rfl) (ex_field rfl ((hv.fixed 8 (by decide)).trans rfl) (by go_simp)) ⟨hv.put hop_9_apart 21 rfl (Nat.le_of_ble_eq_true rfl) (Nat.le_of_ble_eq_true rfl) rfl, HO⟩
    · -- 22 load
      rintro L a wc ⟨hv, HO⟩ hL hc hd
      have x0' : wc.cell? ⟨X, 0, none⟩ = some (.int .i64 (aa : Int)) := HO.out.cell x0
      exact wpOp_val rfl ((wanted_at rfl rfl (hv.get 20 rfl rfl (hd 20 (by decide)))).trans rfl) (ex_load rfl (hv.get 21 rfl rfl (hd 21 (by decide))) (by go_simp)) ⟨hv.put hop_9_apart 22 rfl (Nat.le_of_ble_eq_true rfl) (Nat.le_of_ble_eq_true rfl) rfl, HO⟩
    · -- 23 field
      rintro L a wc ⟨hv, HO⟩ hL hc hd
      exact wpOp_val rfl ((wanted_at rfl rfl (hv.get 20 rfl rfl (hd 20 (by decide)))).trans rfl) (ex_field rfl ((hv.fixed 8 (by decide)).trans rfl) (by go_simp)) ⟨hv.put hop_9_apart 23 rfl (Nat.le_of_ble_eq_true rfl) (Nat.le_of_ble_eq_true rfl) rfl, HO⟩
    · -- 24 load
      rintro L a wc ⟨hv, HO⟩ hL hc hd
      have x1' : wc.cell? ⟨X, 1, none⟩ = some (.int .i64 (bb : Int)) := HO.out.cell x1
      exact wpOp_val rfl ((wanted_at rfl rfl (hv.get 20 rfl rfl (hd 20 (by decide)))).trans rfl) (ex_load rfl (hv.get 23 rfl rfl (hd 23 (by decide))) (by go_simp)) ⟨hv.put hop_9_apart 24 rfl (Nat.le_of_ble_eq_true rfl) (Nat.le_of_ble_eq_true rfl) rfl, HO⟩
    · -- 25 bin
      rintro L a wc ⟨hv, HO⟩ hL hc hd
      exact wpOp_val rfl ((wanted_at rfl rfl (hv.get 20 rfl rfl (hd 20 (by decide)))).trans rfl) (ex_bin rfl (hv.get 22 rfl rfl (hd 22 (by decide))) (hv.get 24 rfl rfl (hd 24 (by decide))) (by go_simp)) ⟨hv.put hop_9_apart 25 rfl (Nat.le_of_ble_eq_true rfl) (Nat.le_of_ble_eq_true rfl) rfl, HO⟩
    · -- 26 pick
      rintro L a wc ⟨hv, HO⟩ hL hc hd
      exact wpOp_val rfl rfl (ex_pick rfl (hv.get 20 rfl rfl (hd 20 (by decide))) ((if_neg (by simp)).trans (hv.get 25 rfl rfl (hd 25 (by decide))))) ⟨hv.put hop_9_apart 26 rfl (Nat.le_of_ble_eq_true rfl) (Nat.le_of_ble_eq_true rfl) rfl, HO⟩
    · -- 27 move
      rintro L a wc ⟨hv, HO⟩ hL hc hd
      exact wpOp_val rfl rfl (ex_move rfl (hv.get 26 rfl rfl (hd 26 (by decide)))) ⟨hv.put hop_9_apart 27 rfl (Nat.le_of_ble_eq_true rfl) (Nat.le_of_ble_eq_true rfl) rfl, HO⟩
    · -- 28 field
      rintro L a wc ⟨hv, HO⟩ hL hc hd
      exact wpOp_val rfl ((wanted_at rfl rfl (hv.get 27 rfl rfl (hd 27 (by decide)))).trans rfl) (ex_field rfl ((hv.fixed 8 (by decide)).trans rfl) (by go_simp)) ⟨hv.put hop_9_apart 28 rfl (Nat.le_of_ble_eq_true rfl) (Nat.le_of_ble_eq_true rfl) rfl, HO⟩
    · -- 29 load
      rintro L a wc ⟨hv, HO⟩ hL hc hd
      have x0' : wc.cell? ⟨X, 0, none⟩ = some (.int .i64 (aa : Int)) := HO.out.cell x0
      exact wpOp_val rfl ((wanted_at rfl rfl (hv.get 27 rfl rfl (hd 27 (by decide)))).trans rfl) (ex_load rfl (hv.get 28 rfl rfl (hd 28 (by decide))) (by go_simp)) ⟨hv.put hop_9_apart 29 rfl (Nat.le_of_ble_eq_true rfl) (Nat.le_of_ble_eq_true rfl) rfl, HO⟩
    · -- 30 field
      rintro L a wc ⟨hv, HO⟩ hL hc hd
      exact wpOp_val rfl ((wanted_at rfl rfl (hv.get 27 rfl rfl (hd 27 (by decide)))).trans rfl) (ex_field rfl ((hv.fixed 2 (by decide)).trans rfl) (by go_simp)) ⟨hv.put hop_9_apart 30 rfl (Nat.le_of_ble_eq_true rfl) (Nat.le_of_ble_eq_true rfl) rfl, HO⟩
    · -- 31 load
      rintro L a wc ⟨hv, HO⟩ hL hc hd
      have h2' : wc.cell? ⟨B, 2, none⟩ = some (.int .i64 g) := HO.out.cell h2
      exact wpOp_val rfl ((wanted_at rfl rfl (hv.get 27 rfl rfl (hd 27 (by decide)))).trans rfl) (ex_load rfl (hv.get 30 rfl rfl (hd 30 (by decide))) (by go_simp)) ⟨hv.put hop_9_apart 31 rfl (Nat.le_of_ble_eq_true rfl) (Nat.le_of_ble_eq_true rfl) rfl, HO⟩
    · -- 32 bin
      rintro L a wc ⟨hv, HO⟩ hL hc hd
      exact wpOp_val rfl ((wanted_at rfl rfl (hv.get 27 rfl rfl (hd 27 (by decide)))).trans rfl) (ex_bin rfl (hv.get 29 rfl rfl (hd 29 (by decide))) (hv.get 31 rfl rfl (hd 31 (by decide))) (by go_simp)) ⟨hv.put hop_9_apart 32 rfl (Nat.le_of_ble_eq_true rfl) (Nat.le_of_ble_eq_true rfl) rfl, HO⟩
    · -- 33 pick
      rintro L a wc ⟨hv, HO⟩ hL hc hd
      exact wpOp_val rfl rfl (ex_pick rfl (hv.get 27 rfl rfl (hd 27 (by decide))) ((if_neg (by simp)).trans (hv.get 32 rfl rfl (hd 32 (by decide))))) ⟨hv.put hop_9_apart 33 rfl (Nat.le_of_ble_eq_true rfl) (Nat.le_of_ble_eq_true rfl) rfl, HO⟩
    · -- 34 move
      rintro L a wc ⟨hv, HO⟩ hL hc hd
      exact wpOp_val rfl rfl (ex_move rfl (hv.get 33 rfl rfl (hd 33 (by decide)))) ⟨hv.put hop_9_apart 34 rfl (Nat.le_of_ble_eq_true rfl) (Nat.le_of_ble_eq_true rfl) rfl, HO⟩
    · -- 35 field
      rintro L a wc ⟨hv, HO⟩ hL hc hd
      exact wpOp_val rfl ((wanted_at rfl rfl (hv.get 34 rfl rfl (hd 34 (by decide)))).trans rfl) (ex_field rfl ((hv.fixed 2 (by decide)).trans rfl) (by go_simp)) ⟨hv.put hop_9_apart 35 rfl (Nat.le_of_ble_eq_true rfl) (Nat.le_of_ble_eq_true rfl) rfl, HO⟩
    · -- 36 load
      rintro L a wc ⟨hv, HO⟩ hL hc hd
      have h0' : wc.cell? ⟨B, 0, none⟩ = some (.slice (some ad1) n cA) := HO.out.cell h0
      exact wpOp_val rfl ((wanted_at rfl rfl (hv.get 34 rfl rfl (hd 34 (by decide)))).trans rfl) (ex_load rfl (hv.get 35 rfl rfl (hd 35 (by decide))) (by go_simp)) ⟨hv.put hop_9_apart 36 rfl (Nat.le_of_ble_eq_true rfl) (Nat.le_of_ble_eq_true rfl) rfl, HO⟩
    · -- 37 field
      rintro L a wc ⟨hv, HO⟩ hL hc hd
      exact wpOp_val rfl ((wanted_at rfl rfl (hv.get 34 rfl rfl (hd 34 (by decide)))).trans rfl) (ex_field rfl ((hv.fixed 8 (by decide)).trans rfl) (by go_simp)) ⟨hv.put hop_9_apart 37 rfl (Nat.le_of_ble_eq_true rfl) (Nat.le_of_ble_eq_true rfl) rfl, HO⟩
    · -- 38 load
      rintro L a wc ⟨hv, HO⟩ hL hc hd
      have x0' : wc.cell? ⟨X, 0, none⟩ = some (.int .i64 (aa : Int)) := HO.out.cell x0
      exact wpOp_val rfl ((wanted_at rfl rfl (hv.get 34 rfl rfl (hd 34 (by decide)))).trans rfl) (ex_load rfl (hv.get 37 rfl rfl (hd 37 (by decide))) (by go_simp)) ⟨hv.put hop_9_apart 38 rfl (Nat.le_of_ble_eq_true rfl) (Nat.le_of_ble_eq_true rfl) rfl, HO⟩
    · -- 39 index
      rintro L a wc ⟨hv, HO⟩ hL hc hd
      exact wpOp_val rfl ((wanted_at rfl rfl (hv.get 34 rfl rfl (hd 34 (by decide)))).trans rfl) (ex_index rfl (hv.get 36 rfl rfl (hd 36 (by decide))) (hv.get 38 rfl rfl (hd 38 (by decide))) (by go_simp)) ⟨hv.put hop_9_apart 39 rfl (Nat.le_of_ble_eq_true rfl) (Nat.le_of_ble_eq_true rfl) rfl, HO⟩
    · -- 40 load
      rintro L a wc ⟨hv, HO⟩ hL hc hd
      have g1' : wc.cell? (ad1.add aa) = some (.slice (some ad2) n cc) := HO.out.cell g1
      exact wpOp_val rfl ((wanted_at rfl rfl (hv.get 34 rfl rfl (hd 34 (by decide)))).trans rfl) (ex_load rfl (hv.get 39 rfl rfl (hd 39 (by decide))) (by go_simp)) ⟨hv.put hop_9_apart 40 rfl (Nat.le_of_ble_eq_true rfl) (Nat.le_of_ble_eq_true rfl) rfl, HO⟩
    · -- 41 field
      rintro L a wc ⟨hv, HO⟩ hL hc hd
      exact wpOp_val rfl ((wanted_at rfl rfl (hv.get 34 rfl rfl (hd 34 (by decide)))).trans rfl) (ex_field rfl ((hv.fixed 8 (by decide)).trans rfl) (by go_simp)) ⟨hv.put hop_9_apart 41 rfl (Nat.le_of_ble_eq_true rfl) (Nat.le_of_ble_eq_true rfl) rfl, HO⟩
    · -- 42 load
      rintro L a wc ⟨hv, HO⟩ hL hc hd
      have x1' : wc.cell? ⟨X, 1, none⟩ = some (.int .i64 (bb : Int)) := HO.out.cell x1
      exact wpOp_val rfl ((wanted_at rfl rfl (hv.get 34 rfl rfl (hd 34 (by decide)))).trans rfl) (ex_load rfl (hv.get 41 rfl rfl (hd 41 (by decide))) (by go_simp)) ⟨hv.put hop_9_apart 42 rfl (Nat.le_of_ble_eq_true rfl) (Nat.le_of_ble_eq_true rfl) rfl, HO⟩
    · -- 43 index
      rintro L a wc ⟨hv, HO⟩ hL hc hd
      exact wpOp_val rfl ((wanted_at rfl rfl (hv.get 34 rfl rfl (hd 34 (by decide)))).trans rfl) (ex_index rfl (hv.get 40 rfl rfl (hd 40 (by decide))) (hv.get 42 rfl rfl (hd 42 (by decide))) (by go_simp)) ⟨hv.put hop_9_apart 43 rfl (Nat.le_of_ble_eq_true rfl) (Nat.le_of_ble_eq_true rfl) rfl, HO⟩
    · -- 44 load
      rintro L a wc ⟨hv, HO⟩ hL hc hd
      have g2' : wc.cell? (ad2.add bb) = some (.int .i64 pp) := HO.out.cell g2
      exact wpOp_val rfl ((wanted_at rfl rfl (hv.get 34 rfl rfl (hd 34 (by decide)))).trans rfl) (ex_load rfl (hv.get 43 rfl rfl (hd 43 (by decide))) (by go_simp)) ⟨hv.put hop_9_apart 44 rfl (Nat.le_of_ble_eq_true rfl) (Nat.le_of_ble_eq_true rfl) rfl, HO⟩
    · -- 45 bin
      rintro L a wc ⟨hv, HO⟩ hL hc hd
      exact wpOp_val rfl ((wanted_at rfl rfl (hv.get 34 rfl rfl (hd 34 (by decide)))).trans rfl) (ex_bin rfl (hv.get 44 rfl rfl (hd 44 (by decide))) rfl (by go_simp)) ⟨hv.put hop_9_apart 45 rfl (Nat.le_of_ble_eq_true rfl) (Nat.le_of_ble_eq_true rfl) rfl, HO⟩
    · -- 46 pick
      rintro L a wc ⟨hv, HO⟩ hL hc hd
      exact wpOp_val rfl rfl (ex_pick rfl (hv.get 34 rfl rfl (hd 34 (by decide))) ((if_neg (by simp)).trans (hv.get 45 rfl rfl (hd 45 (by decide))))) ⟨hv.put hop_9_apart 46 rfl (Nat.le_of_ble_eq_true rfl) (Nat.le_of_ble_eq_true rfl) rfl, HO⟩
    · -- 47 move
      rintro L a wc ⟨hv, HO⟩ hL hc hd
      exact wpOp_val rfl rfl (ex_move rfl (hv.get 46 rfl rfl (hd 46 (by decide)))) ⟨hv.put hop_9_apart 47 rfl (Nat.le_of_ble_eq_true rfl) (Nat.le_of_ble_eq_true rfl) rfl, HO⟩
    · -- 48 move
      rintro L a wc ⟨hv, HO⟩ hL hc hd
      exact wpOp_val rfl ((wanted_at rfl rfl (hv.get 47 rfl rfl (hd 47 (by decide)))).trans rfl) (ex_move rfl ((hv.fixed 7 (by decide)).trans rfl)) ⟨hv.put hop_9_apart 48 rfl (Nat.le_of_ble_eq_true rfl) (Nat.le_of_ble_eq_true rfl) rfl, HO⟩
    · -- 49 bin
      rintro L a wc ⟨hv, HO⟩ hL hc hd
      exact wpOp_val rfl ((wanted_at rfl rfl (hv.get 47 rfl rfl (hd 47 (by decide)))).trans rfl) (ex_bin rfl (hv.get 48 rfl rfl (hd 48 (by decide))) rfl (by go_simp)) ⟨hv.put hop_9_apart 49 rfl (Nat.le_of_ble_eq_true rfl) (Nat.le_of_ble_eq_true rfl) rfl, HO⟩
    · -- 50 move
      rintro L a wc ⟨hv, HO⟩ hL hc hd
      exact wpOp_val rfl ((wanted_at rfl rfl (hv.get 47 rfl rfl (hd 47 (by decide)))).trans rfl) (ex_move rfl (hv.get 49 rfl rfl (hd 49 (by decide)))) ⟨hv.put hop_9_apart 50 rfl (Nat.le_of_ble_eq_true rfl) (Nat.le_of_ble_eq_true rfl) rfl, HO⟩
    · -- 51 move
      rintro L a wc ⟨hv, HO⟩ hL hc hd
      exact wpOp_val rfl ((wanted_at rfl rfl (hv.get 50 rfl rfl (hd 50 (by decide)))).trans rfl) (ex_move rfl ((hv.fixed 1 (by decide)).trans rfl)) ⟨hv.put hop_9_apart 51 rfl (Nat.le_of_ble_eq_true rfl) (Nat.le_of_ble_eq_true rfl) rfl, HO⟩
    · -- 52 move
      rintro L a wc ⟨hv, HO⟩ hL hc hd
      exact wpOp_val rfl ((wanted_at rfl rfl (hv.get 50 rfl rfl (hd 50 (by decide)))).trans rfl) (ex_move rfl ((hv.fixed 7 (by decide)).trans rfl)) ⟨hv.put hop_9_apart 52 rfl (Nat.le_of_ble_eq_true rfl) (Nat.le_of_ble_eq_true rfl) rfl, HO⟩
    · -- 53 bin
      rintro L a wc ⟨hv, HO⟩ hL hc hd
      have h : IntKind.i64.wrap (j : Int) = (j : Int) := by rw [IntKind.wrap_i64]; omega
      exact wpOp_val rfl ((wanted_at rfl rfl (hv.get 50 rfl rfl (hd 50 (by decide)))).trans rfl) (ex_bin rfl (hv.get 52 rfl rfl (hd 52 (by decide))) rfl (by go_simp)) ⟨hv.put hop_9_apart 53 rfl (Nat.le_of_ble_eq_true rfl) (Nat.le_of_ble_eq_true rfl) rfl, HO⟩
    · -- 54 index
      rintro L a wc ⟨hv, HO⟩ hL hc hd
      exact wpOp_val rfl ((wanted_at rfl rfl (hv.get 50 rfl rfl (hd 50 (by decide)))).trans rfl) (ex_index rfl (hv.get 51 rfl rfl (hd 51 (by decide))) (hv.get 53 rfl rfl (hd 53 (by decide))) (by go_simp)) ⟨hv.put hop_9_apart 54 rfl (Nat.le_of_ble_eq_true rfl) (Nat.le_of_ble_eq_true rfl) rfl, HO⟩
    · -- 55 field
      rintro L a wc ⟨hv, HO⟩ hL hc hd
      exact wpOp_val rfl ((wanted_at rfl rfl (hv.get 50 rfl rfl (hd 50 (by decide)))).trans rfl) (ex_field rfl (hv.get 54 rfl rfl (hd 54 (by decide))) (by go_simp)) ⟨hv.put hop_9_apart 55 rfl (Nat.le_of_ble_eq_true rfl) (Nat.le_of_ble_eq_true rfl) rfl, HO⟩
    · -- 56 load
      rintro L a wc ⟨hv, HO⟩ hL hc hd
      have m1' : wc.cell? (ad.add (j * 2)) = some (.int .i64 f0) := HO.out.cell m1
      exact wpOp_val rfl ((wanted_at rfl rfl (hv.get 50 rfl rfl (hd 50 (by decide)))).trans rfl) (ex_load rfl (hv.get 55 rfl rfl (hd 55 (by decide))) (by go_simp)) ⟨hv.put hop_9_apart 56 rfl (Nat.le_of_ble_eq_true rfl) (Nat.le_of_ble_eq_true rfl) rfl, HO⟩
    · -- 57 field
      rintro L a wc ⟨hv, HO⟩ hL hc hd
      exact wpOp_val rfl ((wanted_at rfl rfl (hv.get 50 rfl rfl (hd 50 (by decide)))).trans rfl) (ex_field rfl ((hv.fixed 8 (by decide)).trans rfl) (by go_simp)) ⟨hv.put hop_9_apart 57 rfl (Nat.le_of_ble_eq_true rfl) (Nat.le_of_ble_eq_true rfl) rfl, HO⟩
    · -- 58 load
      rintro L a wc ⟨hv, HO⟩ hL hc hd
      have x0' : wc.cell? ⟨X, 0, none⟩ = some (.int .i64 (aa : Int)) := HO.out.cell x0
      exact wpOp_val rfl ((wanted_at rfl rfl (hv.get 50 rfl rfl (hd 50 (by decide)))).trans rfl) (ex_load rfl (hv.get 57 rfl rfl (hd 57 (by decide))) (by go_simp)) ⟨hv.put hop_9_apart 58 rfl (Nat.le_of_ble_eq_true rfl) (Nat.le_of_ble_eq_true rfl) rfl, HO⟩
    · -- 59 bin
      rintro L a wc ⟨hv, HO⟩ hL hc hd
      exact wpOp_val rfl ((wanted_at rfl rfl (hv.get 50 rfl rfl (hd 50 (by decide)))).trans rfl) (ex_bin rfl (hv.get 56 rfl rfl (hd 56 (by decide))) (hv.get 58 rfl rfl (hd 58 (by decide))) (by go_simp)) ⟨hv.put hop_9_apart 59 rfl (Nat.le_of_ble_eq_true rfl) (Nat.le_of_ble_eq_true rfl) rfl, HO⟩
    · -- 60 pick
      rintro L a wc ⟨hv, HO⟩ hL hc hd
      exact wpOp_val rfl ((wanted_at rfl rfl (hv.get 47 rfl rfl (hd 47 (by decide)))).trans rfl) (ex_pick rfl (hv.get 50 rfl rfl (hd 50 (by decide))) ((if_pos rfl).trans (hv.get 59 rfl rfl (hd 59 (by decide))))) ⟨hv.put hop_9_apart 60 rfl (Nat.le_of_ble_eq_true rfl) (Nat.le_of_ble_eq_true rfl) rfl, HO⟩
    · -- 61 pick
      rintro L a wc ⟨hv, HO⟩ hL hc hd
      exact wpOp_val rfl rfl (ex_pick rfl (hv.get 47 rfl rfl (hd 47 (by decide))) ((if_neg (by simp)).trans (hv.get 60 rfl rfl (hd 60 (by decide))))) ⟨hv.put hop_9_apart 61 rfl (Nat.le_of_ble_eq_true rfl) (Nat.le_of_ble_eq_true rfl) rfl, HO⟩
  · rintro L a wc ⟨hv, HO⟩ hall
    show K a wc
    have ha := act_lit a
    rw [hv.size, hv.defers] at ha
    have hl : ∀ f : Nat → Value, ((List.range (⟨#[c0, .slice (some ad) ln e, .pointer (some ⟨B, 0, none⟩), c3, c4, .int .i64 (n : Nat), c6, .int .i64 I, .pointer (some ⟨X, 0, none⟩), c9, c10, c11, c12, c13, c14, c15, c16, c17, c18, c19, c20, c21, c22, c23, c24, c25, c26, c27, c28, c29, c30, c31, c32, c33, c34, c35, c36, c37, c38, c39, c40, c41, c42, c43, c44, c45, c46, c47, c48, c49, c50, c51, c52, c53, c54, c55, c56, c57, c58, c59, c60, c61, c62, c63, c64, c65, c66, c67, c68, c69, c70, c71, c72, c73, c74, c75, c76, c77, c78, c79, c80, c81, c82, c83, c84, c85, c86, c87, c88, c89, c90, c91, c92, c93, c94, c95, c96, c97, c98, c99, c100, c101, c102, c103, c104, c105, c106, c107, c108, c109, c110, c111, c112, c113, c114, c115, c116, c117, c118, c119, c120, c121, c122, c123, c124, c125, c126, c127, c128, c129, c130, c131, c132, c133, c134, c135, c136, c137, c138, c139, c140], df⟩ : Act).tmps.size).map f).toArray = #[f 0, f 1, f 2, f 3, f 4, f 5, f 6, f 7, f 8, f 9, f 10, f 11, f 12, f 13, f 14, f 15, f 16, f 17, f 18, f 19, f 20, f 21, f 22, f 23, f 24, f 25, f 26, f 27, f 28, f 29, f 30, f 31, f 32, f 33, f 34, f 35, f 36, f 37, f 38, f 39, f 40, f 41, f 42, f 43, f 44, f 45, f 46, f 47, f 48, f 49, f 50, f 51, f 52, f 53, f 54, f 55, f 56, f 57, f 58, f 59, f 60, f 61, f 62, f 63, f 64, f 65, f 66, f 67, f 68, f 69, f 70, f 71, f 72, f 73, f 74, f 75, f 76, f 77, f 78, f 79, f 80, f 81, f 82, f 83, f 84, f 85, f 86, f 87, f 88, f 89, f 90, f 91, f 92, f 93, f 94, f 95, f 96, f 97, f 98, f 99, f 100, f 101, f 102, f 103, f 104, f 105, f 106, f 107, f 108, f 109, f 110, f 111, f 112, f 113, f 114, f 115, f 116, f 117, f 118, f 119, f 120, f 121, f 122, f 123, f 124, f 125, f 126, f 127, f 128, f 129, f 130, f 131, f 132, f 133, f 134, f 135, f 136, f 137, f 138, f 139, f 140] := fun _ => rfl
    rw [hl] at ha
    simp only [hv.fixed 0 (by decide), hv.fixed 1 (by decide), hv.fixed 2 (by decide), hv.fixed 3 (by decide), hv.fixed 4 (by decide), hv.fixed 5 (by decide), hv.fixed 6 (by decide), hv.fixed 7 (by decide), hv.fixed 8 (by decide), hv.fixed 9 (by decide), hv.fixed 10 (by decide), hv.fixed 11 (by decide), hv.fixed 12 (by decide), hv.fixed 13 (by decide), hv.fixed 14 (by decide), hv.fixed 15 (by decide), hv.fixed 16 (by decide), hv.fixed 17 (by decide), hv.fixed 18 (by decide), hv.fixed 19 (by decide), hv.fixed 20 (by decide), hv.fixed 21 (by decide), hv.fixed 22 (by decide), hv.fixed 23 (by decide), hv.fixed 24 (by decide), hv.fixed 25 (by decide), hv.fixed 26 (by decide), hv.fixed 27 (by decide), hv.fixed 28 (by decide), hv.fixed 29 (by decide), hv.fixed 30 (by decide), hv.fixed 31 (by decide), hv.fixed 94 (by decide), hv.fixed 95 (by decide), hv.fixed 96 (by decide), hv.fixed 97 (by decide), hv.fixed 98 (by decide), hv.fixed 99 (by decide), hv.fixed 100 (by decide), hv.fixed 101 (by decide), hv.fixed 102 (by decide), hv.fixed 103 (by decide), hv.fixed 104 (by decide), hv.fixed 105 (by decide), hv.fixed 106 (by decide), hv.fixed 107 (by decide), hv.fixed 108 (by decide), hv.fixed 109 (by decide), hv.fixed 110 (by decide), hv.fixed 111 (by decide), hv.fixed 112 (by decide), hv.fixed 113 (by decide), hv.fixed 114 (by decide), hv.fixed 115 (by decide), hv.fixed 116 (by decide), hv.fixed 117 (by decide), hv.fixed 118 (by decide), hv.fixed 119 (by decide), hv.fixed 120 (by decide), hv.fixed 121 (by decide), hv.fixed 122 (by decide), hv.fixed 123 (by decide), hv.fixed 124 (by decide), hv.fixed 125 (by decide), hv.fixed 126 (by decide), hv.fixed 127 (by decide), hv.fixed 128 (by decide), hv.fixed 129 (by decide), hv.fixed 130 (by decide), hv.fixed 131 (by decide), hv.fixed 132 (by decide), hv.fixed 133 (by decide), hv.fixed 134 (by decide), hv.fixed 135 (by decide), hv.fixed 136 (by decide), hv.fixed 137 (by decide), hv.fixed 138 (by decide), hv.fixed 139 (by decide), hv.fixed 140 (by decide), hv.get 61 (d := 93) rfl rfl (hall 61 (by decide))] at ha
    rw [ha]
    exact hK _ _ _ _ _ _ _ _ _ _ _ _ _ _ _ _ _ _ _ _ _ _ _ _ _ _ _ _ _ _ _ _ _ _ _ _ _ _ _ _ _ _ _ _ _ _ _ _ _ _ _ _ _ _ _ _ _ _ _ _ _ wc HO.out
end Go.Proofs.YtenafgphaceidaaDoor
