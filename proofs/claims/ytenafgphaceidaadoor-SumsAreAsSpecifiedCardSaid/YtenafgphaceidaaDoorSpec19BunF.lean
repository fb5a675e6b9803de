/- What the program's functions do, step by step: part F of the texts for this claim; no condition beyond what each theorem states. -/
import Derived.Deep.Matrix
import Derived.Lib.SmallJoins
import Derived.Deep.Slices
import Derived.Test.YtenafgphaceidaaDoorSpec19BunA
import Derived.Test.YtenafgphaceidaaDoorSpec19BunB
import Derived.Test.YtenafgphaceidaaDoorSpec19BunC
import Derived.Test.YtenafgphaceidaaDoorSpec19BunD
import Derived.Test.YtenafgphaceidaaDoorSpec19BunE
/- THE DRAWN REGION of law 19's sanity. -/
namespace Go.Proofs.YtenafgphaceidaaDoor
open Go.RowKit
set_option maxRecDepth 100000 in
theorem ent_same : ∀ args w, (callFunc 26 args).run Tryd.prog w = .ok (.enter 26 args) w := enters_of Tryd.func26 (by kernel_rfl) rfl
set_option maxRecDepth 100000 in
theorem ent_valid : ∀ args w, (callFunc 14 args).run Tryd.prog w = .ok (.enter 14 args) w := enters_of Tryd.func14 (by kernel_rfl) rfl
set_option maxRecDepth 100000 in
theorem tree2 (gT : Nat) (w : World) : (Instr.sliceAt 26 (.slice (some ⟨gT, 0, none⟩) 3 3) none (some (.int .i64 2)) none).run Tryd.prog w = .ok (.slice (some ⟨gT, 0, none⟩) 2 3) w := by
  rw [run_sliceAt_slice _ _ _ _ _ _ Tryd.underlying26, run_slice_h _ _ _ _ _ Tryd.underlying26 .i64 2 (by decide) (by decide)]
  rfl
noncomputable def san_costs_code : Code := ((Tryd.f9.body.bind (regionOf 13)).getD .skip)
def san_costs_dsts : List (Option Nat) := [some 104, some 105, some 106, some 107, some 108, some 109, some 110, some 111, some 112, some 113, some 114, some 115, some 116, some 117, some 118, some 119, some 120, some 121, some 122, some 123, some 124, some 125, some 126, some 127, some 128, some 129, some 130, some 131, some 132, some 133, some 134, some 22]
theorem san_costs_apart : apartD san_costs_dsts = true := by decide +kernel
set_option maxRecDepth 1000000 in
set_option maxHeartbeats 16000000 in
theorem san_costs (wr : World) (B gT m cl : Nat) (A : Option Addr) (G S : Value) (b0 : wr.cell? ⟨B, 0, none⟩ = some G) (b1 : wr.cell? ⟨B, 1, none⟩ = some S) (b2 : wr.cell? ⟨B, 2, none⟩ = some (.int .i64 0)) (HS : Hid (∀ w1, Ext wr w1 → Calls Tryd.prog 26 #[.slice A m cl, .slice (some ⟨gT, 0, none⟩) 3 3] w1 fun e w' => e = .returned (.bool true) ∧ Ext w1 w')) (HV2 : Hid (∀ w1, Ext wr w1 → Calls Tryd.prog 14 #[.agg #[G, S, .int .i64 0], .slice (some ⟨gT, 0, none⟩) 2 3] w1 fun e w' => e = .returned (.bool false) ∧ Ext w1 w')) (HV3 : Hid (∀ w1, Ext wr w1 → Calls Tryd.prog 14 #[.agg #[G, S, .int .i64 0], .slice (some ⟨gT, 0, none⟩) 3 3] w1 fun e w' => e = .returned (.bool true) ∧ Ext w1 w')) (c0 c2 c4 c6 c8 c10 c11 c12 c13 c14 c15 c16 c18 c20 c21 c22 c23 c24 c25 c26 c27 c28 c29 c30 c31 c32 c33 c34 c35 c36 c37 c38 c39 c40 c41 c42 c43 c44 c45 c46 c47 c48 c49 c50 c51 c52 c53 c54 c55 c56 c57 c58 c59 c60 c61 c62 c63 c64 c65 c66 c67 c68 c69 c70 c71 c72 c73 c74 c75 c76 c77 c78 c79 c80 c81 c82 c83 c84 c85 c86 c87 c88 c89 c90 c91 c92 c93 c94 c95 c96 c97 c98 c99 c100 c101 c102 c103 c104 c105 c106 c107 c108 c109 c110 c111 c112 c113 c114 c115 c116 c117 c118 c119 c120 c121 c122 c123 c124 c125 c126 c127 c128 c129 c130 c131 c132 c133 c134 c135 c136 c137 c138 c139 c140 c141 c142 c143 c144 c145 c146 c147 c148 c149 c150 c151 c152 c153 c154 c155 c156 : Value) (df : List Deferred) (K : Act → World → Prop)
    (hK : ∀  (u104 u105 u106 u107 u108 u109 u110 u111 u112 u113 u114 u115 u116 u117 u118 u119 u120 u121 u122 u123 u124 u125 u126 u127 u128 u129 u130 u131 u132 u133 u134 : Value) (wx : World), Ext wr wx → K ⟨#[c0, .pointer (some ⟨B, 0, none⟩), c2, .slice (some ⟨gT, 0, none⟩) 3 3, c4, .int .i64 6, c6, .slice A m cl, c8, .int .i64 8, c10, c11, c12, c13, c14, c15, c16, .int .i64 4, c18, .int .i64 0, c20, c21, .bool true, c23, c24, c25, c26, c27, c28, c29, c30, c31, c32, c33, c34, c35, c36, c37, c38, c39, c40, c41, c42, c43, c44, c45, c46, c47, c48, c49, c50, c51, c52, c53, c54, c55, c56, c57, c58, c59, c60, c61, c62, c63, c64, c65, c66, c67, c68, c69, c70, c71, c72, c73, c74, c75, c76, c77, c78, c79, c80, c81, c82, c83, c84, c85, c86, c87, c88, c89, c90, c91, c92, c93, c94, c95, c96, c97, c98, c99, c100, c101, c102, c103, u104, u105, u106, u107, u108, u109, u110, u111, u112, u113, u114, u115, u116, u117, u118, u119, u120, u121, u122, u123, u124, u125, u126, u127, u128, u129, u130, u131, u132, u133, u134, c135, c136, c137, c138, c139, c140, c141, c142, c143, c144, c145, c146, c147, c148, c149, c150, c151, c152, c153, c154, c155, c156], df⟩ wx) :
    Code.wp Tryd.prog san_costs_code (AtEnd K) ⟨#[c0, .pointer (some ⟨B, 0, none⟩), c2, .slice (some ⟨gT, 0, none⟩) 3 3, c4, .int .i64 6, c6, .slice A m cl, c8, .int .i64 8, c10, c11, c12, c13, c14, c15, c16, .int .i64 4, c18, .int .i64 0, c20, c21, c22, c23, c24, c25, c26, c27, c28, c29, c30, c31, c32, c33, c34, c35, c36, c37, c38, c39, c40, c41, c42, c43, c44, c45, c46, c47, c48, c49, c50, c51, c52, c53, c54, c55, c56, c57, c58, c59, c60, c61, c62, c63, c64, c65, c66, c67, c68, c69, c70, c71, c72, c73, c74, c75, c76, c77, c78, c79, c80, c81, c82, c83, c84, c85, c86, c87, c88, c89, c90, c91, c92, c93, c94, c95, c96, c97, c98, c99, c100, c101, c102, c103, c104, c105, c106, c107, c108, c109, c110, c111, c112, c113, c114, c115, c116, c117, c118, c119, c120, c121, c122, c123, c124, c125, c126, c127, c128, c129, c130, c131, c132, c133, c134, c135, c136, c137, c138, c139, c140, c141, c142, c143, c144, c145, c146, c147, c148, c149, c150, c151, c152, c153, c154, c155, c156], df⟩ wr := by
  conv => arg 2; whnf
  refine region_inv (by kernel_rfl) [[], [0], [1], [2], [2], [3, 4, 2, 2], [2, 5], [6, 5], [7], [8, 7], [7, 9], [10, 7], [11], [12, 11], [11, 13], [14, 11], [15], [16, 15], [15, 17], [18, 15], [19], [19], [21, 19], [20, 22, 19, 19], [23, 19], [19, 24], [25, 23], [26], [26], [27, 28, 26, 26], [26, 29], [30, 29, 0, 1, 2, 3, 4, 5, 6, 7, 8, 9, 10, 11, 12, 13, 14, 15, 16, 17, 18, 19, 20, 21, 22, 23, 24, 25, 26, 27, 28, 29, 30]] (by kernel_rfl) [0, 1, 2, 3, 4, 5, 6, 7, 8, 9, 10, 11, 12, 13, 14, 15, 16, 17, 18, 19, 20, 21, 22, 23, 24, 25, 26, 27, 28, 29, 30, 31] (by decide +kernel) (by decide +kernel) (by decide +kernel) (fun L a wc => Inv san_costs_dsts [.int .i64 6, .bool true, .bool true, .slice A m cl, .slice (some ⟨gT, 0, none⟩) 3 3, .bool true, .bool true, .bool true, .int .i64 8, .bool true, .bool true, .bool true, .int .i64 4, .bool true, .bool true, .bool true, .int .i64 0, .bool true, .bool true, .bool true, .agg #[G, S, .int .i64 0], .slice (some ⟨gT, 0, none⟩) 3 3, .slice (some ⟨gT, 0, none⟩) 2 3, .bool false, .bool true, .bool true, .bool true, .agg #[G, S, .int .i64 0], .slice (some ⟨gT, 0, none⟩) 3 3, .bool true, .bool true, .bool true] ⟨#[c0, .pointer (some ⟨B, 0, none⟩), c2, .slice (some ⟨gT, 0, none⟩) 3 3, c4, .int .i64 6, c6, .slice A m cl, c8, .int .i64 8, c10, c11, c12, c13, c14, c15, c16, .int .i64 4, c18, .int .i64 0, c20, c21, c22, c23, c24, c25, c26, c27, c28, c29, c30, c31, c32, c33, c34, c35, c36, c37, c38, c39, c40, c41, c42, c43, c44, c45, c46, c47, c48, c49, c50, c51, c52, c53, c54, c55, c56, c57, c58, c59, c60, c61, c62, c63, c64, c65, c66, c67, c68, c69, c70, c71, c72, c73, c74, c75, c76, c77, c78, c79, c80, c81, c82, c83, c84, c85, c86, c87, c88, c89, c90, c91, c92, c93, c94, c95, c96, c97, c98, c99, c100, c101, c102, c103, c104, c105, c106, c107, c108, c109, c110, c111, c112, c113, c114, c115, c116, c117, c118, c119, c120, c121, c122, c123, c124, c125, c126, c127, c128, c129, c130, c131, c132, c133, c134, c135, c136, c137, c138, c139, c140, c141, c142, c143, c144, c145, c146, c147, c148, c149, c150, c151, c152, c153, c154, c155, c156], df⟩ L a ∧ Hid (Ext wr wc)) ⟨Inv.start, Lib.hid ((Ext.refl wr).drew)⟩ ?_ ?_
  · refine ⟨?_, ?_, ?_, ?_, ?_, ?_, ?_, ?_, ?_, ?_, ?_, ?_, ?_, ?_, ?_, ?_, ?_, ?_, ?_, ?_, ?_, ?_, ?_, ?_, ?_, ?_, ?_, ?_, ?_, ?_, ?_, ?_, trivial⟩
    · -- 0 move
      rintro L a wc ⟨hv, HO⟩ hL hc hd
      exact wpOp_val rfl rfl (ex_move rfl ((hv.fixed 5 (by decide)).trans rfl)) ⟨hv.put san_costs_apart 0 rfl (Nat.le_of_ble_eq_true rfl) (Nat.le_of_ble_eq_true rfl) rfl, HO⟩
    · -- 1 bin
      rintro L a wc ⟨hv, HO⟩ hL hc hd
      exact wpOp_val rfl rfl (ex_bin rfl (hv.get 0 rfl rfl (hd 0 (by decide))) rfl (by go_simp)) ⟨hv.put san_costs_apart 1 rfl (Nat.le_of_ble_eq_true rfl) (Nat.le_of_ble_eq_true rfl) rfl, HO⟩
    · -- 2 move
      rintro L a wc ⟨hv, HO⟩ hL hc hd
      exact wpOp_val rfl rfl (ex_move rfl (hv.get 1 rfl rfl (hd 1 (by decide)))) ⟨hv.put san_costs_apart 2 rfl (Nat.le_of_ble_eq_true rfl) (Nat.le_of_ble_eq_true rfl) rfl, HO⟩
    · -- 3 move
      rintro L a wc ⟨hv, HO⟩ hL hc hd
      exact wpOp_val rfl ((wanted_at rfl rfl (hv.get 2 rfl rfl (hd 2 (by decide)))).trans rfl) (ex_move rfl ((hv.fixed 7 (by decide)).trans rfl)) ⟨hv.put san_costs_apart 3 rfl (Nat.le_of_ble_eq_true rfl) (Nat.le_of_ble_eq_true rfl) rfl, HO⟩
    · -- 4 move
      rintro L a wc ⟨hv, HO⟩ hL hc hd
      exact wpOp_val rfl ((wanted_at rfl rfl (hv.get 2 rfl rfl (hd 2 (by decide)))).trans rfl) (ex_move rfl ((hv.fixed 3 (by decide)).trans rfl)) ⟨hv.put san_costs_apart 4 rfl (Nat.le_of_ble_eq_true rfl) (Nat.le_of_ble_eq_true rfl) rfl, HO⟩
    · -- 5 call
      rintro L a wc ⟨hv, HO⟩ hL hc hd
      refine wpOp_callw (R := fun v w1 => v = .bool true ∧ Ext wc w1) rfl ((wanted_at rfl rfl (hv.get 2 rfl rfl (hd 2 (by decide)))).trans rfl) (ex_call rfl rfl (map2c (hv.get 3 rfl rfl (hd 3 (by decide))) (hv.get 4 rfl rfl (hd 4 (by decide)))) (ent_same _ _)) ((HS.out wc HO.out).mono (fun e w' h => ⟨_, h.1, rfl, h.2⟩)) ?_
      rintro v w' ⟨rfl, hx⟩
      exact ⟨hv.put san_costs_apart 5 rfl (Nat.le_of_ble_eq_true rfl) (Nat.le_of_ble_eq_true rfl) rfl, Lib.hid (HO.out.trans hx)⟩
    · -- 6 pick
      rintro L a wc ⟨hv, HO⟩ hL hc hd
      exact wpOp_val rfl rfl (ex_pick rfl (hv.get 2 rfl rfl (hd 2 (by decide))) ((if_pos rfl).trans (hv.get 5 rfl rfl (hd 5 (by decide))))) ⟨hv.put san_costs_apart 6 rfl (Nat.le_of_ble_eq_true rfl) (Nat.le_of_ble_eq_true rfl) rfl, HO⟩
    · -- 7 move
      rintro L a wc ⟨hv, HO⟩ hL hc hd
      exact wpOp_val rfl rfl (ex_move rfl (hv.get 6 rfl rfl (hd 6 (by decide)))) ⟨hv.put san_costs_apart 7 rfl (Nat.le_of_ble_eq_true rfl) (Nat.le_of_ble_eq_true rfl) rfl, HO⟩
    · -- 8 move
      rintro L a wc ⟨hv, HO⟩ hL hc hd
      exact wpOp_val rfl ((wanted_at rfl rfl (hv.get 7 rfl rfl (hd 7 (by decide)))).trans rfl) (ex_move rfl ((hv.fixed 9 (by decide)).trans rfl)) ⟨hv.put san_costs_apart 8 rfl (Nat.le_of_ble_eq_true rfl) (Nat.le_of_ble_eq_true rfl) rfl, HO⟩
    · -- 9 bin
      rintro L a wc ⟨hv, HO⟩ hL hc hd
      exact wpOp_val rfl ((wanted_at rfl rfl (hv.get 7 rfl rfl (hd 7 (by decide)))).trans rfl) (ex_bin rfl (hv.get 8 rfl rfl (hd 8 (by decide))) rfl (by go_simp)) ⟨hv.put san_costs_apart 9 rfl (Nat.le_of_ble_eq_true rfl) (Nat.le_of_ble_eq_true rfl) rfl, HO⟩
    · -- 10 pick
      rintro L a wc ⟨hv, HO⟩ hL hc hd
      exact wpOp_val rfl rfl (ex_pick rfl (hv.get 7 rfl rfl (hd 7 (by decide))) ((if_pos rfl).trans (hv.get 9 rfl rfl (hd 9 (by decide))))) ⟨hv.put san_costs_apart 10 rfl (Nat.le_of_ble_eq_true rfl) (Nat.le_of_ble_eq_true rfl) rfl, HO⟩
    · -- 11 move
      rintro L a wc ⟨hv, HO⟩ hL hc hd
      exact wpOp_val rfl rfl (ex_move rfl (hv.get 10 rfl rfl (hd 10 (by decide)))) ⟨hv.put san_costs_apart 11 rfl (Nat.le_of_ble_eq_true rfl) (Nat.le_of_ble_eq_true rfl) rfl, HO⟩
    · -- 12 move
      rintro L a wc ⟨hv, HO⟩ hL hc hd
      exact wpOp_val rfl ((wanted_at rfl rfl (hv.get 11 rfl rfl (hd 11 (by decide)))).trans rfl) (ex_move rfl ((hv.fixed 17 (by decide)).trans rfl)) ⟨hv.put san_costs_apart 12 rfl (Nat.le_of_ble_eq_true rfl) (Nat.le_of_ble_eq_true rfl) rfl, HO⟩
    · -- 13 bin
      rintro L a wc ⟨hv, HO⟩ hL hc hd
      exact wpOp_val rfl ((wanted_at rfl rfl (hv.get 11 rfl rfl (hd 11 (by decide)))).trans rfl) (ex_bin rfl (hv.get 12 rfl rfl (hd 12 (by decide))) rfl (by go_simp)) ⟨hv.put san_costs_apart 13 rfl (Nat.le_of_ble_eq_true rfl) (Nat.le_of_ble_eq_true rfl) rfl, HO⟩
    · -- 14 pick
      rintro L a wc ⟨hv, HO⟩ hL hc hd
      exact wpOp_val rfl rfl (ex_pick rfl (hv.get 11 rfl rfl (hd 11 (by decide))) ((if_pos rfl).trans (hv.get 13 rfl rfl (hd 13 (by decide))))) ⟨hv.put san_costs_apart 14 rfl (Nat.le_of_ble_eq_true rfl) (Nat.le_of_ble_eq_true rfl) rfl, HO⟩
    · -- 15 move
      rintro L a wc ⟨hv, HO⟩ hL hc hd
      exact wpOp_val rfl rfl (ex_move rfl (hv.get 14 rfl rfl (hd 14 (by decide)))) ⟨hv.put san_costs_apart 15 rfl (Nat.le_of_ble_eq_true rfl) (Nat.le_of_ble_eq_true rfl) rfl, HO⟩
    · -- 16 move
      rintro L a wc ⟨hv, HO⟩ hL hc hd
      exact wpOp_val rfl ((wanted_at rfl rfl (hv.get 15 rfl rfl (hd 15 (by decide)))).trans rfl) (ex_move rfl ((hv.fixed 19 (by decide)).trans rfl)) ⟨hv.put san_costs_apart 16 rfl (Nat.le_of_ble_eq_true rfl) (Nat.le_of_ble_eq_true rfl) rfl, HO⟩
    · -- 17 bin
      rintro L a wc ⟨hv, HO⟩ hL hc hd
      exact wpOp_val rfl ((wanted_at rfl rfl (hv.get 15 rfl rfl (hd 15 (by decide)))).trans rfl) (ex_bin rfl (hv.get 16 rfl rfl (hd 16 (by decide))) rfl (by go_simp)) ⟨hv.put san_costs_apart 17 rfl (Nat.le_of_ble_eq_true rfl) (Nat.le_of_ble_eq_true rfl) rfl, HO⟩
    · -- 18 pick
      rintro L a wc ⟨hv, HO⟩ hL hc hd
      exact wpOp_val rfl rfl (ex_pick rfl (hv.get 15 rfl rfl (hd 15 (by decide))) ((if_pos rfl).trans (hv.get 17 rfl rfl (hd 17 (by decide))))) ⟨hv.put san_costs_apart 18 rfl (Nat.le_of_ble_eq_true rfl) (Nat.le_of_ble_eq_true rfl) rfl, HO⟩
    · -- 19 move
      rintro L a wc ⟨hv, HO⟩ hL hc hd
      exact wpOp_val rfl rfl (ex_move rfl (hv.get 18 rfl rfl (hd 18 (by decide)))) ⟨hv.put san_costs_apart 19 rfl (Nat.le_of_ble_eq_true rfl) (Nat.le_of_ble_eq_true rfl) rfl, HO⟩
    · -- 20 load
      rintro L a wc ⟨hv, HO⟩ hL hc hd
      have e0 : wc.cell? ⟨B, 0, none⟩ = some G := HO.out.cell b0
      have e1 : wc.cell? ⟨B, 1, none⟩ = some S := HO.out.cell b1
      have e2 : wc.cell? ⟨B, 2, none⟩ = some (.int .i64 0) := HO.out.cell b2
      exact wpOp_val rfl ((wanted_at rfl rfl (hv.get 19 rfl rfl (hd 19 (by decide)))).trans rfl) (ex_load rfl ((hv.fixed 1 (by decide)).trans rfl) (by go_simp)) ⟨hv.put san_costs_apart 20 rfl (Nat.le_of_ble_eq_true rfl) (Nat.le_of_ble_eq_true rfl) rfl, HO⟩
    · -- 21 move
      rintro L a wc ⟨hv, HO⟩ hL hc hd
      exact wpOp_val rfl ((wanted_at rfl rfl (hv.get 19 rfl rfl (hd 19 (by decide)))).trans rfl) (ex_move rfl ((hv.fixed 3 (by decide)).trans rfl)) ⟨hv.put san_costs_apart 21 rfl (Nat.le_of_ble_eq_true rfl) (Nat.le_of_ble_eq_true rfl) rfl, HO⟩
    · -- 22 raw
      rintro L a wc ⟨hv, HO⟩ hL hc hd
      exact wpOp_val rfl ((wanted_at rfl rfl (hv.get 19 rfl rfl (hd 19 (by decide)))).trans rfl) (ex_slice rfl (by rw [hv.get 21 rfl rfl (hd 21 (by decide))]; exact tree2 gT wc)) ⟨hv.put san_costs_apart 22 rfl (Nat.le_of_ble_eq_true rfl) (Nat.le_of_ble_eq_true rfl) rfl, HO⟩
    · -- 23 call
      rintro L a wc ⟨hv, HO⟩ hL hc hd
      refine wpOp_callw (R := fun v w1 => v = .bool false ∧ Ext wc w1) rfl ((wanted_at rfl rfl (hv.get 19 rfl rfl (hd 19 (by decide)))).trans rfl) (ex_call rfl rfl (map2c (hv.get 20 rfl rfl (hd 20 (by decide))) (hv.get 22 rfl rfl (hd 22 (by decide)))) (ent_valid _ _)) ((HV2.out wc HO.out).mono (fun e w' h => ⟨_, h.1, rfl, h.2⟩)) ?_
      rintro v w' ⟨rfl, hx⟩
      exact ⟨hv.put san_costs_apart 23 rfl (Nat.le_of_ble_eq_true rfl) (Nat.le_of_ble_eq_true rfl) rfl, Lib.hid (HO.out.trans hx)⟩
    · -- 24 un
      rintro L a wc ⟨hv, HO⟩ hL hc hd
      exact wpOp_val rfl ((wanted_at rfl rfl (hv.get 19 rfl rfl (hd 19 (by decide)))).trans rfl) (ex_un rfl (hv.get 23 rfl rfl (hd 23 (by decide))) (by go_simp)) ⟨hv.put san_costs_apart 24 rfl (Nat.le_of_ble_eq_true rfl) (Nat.le_of_ble_eq_true rfl) rfl, HO⟩
    · -- 25 pick
      rintro L a wc ⟨hv, HO⟩ hL hc hd
      exact wpOp_val rfl rfl (ex_pick rfl (hv.get 19 rfl rfl (hd 19 (by decide))) ((if_pos rfl).trans (hv.get 24 rfl rfl (hd 24 (by decide))))) ⟨hv.put san_costs_apart 25 rfl (Nat.le_of_ble_eq_true rfl) (Nat.le_of_ble_eq_true rfl) rfl, HO⟩
    · -- 26 move
      rintro L a wc ⟨hv, HO⟩ hL hc hd
      exact wpOp_val rfl rfl (ex_move rfl (hv.get 25 rfl rfl (hd 25 (by decide)))) ⟨hv.put san_costs_apart 26 rfl (Nat.le_of_ble_eq_true rfl) (Nat.le_of_ble_eq_true rfl) rfl, HO⟩
    · -- 27 load
      rintro L a wc ⟨hv, HO⟩ hL hc hd
      have e0 : wc.cell? ⟨B, 0, none⟩ = some G := HO.out.cell b0
      have e1 : wc.cell? ⟨B, 1, none⟩ = some S := HO.out.cell b1
      have e2 : wc.cell? ⟨B, 2, none⟩ = some (.int .i64 0) := HO.out.cell b2
      exact wpOp_val rfl ((wanted_at rfl rfl (hv.get 26 rfl rfl (hd 26 (by decide)))).trans rfl) (ex_load rfl ((hv.fixed 1 (by decide)).trans rfl) (by go_simp)) ⟨hv.put san_costs_apart 27 rfl (Nat.le_of_ble_eq_true rfl) (Nat.le_of_ble_eq_true rfl) rfl, HO⟩
    · -- 28 move
      rintro L a wc ⟨hv, HO⟩ hL hc hd
      exact wpOp_val rfl ((wanted_at rfl rfl (hv.get 26 rfl rfl (hd 26 (by decide)))).trans rfl) (ex_move rfl ((hv.fixed 3 (by decide)).trans rfl)) ⟨hv.put san_costs_apart 28 rfl (Nat.le_of_ble_eq_true rfl) (Nat.le_of_ble_eq_true rfl) rfl, HO⟩
    · -- 29 call
      rintro L a wc ⟨hv, HO⟩ hL hc hd
      refine wpOp_callw (R := fun v w1 => v = .bool true ∧ Ext wc w1) rfl ((wanted_at rfl rfl (hv.get 26 rfl rfl (hd 26 (by decide)))).trans rfl) (ex_call rfl rfl (map2c (hv.get 27 rfl rfl (hd 27 (by decide))) (hv.get 28 rfl rfl (hd 28 (by decide)))) (ent_valid _ _)) ((HV3.out wc HO.out).mono (fun e w' h => ⟨_, h.1, rfl, h.2⟩)) ?_
      rintro v w' ⟨rfl, hx⟩
      exact ⟨hv.put san_costs_apart 29 rfl (Nat.le_of_ble_eq_true rfl) (Nat.le_of_ble_eq_true rfl) rfl, Lib.hid (HO.out.trans hx)⟩
    · -- 30 pick
      rintro L a wc ⟨hv, HO⟩ hL hc hd
      exact wpOp_val rfl rfl (ex_pick rfl (hv.get 26 rfl rfl (hd 26 (by decide))) ((if_pos rfl).trans (hv.get 29 rfl rfl (hd 29 (by decide))))) ⟨hv.put san_costs_apart 30 rfl (Nat.le_of_ble_eq_true rfl) (Nat.le_of_ble_eq_true rfl) rfl, HO⟩
    · -- 31 assign
      rintro L a wc ⟨hv, HO⟩ hL hc hd
      exact wpOp_val rfl rfl (ex_assign rfl (hv.get 30 rfl rfl (hd 30 (by decide)))) ⟨hv.put san_costs_apart 31 rfl (Nat.le_of_ble_eq_true rfl) (Nat.le_of_ble_eq_true rfl) rfl, HO⟩
  · rintro L a wc ⟨hv, HO⟩ hall
    show K a wc
    have ha := act_lit a
    rw [hv.size, hv.defers] at ha
    have hl : ∀ f : Nat → Value, ((List.range (⟨#[c0, .pointer (some ⟨B, 0, none⟩), c2, .slice (some ⟨gT, 0, none⟩) 3 3, c4, .int .i64 6, c6, .slice A m cl, c8, .int .i64 8, c10, c11, c12, c13, c14, c15, c16, .int .i64 4, c18, .int .i64 0, c20, c21, c22, c23, c24, c25, c26, c27, c28, c29, c30, c31, c32, c33, c34, c35, c36, c37, c38, c39, c40, c41, c42, c43, c44, c45, c46, c47, c48, c49, c50, c51, c52, c53, c54, c55, c56, c57, c58, c59, c60, c61, c62, c63, c64, c65, c66, c67, c68, c69, c70, c71, c72, c73, c74, c75, c76, c77, c78, c79, c80, c81, c82, c83, c84, c85, c86, c87, c88, c89, c90, c91, c92, c93, c94, c95, c96, c97, c98, c99, c100, c101, c102, c103, c104, c105, c106, c107, c108, c109, c110, c111, c112, c113, c114, c115, c116, c117, c118, c119, c120, c121, c122, c123, c124, c125, c126, c127, c128, c129, c130, c131, c132, c133, c134, c135, c136, c137, c138, c139, c140, c141, c142, c143, c144, c145, c146, c147, c148, c149, c150, c151, c152, c153, c154, c155, c156], df⟩ : Act).tmps.size).map f).toArray = #[f 0, f 1, f 2, f 3, f 4, f 5, f 6, f 7, f 8, f 9, f 10, f 11, f 12, f 13, f 14, f 15, f 16, f 17, f 18, f 19, f 20, f 21, f 22, f 23, f 24, f 25, f 26, f 27, f 28, f 29, f 30, f 31, f 32, f 33, f 34, f 35, f 36, f 37, f 38, f 39, f 40, f 41, f 42, f 43, f 44, f 45, f 46, f 47, f 48, f 49, f 50, f 51, f 52, f 53, f 54, f 55, f 56, f 57, f 58, f 59, f 60, f 61, f 62, f 63, f 64, f 65, f 66, f 67, f 68, f 69, f 70, f 71, f 72, f 73, f 74, f 75, f 76, f 77, f 78, f 79, f 80, f 81, f 82, f 83, f 84, f 85, f 86, f 87, f 88, f 89, f 90, f 91, f 92, f 93, f 94, f 95, f 96, f 97, f 98, f 99, f 100, f 101, f 102, f 103, f 104, f 105, f 106, f 107, f 108, f 109, f 110, f 111, f 112, f 113, f 114, f 115, f 116, f 117, f 118, f 119, f 120, f 121, f 122, f 123, f 124, f 125, f 126, f 127, f 128, f 129, f 130, f 131, f 132, f 133, f 134, f 135, f 136, f 137, f 138, f 139, f 140, f 141, f 142, f 143, f 144, f 145, f 146, f 147, f 148, f 149, f 150, f 151, f 152, f 153, f 154, f 155, f 156] := fun _ => rfl
    rw [hl] at ha
    simp only [hv.fixed 0 (by decide), hv.fixed 1 (by decide), hv.fixed 2 (by decide), hv.fixed 3 (by decide), hv.fixed 4 (by decide), hv.fixed 5 (by decide), hv.fixed 6 (by decide), hv.fixed 7 (by decide), hv.fixed 8 (by decide), hv.fixed 9 (by decide), hv.fixed 10 (by decide), hv.fixed 11 (by decide), hv.fixed 12 (by decide), hv.fixed 13 (by decide), hv.fixed 14 (by decide), hv.fixed 15 (by decide), hv.fixed 16 (by decide), hv.fixed 17 (by decide), hv.fixed 18 (by decide), hv.fixed 19 (by decide), hv.fixed 20 (by decide), hv.fixed 21 (by decide), hv.fixed 23 (by decide), hv.fixed 24 (by decide), hv.fixed 25 (by decide), hv.fixed 26 (by decide), hv.fixed 27 (by decide), hv.fixed 28 (by decide), hv.fixed 29 (by decide), hv.fixed 30 (by decide), hv.fixed 31 (by decide), hv.fixed 32 (by decide), hv.fixed 33 (by decide), hv.fixed 34 (by decide), hv.fixed 35 (by decide), hv.fixed 36 (by decide), hv.fixed 37 (by decide), hv.fixed 38 (by decide), hv.fixed 39 (by decide), hv.fixed 40 (by decide), hv.fixed 41 (by decide), hv.fixed 42 (by decide), hv.fixed 43 (by decide), hv.fixed 44 (by decide), hv.fixed 45 (by decide), hv.fixed 46 (by decide), hv.fixed 47 (by decide), hv.fixed 48 (by decide), hv.fixed 49 (by decide), hv.fixed 50 (by decide), hv.fixed 51 (by decide), hv.fixed 52 (by decide), hv.fixed 53 (by decide), hv.fixed 54 (by decide), hv.fixed 55 (by decide), hv.fixed 56 (by decide), hv.fixed 57 (by decide), hv.fixed 58 (by decide), hv.fixed 59 (by decide), hv.fixed 60 (by decide), hv.fixed 61 (by decide), hv.fixed 62 (by decide), hv.fixed 63 (by decide), hv.fixed 64 (by decide), hv.fixed 65 (by decide), hv.fixed 66 (by decide), hv.fixed 67 (by decide), hv.fixed 68 (by decide), hv.fixed 69 (by decide), hv.fixed 70 (by decide), hv.fixed 71 (by decide), hv.fixed 72 (by decide), hv.fixed 73 (by decide), hv.fixed 74 (by decide), hv.fixed 75 (by decide), hv.fixed 76 (by decide), hv.fixed 77 (by decide), hv.fixed 78 (by decide), hv.fixed 79 (by decide), hv.fixed 80 (by decide), hv.fixed 81 (by decide), hv.fixed 82 (by decide), hv.fixed 83 (by decide), hv.fixed 84 (by decide), hv.fixed 85 (by decide), hv.fixed 86 (by decide), hv.fixed 87 (by decide), hv.fixed 88 (by decide), hv.fixed 89 (by decide), hv.fixed 90 (by decide), hv.fixed 91 (by decide), hv.fixed 92 (by decide), hv.fixed 93 (by decide), hv.fixed 94 (by decide), hv.fixed 95 (by decide), hv.fixed 96 (by decide), hv.fixed 97 (by decide), hv.fixed 98 (by decide), hv.fixed 99 (by decide), hv.fixed 100 (by decide), hv.fixed 101 (by decide), hv.fixed 102 (by decide), hv.fixed 103 (by decide), hv.fixed 135 (by decide), hv.fixed 136 (by decide), hv.fixed 137 (by decide), hv.fixed 138 (by decide), hv.fixed 139 (by decide), hv.fixed 140 (by decide), hv.fixed 141 (by decide), hv.fixed 142 (by decide), hv.fixed 143 (by decide), hv.fixed 144 (by decide), hv.fixed 145 (by decide), hv.fixed 146 (by decide), hv.fixed 147 (by decide), hv.fixed 148 (by decide), hv.fixed 149 (by decide), hv.fixed 150 (by decide), hv.fixed 151 (by decide), hv.fixed 152 (by decide), hv.fixed 153 (by decide), hv.fixed 154 (by decide), hv.fixed 155 (by decide), hv.fixed 156 (by decide), hv.get 31 (d := 22) rfl rfl (hall 31 (by decide))] at ha
    rw [ha]
    exact hK _ _ _ _ _ _ _ _ _ _ _ _ _ _ _ _ _ _ _ _ _ _ _ _ _ _ _ _ _ _ _ wc HO.out
end Go.Proofs.YtenafgphaceidaaDoor

/- THE WALKS over example and sanity of law 19. -/
namespace Go.Proofs.YtenafgphaceidaaDoor
open Go.RowKit
theorem results_cell1 {P : Program} {fn : Func} {a : Tmp} {t : TypeId} (h : fn.results = #[.cell a t]) {tmps : Array Value} {ad : Addr} {v : Value} {w : World} (ha : tmps.getD a undef = .pointer (some ad)) (hl : (loadVar t ad).run P w = .ok v w) :
    (results fn tmps).run P w = .ok v w := by
  rw [Array.getD_eq_getD_getElem?] at ha
  simp [results, h, asAddr, ha, hl]
/-- The cells of a block. -/
def Cells (w : World) (B : Nat) (cs : List Value) : Prop := ∀ (i : Nat) v, cs[i]? = some v → w.cell? ⟨B, i, none⟩ = some v
theorem Cells.ext {w w' : World} {B : Nat} {cs : List Value} (h : Cells w B cs) (hx : Ext w w') : Cells w' B cs := fun i v hi => hx.cell (h i v hi)
theorem cells_new (w : World) (cs : Array Value) (t : TypeId) : Cells (w.alloc (.cells cs t)) w.heap.size cs.toList := fun i v hi => cell_of_row _ _ i cs t (0, 0) (heap_new _ _) |>.trans (by simpa using hi)
theorem Cells.ints {w : World} {g : Nat} {l : List Int} (h : Cells w g (l.map (.int .i64))) (hl : l.length ≤ 100) (hb : ∀ x ∈ l, -9223372036854775808 ≤ x ∧ x ≤ 9223372036854775807) (n : Nat) (hn : n = l.length) : Rs RI w (.slice (some ⟨g, 0, none⟩) n n) l := by
  subst hn
  refine ⟨_, _, rfl, by omega, fun i x hi => ⟨⟨g, 0, none⟩, .int .i64 x, rfl, ?_, rfl, hb x (List.mem_of_getElem? hi)⟩⟩
  rw [Addr.add_lit, Nat.zero_add]
  exact h i _ (by rw [List.getElem?_map, hi]; rfl)
theorem Cells.rd {w : World} {g : Nat} {xs : List Value} (h : Cells w g xs) : Rd w (some ⟨g, 0, none⟩) xs := fun k x hx => by
  have hc := h k x hx
  have hlt : g < w.heap.size := lt_of_cell (p := ⟨g, k, none⟩) hc
  refine ⟨⟨g, 0, none⟩, rfl, hlt, ?_⟩
  rw [Addr.add_lit, Nat.zero_add]
  exact hc
theorem Cells.hops {w : World} {g : Nat} {l : List (Int × Int)} (h : Cells w g (hcells l)) (hl : l.length ≤ 100) (hb : ∀ x ∈ l, r64 x.1 ∧ r64 x.2) (n c : Nat) (hn : n = l.length) : RL w (.slice (some ⟨g, 0, none⟩) n c) l := by
  subst hn
  refine ⟨_, _, rfl, by omega, fun i x hi => ?_⟩
  obtain ⟨c1, c2⟩ := hcells_at l i x hi
  have hx := hb x (List.mem_of_getElem? hi)
  refine ⟨⟨g, 0, none⟩, rfl, ?_, ?_, hx.1.1, hx.1.2, hx.2.1, hx.2.2⟩
  · rw [Addr.add_lit, Nat.zero_add]; exact h _ _ c1
  · rw [Addr.add_lit]
    show w.cell? ⟨g, 0 + i * 2 + 1, none⟩ = _
    rw [Nat.zero_add]; exact h _ _ c2
theorem Rs.four {α : Type} {R : World → Value → α → Prop} {w : World} {g c : Nat} {u0 u1 u2 u3 : Value} {x0 x1 x2 x3 : α} (h0 : w.cell? ⟨g, 0, none⟩ = some u0) (r0 : R w u0 x0) (h1 : w.cell? ⟨g, 1, none⟩ = some u1) (r1 : R w u1 x1) (h2 : w.cell? ⟨g, 2, none⟩ = some u2) (r2 : R w u2 x2) (h3 : w.cell? ⟨g, 3, none⟩ = some u3) (r3 : R w u3 x3) : Rs R w (.slice (some ⟨g, 0, none⟩) 4 c) [x0, x1, x2, x3] :=
  ⟨some ⟨g, 0, none⟩, c, rfl, by simp, fun i x hi => by
    match i, hi with
    | 0, hi => simp at hi; subst hi; exact ⟨_, u0, rfl, h0, r0⟩
    | 1, hi => simp at hi; subst hi; exact ⟨_, u1, rfl, h1, r1⟩
    | 2, hi => simp at hi; subst hi; exact ⟨_, u2, rfl, h2, r2⟩
    | 3, hi => simp at hi; subst hi; exact ⟨_, u3, rfl, h3, r3⟩
    | i + 4, hi => simp at hi⟩
set_option maxRecDepth 100000 in
set_option maxHeartbeats 2000000 in
theorem example_any (src : List Int) (S : Value) (w : World) (hS : Rs RI w S src) :
    Calls Tryd.prog 25 #[S] w fun e w' => ∃ g, e = .returned (.agg #[.slice (some ⟨g, 0, none⟩) 4 4, S, .int .i64 0]) ∧ RH w' (.agg #[.slice (some ⟨g, 0, none⟩) 4 4, S, .int .i64 0]) (Su.ex src) ∧ Ext w w' := by
  obtain ⟨A, c, rfl, hl⟩ := hS.form
  have HS := Lib.hid hS
  clear hS
  go_enter Tryd.func25, Tryd.ntmps25
  go_wp2_with fail
  refine bodyPost_ret (results_cell1 (v := .agg #[.slice (some ⟨w.heap.size + 1 + 1 + 1 + 1 + 1, 0, none⟩) 4 4, .slice A src.length c, .int .i64 0]) rfl rfl ?_) rfl ?_
  · go_simp
  refine ⟨w.heap.size + 1 + 1 + 1 + 1 + 1, rfl, ⟨_, _, rfl, ?_, Rs.ext RI.ext _ _ _ _ (by exact ((((((Ext.refl w).alloc _).alloc _).alloc _).alloc _).alloc _).alloc _) HS.out, by simp [Su.ex], by simp [Su.ex]⟩, ((((((Ext.refl w).alloc _).alloc _).alloc _).alloc _).alloc _).alloc _⟩
  refine Rs.four (u0 := .slice (some ⟨w.heap.size + 1, 0, none⟩) 4 4) (u1 := .slice (some ⟨w.heap.size + 1 + 1, 0, none⟩) 4 4) (u2 := .slice (some ⟨w.heap.size + 1 + 1 + 1, 0, none⟩) 4 4) (u3 := .slice (some ⟨w.heap.size + 1 + 1 + 1 + 1, 0, none⟩) 4 4) (by go_simp) ?_ (by go_simp) ?_ (by go_simp) ?_ (by go_simp) ?_
  · exact Rs.four (u0 := .int .i64 (-1)) (u1 := .int .i64 (-1)) (u2 := .int .i64 (-1)) (u3 := .int .i64 (-1)) (by go_simp) ⟨rfl, by decide, by decide⟩ (by go_simp) ⟨rfl, by decide, by decide⟩ (by go_simp) ⟨rfl, by decide, by decide⟩ (by go_simp) ⟨rfl, by decide, by decide⟩
  · exact Rs.four (u0 := .int .i64 4) (u1 := .int .i64 (-1)) (u2 := .int .i64 (-1)) (u3 := .int .i64 1) (by go_simp) ⟨rfl, by decide, by decide⟩ (by go_simp) ⟨rfl, by decide, by decide⟩ (by go_simp) ⟨rfl, by decide, by decide⟩ (by go_simp) ⟨rfl, by decide, by decide⟩
  · exact Rs.four (u0 := .int .i64 4) (u1 := .int .i64 (-1)) (u2 := .int .i64 (-1)) (u3 := .int .i64 1) (by go_simp) ⟨rfl, by decide, by decide⟩ (by go_simp) ⟨rfl, by decide, by decide⟩ (by go_simp) ⟨rfl, by decide, by decide⟩ (by go_simp) ⟨rfl, by decide, by decide⟩
  · exact Rs.four (u0 := .int .i64 4) (u1 := .int .i64 (-1)) (u2 := .int .i64 (-1)) (u3 := .int .i64 (-1)) (by go_simp) ⟨rfl, by decide, by decide⟩ (by go_simp) ⟨rfl, by decide, by decide⟩ (by go_simp) ⟨rfl, by decide, by decide⟩ (by go_simp) ⟨rfl, by decide, by decide⟩
/-- The example's things. -/
structure SW (w : World) (B gH gS gO gT gX : Nat) : Prop where
  tab : Tab w
  box : Cells w B [.slice (some ⟨gH, 0, none⟩) 4 4, .slice (some ⟨gS, 0, none⟩) 3 3, .int .i64 0]
  rh : RH w (.agg #[.slice (some ⟨gH, 0, none⟩) 4 4, .slice (some ⟨gS, 0, none⟩) 3 3, .int .i64 0]) (Su.ex [1, 2, 1])
  ones : Rd w (some ⟨gO, 0, none⟩) (Su.exO.map fun p => .string (sb p))
  tree : Cells w gT (hcells Su.exT)
  star : Cells w gX (hcells Su.exS)
theorem SW.ext {w w' : World} {B gH gS gO gT gX : Nat} (h : SW w B gH gS gO gT gX) (hx : Ext w w') : SW w' B gH gS gO gT gX :=
  ⟨h.tab.ext hx, h.box.ext hx, RH.ext _ _ _ _ hx h.rh, h.ones.ext hx, h.tree.ext hx, h.star.ext hx⟩
theorem rl_tree {w : World} {gT : Nat} (h : Cells w gT (hcells Su.exT)) : RL w (.slice (some ⟨gT, 0, none⟩) 3 3) Su.exT := h.hops (by decide) (by unfold Su.exT r64; decide) _ _ rfl
theorem rl_star {w : World} {gT : Nat} (h : Cells w gT (hcells Su.exS)) : RL w (.slice (some ⟨gT, 0, none⟩) 2 2) Su.exS := h.hops (by decide) (by unfold Su.exS r64; decide) _ _ rfl
theorem rl_tree2 {w : World} {gT : Nat} (h : Cells w gT (hcells Su.exT)) : RL w (.slice (some ⟨gT, 0, none⟩) 2 3) (Su.exT.take 2) :=
  Cells.hops (l := Su.exT.take 2) (fun i v hi => h i v (by
    match i, hi with
    | 0, hi => exact hi
    | 1, hi => exact hi
    | 2, hi => exact hi
    | 3, hi => exact hi
    | i + 4, hi => simp [Su.exT, hcells] at hi)) (by decide) (by unfold Su.exT r64; decide) _ _ rfl
theorem rd_coef (w : World) : Rd (w.alloc (.cells #[.int .u8 1, .int .u8 2, .int .u8 3] 5)) (some ⟨w.heap.size, 0, none⟩) (([1, 2, 3] : List UInt8).map bv) := (cells_new w _ _).rd
theorem one_string : Value.string (sb [0]) = .string { data := #[0] } := rfl
theorem two_texts (w : World) : Rs RS (w.alloc (.cells #[.string { data := #[2] }, .string { data := #[2] }] 9)) (.slice (some ⟨w.heap.size, 0, none⟩) 2 2) [[2], [2]] := Rs.of_rdS (l := [[2], [2]]) (cells_new w _ _).rd rfl (by decide)
theorem three_texts (w : World) : Rs RS (w.alloc (.cells #[.string { data := #[2] }, .string { data := #[2] }, .string { data := #[0] }] 9)) (.slice (some ⟨w.heap.size, 0, none⟩) 3 3) [[2], [2], [0]] := Rs.of_rdS (l := [[2], [2], [0]]) (cells_new w _ _).rd rfl (by decide)
theorem exp_len : ∀ p ∈ Su.exO, p.length ≤ 140737488351232 := by decide
set_option maxRecDepth 100000 in
set_option maxHeartbeats 16000000 in
theorem sanity_any (w : World) (hT : Tab w) :
    Calls Tryd.prog 9 #[] w fun e w' => e = .returned (.bool true) ∧ Ext w w' := by
  have HT := Lib.hid hT
  clear hT
  have HR0 : Hid (Rs RI (w.alloc (.cells #[.int .i64 1, .int .i64 2, .int .i64 1] 3)) (.slice (some ⟨w.heap.size, 0, none⟩) 3 3) [1, 2, 1]) := Lib.hid (Cells.ints (cells_new w _ _) (by decide) (by decide) _ rfl)
  go_enter Tryd.func9, Tryd.ntmps9
  go_wp2_with fail
  refine (example_any [1, 2, 1] _ _ HR0.out).mono ?_
  rintro ee w1 ⟨gH, rfl, hrh, hx1⟩
  have HRH := Lib.hid hrh
  have HX1 := Lib.hid (((Ext.refl w).alloc _).trans hx1)
  clear hrh hx1
  obtain ⟨gS, hgS⟩ : ∃ g, w.heap.size = g := ⟨_, rfl⟩
  rw [hgS] at HRH ⊢
  clear hgS HR0
  go_wp2_with fail
  obtain ⟨B, hB⟩ : ∃ B, w1.heap.size = B := ⟨_, rfl⟩
  have hxw := ((((Ext.refl w1).alloc (.cells #[.slice (some ⟨gH, 0, none⟩) 4 4, .slice (some ⟨gS, 0, none⟩) 3 3, .int .i64 0] 25)).alloc (.cells #[.string { data := #[1] }, .string { data := #[1] }, .string { data := #[1] }] 9)).alloc (.cells #[.int .i64 1, .int .i64 3, .int .i64 2, .int .i64 3, .int .i64 3, .int .i64 0] 65)).alloc (.cells #[.int .i64 1, .int .i64 0, .int .i64 2, .int .i64 0] 65)
  have hsw : SW ((((w1.alloc (.cells #[.slice (some ⟨gH, 0, none⟩) 4 4, .slice (some ⟨gS, 0, none⟩) 3 3, .int .i64 0] 25)).alloc (.cells #[.string { data := #[1] }, .string { data := #[1] }, .string { data := #[1] }] 9)).alloc (.cells #[.int .i64 1, .int .i64 3, .int .i64 2, .int .i64 3, .int .i64 3, .int .i64 0] 65)).alloc (.cells #[.int .i64 1, .int .i64 0, .int .i64 2, .int .i64 0] 65)) B gH gS (B + 1) (B + 1 + 1) (B + 1 + 1 + 1) := by
    subst hB
    exact ⟨HT.out.ext (HX1.out.trans hxw), ((cells_new w1 _ _).ext ((((Ext.refl _).alloc _).alloc _).alloc _)), RH.ext _ _ _ _ hxw HRH.out, by
      have h := ((cells_new (w1.alloc (.cells #[.slice (some ⟨gH, 0, none⟩) 4 4, .slice (some ⟨gS, 0, none⟩) 3 3, .int .i64 0] 25)) #[.string { data := #[1] }, .string { data := #[1] }, .string { data := #[1] }] 9).ext ((((Ext.refl _).alloc (.cells #[.int .i64 1, .int .i64 3, .int .i64 2, .int .i64 3, .int .i64 3, .int .i64 0] 65)).alloc (.cells #[.int .i64 1, .int .i64 0, .int .i64 2, .int .i64 0] 65)))).rd
      rw [show (w1.alloc (.cells #[.slice (some ⟨gH, 0, none⟩) 4 4, .slice (some ⟨gS, 0, none⟩) 3 3, .int .i64 0] 25)).heap.size = w1.heap.size + 1 by simp] at h
      exact h, by
      have h := (cells_new ((w1.alloc (.cells #[.slice (some ⟨gH, 0, none⟩) 4 4, .slice (some ⟨gS, 0, none⟩) 3 3, .int .i64 0] 25)).alloc (.cells #[.string { data := #[1] }, .string { data := #[1] }, .string { data := #[1] }] 9)) #[.int .i64 1, .int .i64 3, .int .i64 2, .int .i64 3, .int .i64 3, .int .i64 0] 65).ext (((Ext.refl _).alloc (.cells #[.int .i64 1, .int .i64 0, .int .i64 2, .int .i64 0] 65)))
      rw [show ((w1.alloc (.cells #[.slice (some ⟨gH, 0, none⟩) 4 4, .slice (some ⟨gS, 0, none⟩) 3 3, .int .i64 0] 25)).alloc (.cells #[.string { data := #[1] }, .string { data := #[1] }, .string { data := #[1] }] 9)).heap.size = w1.heap.size + 1 + 1 by simp] at h
      exact h, by
      have h := (cells_new (((w1.alloc (.cells #[.slice (some ⟨gH, 0, none⟩) 4 4, .slice (some ⟨gS, 0, none⟩) 3 3, .int .i64 0] 25)).alloc (.cells #[.string { data := #[1] }, .string { data := #[1] }, .string { data := #[1] }] 9)).alloc (.cells #[.int .i64 1, .int .i64 3, .int .i64 2, .int .i64 3, .int .i64 3, .int .i64 0] 65)) #[.int .i64 1, .int .i64 0, .int .i64 2, .int .i64 0] 65)
      rw [show (((w1.alloc (.cells #[.slice (some ⟨gH, 0, none⟩) 4 4, .slice (some ⟨gS, 0, none⟩) 3 3, .int .i64 0] 25)).alloc (.cells #[.string { data := #[1] }, .string { data := #[1] }, .string { data := #[1] }] 9)).alloc (.cells #[.int .i64 1, .int .i64 3, .int .i64 2, .int .i64 3, .int .i64 3, .int .i64 0] 65)).heap.size = w1.heap.size + 1 + 1 + 1 by simp] at h
      exact h⟩
  have HS2 := Lib.hid hsw
  have HX2 := Lib.hid (HX1.out.trans hxw)
  rw [hB]
  clear hxw hsw hB
  refine (uLeast_any (Su.ex [1, 2, 1]) _ _ HS2.out.rh).mono ?_
  rintro ee w3 ⟨rfl, hx3⟩
  rw [Su.ex_least]
  have HS3 := Lib.hid (HS2.out.ext hx3)
  have HX3 := Lib.hid (HX2.out.trans hx3)
  clear hx3
  have b0 : w3.cell? ⟨B, 0, none⟩ = some (.slice (some ⟨gH, 0, none⟩) 4 4) := HS3.out.box 0 _ rfl
  have b1 : w3.cell? ⟨B, 1, none⟩ = some (.slice (some ⟨gS, 0, none⟩) 3 3) := HS3.out.box 1 _ rfl
  have b2 : w3.cell? ⟨B, 2, none⟩ = some (.int .i64 0) := HS3.out.box 2 _ rfl
  go_wp2_with fail
  clear b0 b1 b2
  refine (uTree_any 100 (Su.ex [1, 2, 1]) _ _ HS3.out.rh (fun _ _ => Su.ex_walk)).mono ?_
  rintro ee w4 ⟨A, m, cl, rfl, hrl, hx4⟩
  rw [Su.ex_tree] at hrl ⊢
  have HRL := Lib.hid hrl
  have HS4 := Lib.hid (HS3.out.ext hx4)
  have HX4 := Lib.hid (HX3.out.trans hx4)
  clear hx4 hrl
  have b0 : w4.cell? ⟨B, 0, none⟩ = some (.slice (some ⟨gH, 0, none⟩) 4 4) := HS4.out.box 0 _ rfl
  have b1 : w4.cell? ⟨B, 1, none⟩ = some (.slice (some ⟨gS, 0, none⟩) 3 3) := HS4.out.box 1 _ rfl
  have b2 : w4.cell? ⟨B, 2, none⟩ = some (.int .i64 0) := HS4.out.box 2 _ rfl
  go_wp2_with fail
  clear b0 b1 b2
  refine (uCost_any (Su.ex [1, 2, 1]) Su.exS _ _ _ HS4.out.rh (rl_star HS4.out.star) (fun v w hv hl => uValid_any _ _ v _ w hv hl)).mono ?_
  rintro ee w5 ⟨rfl, hx5⟩
  rw [Su.ex_cost]
  have HS5 := Lib.hid (HS4.out.ext hx5)
  have HX5 := Lib.hid (HX4.out.trans hx5)
  have HRL5 := Lib.hid (RL.ext _ _ _ _ hx5 HRL.out)
  clear hx5
  have b0 : w5.cell? ⟨B, 0, none⟩ = some (.slice (some ⟨gH, 0, none⟩) 4 4) := HS5.out.box 0 _ rfl
  have b1 : w5.cell? ⟨B, 1, none⟩ = some (.slice (some ⟨gS, 0, none⟩) 3 3) := HS5.out.box 1 _ rfl
  have b2 : w5.cell? ⟨B, 2, none⟩ = some (.int .i64 0) := HS5.out.box 2 _ rfl
  have HRC := Lib.hid (rd_coef w5)
  go_wp2_with fail
  clear b0 b1 b2
  have HS5b := Lib.hid (HS5.out.ext ((Ext.refl w5).alloc (.cells #[.int .u8 1, .int .u8 2, .int .u8 3] 5)))
  refine (uCarry_any 5 (Su.ex [1, 2, 1]) Su.exS [1, 2, 3] Su.exO _ _ _ _ 3 3 _ HS5b.out.tab HS5b.out.rh (rl_star HS5b.out.star) HRC.out HS5b.out.ones (by decide) exp_len (fun hv _ _ => Su.carry_term (by decide) _ _ _ hv)).mono ?_
  rintro ee w6 ⟨XA, xn, xc, rfl, hxs, hx6⟩
  rw [Su.ex_carryS] at hxs ⊢
  have HXS := Lib.hid hxs
  have hx56 := ((Ext.refl w5).alloc (.cells #[.int .u8 1, .int .u8 2, .int .u8 3] 5)).trans hx6
  have HS6 := Lib.hid (HS5.out.ext hx56)
  have HX6 := Lib.hid (HX5.out.trans hx56)
  have HRL6 := Lib.hid (RL.ext _ _ _ _ hx56 HRL5.out)
  clear hx6 hx56 hxs HRC HS5b
  have b0 : w6.cell? ⟨B, 0, none⟩ = some (.slice (some ⟨gH, 0, none⟩) 4 4) := HS6.out.box 0 _ rfl
  have b1 : w6.cell? ⟨B, 1, none⟩ = some (.slice (some ⟨gS, 0, none⟩) 3 3) := HS6.out.box 1 _ rfl
  have b2 : w6.cell? ⟨B, 2, none⟩ = some (.int .i64 0) := HS6.out.box 2 _ rfl
  have HRC := Lib.hid (rd_coef w6)
  go_wp2_with fail
  clear b0 b1 b2
  have HS6b := Lib.hid (HS6.out.ext ((Ext.refl w6).alloc (.cells #[.int .u8 1, .int .u8 2, .int .u8 3] 5)))
  refine (uCarry_any 5 (Su.ex [1, 2, 1]) Su.exT [1, 2, 3] Su.exO _ _ _ _ 3 3 _ HS6b.out.tab HS6b.out.rh (rl_tree HS6b.out.tree) HRC.out HS6b.out.ones (by decide) exp_len (fun hv _ _ => Su.carry_term (by decide) _ _ _ hv)).mono ?_
  rintro ee w7 ⟨YA, yn, yc, rfl, hys, hx7⟩
  rw [Su.ex_carryT] at hys ⊢
  have HYS := Lib.hid hys
  have hx67 := ((Ext.refl w6).alloc (.cells #[.int .u8 1, .int .u8 2, .int .u8 3] 5)).trans hx7
  have HS7 := Lib.hid (HS6.out.ext hx67)
  have HX7 := Lib.hid (HX6.out.trans hx67)
  have HRL7 := Lib.hid (RL.ext _ _ _ _ hx67 HRL6.out)
  have HXS7 := Lib.hid (Rs.ext RS.ext _ _ _ _ hx67 HXS.out)
  clear hx7 hx67 hys HRC HS6b
  have HR3 : Hid (Rs RI (w7.alloc (.cells #[.int .i64 3] 3)) (.slice (some ⟨w7.heap.size, 0, none⟩) 1 1) [3]) := Lib.hid (Cells.ints (cells_new w7 _ _) (by decide) (by decide) _ rfl)
  go_wp2_with fail
  refine (example_any [3] _ _ HR3.out).mono ?_
  rintro ee w8 ⟨g3, rfl, hrh3, hx8⟩
  have HRH3 := Lib.hid hrh3
  have HX78 := Lib.hid (((Ext.refl w7).alloc (.cells #[.int .i64 3] 3)).trans hx8)
  clear hrh3 hx8 HR3
  go_wp2_with fail
  refine (uLeast_any (Su.ex [3]) _ _ HRH3.out).mono ?_
  rintro ee w9 ⟨rfl, hx9⟩
  rw [Su.ex_least3]
  have HX79 := Lib.hid (HX78.out.trans hx9)
  clear hx9
  go_wp2_with fail
  refine (example_any [] _ _ ⟨none, 0, rfl, by simp, fun i x hi => by simp at hi⟩).mono ?_
  rintro ee w10 ⟨g0, rfl, hrh0, hx10⟩
  have HRH0 := Lib.hid hrh0
  have HX710 := Lib.hid (HX79.out.trans hx10)
  clear hrh0 hx10
  go_wp2_with fail
  refine (uLeast_any (Su.ex []) _ _ HRH0.out).mono ?_
  rintro ee w11 ⟨rfl, hx11⟩
  rw [Su.ex_least0]
  have hx711 := HX710.out.trans hx11
  have HS11 := Lib.hid (HS7.out.ext hx711)
  have HX11 := Lib.hid (HX7.out.trans hx711)
  have HRL11 := Lib.hid (RL.ext _ _ _ _ hx711 HRL7.out)
  have HXS11 := Lib.hid (Rs.ext RS.ext _ _ _ _ hx711 HXS7.out)
  have HYS11 := Lib.hid (Rs.ext RS.ext _ _ _ _ hx711 HYS.out)
  clear hx11 hx711 HX78 HX79 HX710 HRH3 HRH0
  have b0 : w11.cell? ⟨B, 0, none⟩ = some (.slice (some ⟨gH, 0, none⟩) 4 4) := HS11.out.box 0 _ rfl
  have b1 : w11.cell? ⟨B, 1, none⟩ = some (.slice (some ⟨gS, 0, none⟩) 3 3) := HS11.out.box 1 _ rfl
  have b2 : w11.cell? ⟨B, 2, none⟩ = some (.int .i64 0) := HS11.out.box 2 _ rfl
  go_wp2_with fail
  refine wp_atEnd' (san_costs w11 B (B + 1 + 1) m cl A _ _ b0 b1 b2 (Lib.hid fun w1 hx => ((lSame_any Su.exT Su.exT _ _ w1 (RL.ext _ _ _ _ hx HRL11.out) (rl_tree (HS11.out.tree.ext hx))).mono fun e w' h => ⟨by rw [h.1]; rfl, h.2⟩)) (Lib.hid fun w1 hx => ((uValid_any (Su.ex [1, 2, 1]) (Su.exT.take 2) _ _ w1 (RH.ext _ _ _ _ hx HS11.out.rh) (rl_tree2 (HS11.out.tree.ext hx))).mono fun e w' h => ⟨by rw [h.1, Su.ex_valid2], h.2⟩)) (Lib.hid fun w1 hx => ((uValid_any (Su.ex [1, 2, 1]) Su.exT _ _ w1 (RH.ext _ _ _ _ hx HS11.out.rh) (rl_tree (HS11.out.tree.ext hx))).mono fun e w' h => ⟨by rw [h.1, Su.ex_valid], h.2⟩)) _ _ _ _ _ _ _ _ _ _ _ _ _ _ _ _ _ _ _ _ _ _ _ _ _ _ _ _ _ _ _ _ _ _ _ _ _ _ _ _ _ _ _ _ _ _ _ _ _ _ _ _ _ _ _ _ _ _ _ _ _ _ _ _ _ _ _ _ _ _ _ _ _ _ _ _ _ _ _ _ _ _ _ _ _ _ _ _ _ _ _ _ _ _ _ _ _ _ _ _ _ _ _ _ _ _ _ _ _ _ _ _ _ _ _ _ _ _ _ _ _ _ _ _ _ _ _ _ _ _ _ _ _ _ _ _ _ _ _ _ _ _ _ _ _ _ _ _ _ _ _ _ ?_)
  intro u104 u105 u106 u107 u108 u109 u110 u111 u112 u113 u114 u115 u116 u117 u118 u119 u120 u121 u122 u123 u124 u125 u126 u127 u128 u129 u130 u131 u132 u133 u134 w12 hx12
  have HX12 := Lib.hid (HX11.out.trans hx12)
  have HXS12 := Lib.hid (Rs.ext RS.ext _ _ _ _ hx12 HXS11.out)
  have HYS12 := Lib.hid (Rs.ext RS.ext _ _ _ _ hx12 HYS11.out)
  clear hx12 b0 b1 b2
  rw [one_string]
  go_wp2_with fail
  refine (rSameTexts_any [[2], [2]] [[2], [2]] _ _ _ (Rs.ext RS.ext _ _ _ _ ((Ext.refl w12).alloc _) HXS12.out) (two_texts w12)).mono ?_
  rintro ee w13 ⟨rfl, hx13⟩
  have hx123 := ((Ext.refl w12).alloc (.cells #[.string { data := #[2] }, .string { data := #[2] }] 9)).trans hx13
  have HYS13 := Lib.hid (Rs.ext RS.ext _ _ _ _ hx123 HYS12.out)
  have HX13 := Lib.hid (HX12.out.trans hx123)
  clear hx13 hx123
  rw [show decide (([[2], [2]] : List (List UInt8)) = [[2], [2]]) = true from rfl]
  go_wp2_with fail
  refine (rSameTexts_any [[2], [2], [0]] [[2], [2], [0]] _ _ _ (Rs.ext RS.ext _ _ _ _ ((Ext.refl _).alloc _) HYS13.out) (three_texts _)).mono ?_
  rintro ee w14 ⟨rfl, hx14⟩
  have HX14 := Lib.hid ((HX13.out.alloc _).trans hx14)
  clear hx14
  rw [show decide (([[2], [2], [0]] : List (List UInt8)) = [[2], [2], [0]]) = true from rfl]
  go_wp2_with fail
  go_ret
  exact ⟨rfl, HX14.out⟩
end Go.Proofs.YtenafgphaceidaaDoor

/- THE TABLE OF THE CHEAPEST WAYS: rows, and what one step does to a row. -/
namespace Su
def upd (r : Nat → Way) (v : Nat) (x : Way) : Nat → Way := fun w => if w = v then x else r w
theorem upd_same (r : Nat → Way) (v : Nat) (x : Way) : upd r v x v = x := if_pos rfl
theorem upd_ne {r : Nat → Way} {v w : Nat} {x : Way} (h : w ≠ v) : upd r v x w = r w := if_neg h
def row (W : List Way) (s : Nat) : Nat → Way := fun v => if v < 12 then get W (s * 12 + v) else ⟨-1, 0, -1⟩
theorem row_at {W : List Way} {s v : Nat} (hv : v < 12) : row W s v = get W (s * 12 + v) := if_pos hv
theorem row_set {W : List Way} {s v : Nat} {x : Way} (hv : v < 12) (hl : s * 12 + v < W.length) : row (W.set (s * 12 + v) x) s = upd (row W s) v x := by
  funext w
  unfold row upd
  dsimp only
  by_cases hw : w < 12
  · rw [if_pos hw, if_pos hw, get_set hl]
    by_cases h : w = v
    · rw [if_pos h, if_pos (by omega)]
    · rw [if_neg h, if_neg (by omega)]
  · rw [if_neg hw, if_neg (by omega), if_neg hw]
theorem row_other {W : List Way} {s s' v : Nat} {x : Way} (hv : v < 12) (hs : s' ≠ s) : row (W.set (s * 12 + v) x) s' = row W s' := by
  funext w
  unfold row
  by_cases hw : w < 12
  · rw [if_pos hw, if_pos hw]
    unfold get
    rw [List.getD_eq_getElem?_getD, List.getD_eq_getElem?_getD, List.getElem?_set_ne (by omega)]
  · rw [if_neg hw, if_neg hw]
/-- No cost is lost, and none grows. -/
def Imp (r r' : Nat → Way) : Prop := ∀ v, 0 ≤ (r v).cost → 0 ≤ (r' v).cost ∧ (r' v).cost ≤ (r v).cost
theorem Imp.refl (r : Nat → Way) : Imp r r := fun _ h => ⟨h, Int.le_refl _⟩
theorem Imp.trans {a b c : Nat → Way} (h : Imp a b) (k : Imp b c) : Imp a c := fun v hv => by
  have h1 := h v hv
  have h2 := k v h1.1
  omega
def Bd (M : Int) (r : Nat → Way) : Prop := ∀ v, (r v).cost ≤ M
/-- A table whose row s is r; its other rows are those of W0. -/
structure Sim (W0 : List Way) (s : Nat) (M : Int) (W : List Way) (r : Nat → Way) : Prop where
  row : row W s = r
  bd : Bd M r
  oth : ∀ s', s' ≠ s → Su.row W s' = Su.row W0 s'
  len : W.length = W0.length
theorem sim_set {W0 W : List Way} {s v : Nat} {M M' : Int} {r : Nat → Way} {x : Way} (h : Sim W0 s M W r) (hv : v < 12) (hl : s * 12 + 12 ≤ W0.length) (hx : x.cost ≤ M') (hM : M ≤ M') : Sim W0 s M' (W.set (s * 12 + v) x) (upd r v x) where
  row := by rw [row_set hv (by rw [h.len]; omega), h.row]
  bd w := by
    unfold upd
    split
    · exact hx
    · exact Int.le_trans (h.bd w) hM
  oth s' hs := by rw [row_other hv hs]; exact h.oth s' hs
  len := by rw [List.length_set, h.len]
theorem Sim.wider {W0 W : List Way} {s : Nat} {M M' : Int} {r : Nat → Way} (h : Sim W0 s M W r) (hM : M ≤ M') : Sim W0 s M' W r := ⟨h.row, fun v => Int.le_trans (h.bd v) hM, h.oth, h.len⟩
theorem sim_rep {W0 : List Way} {s n : Nat} {c LIM : Int} {f : Nat → List Way → List Way} {g : Nat → (Nat → Way) → (Nat → Way)} (hc : 0 ≤ c)
    (hstep : ∀ k, k < n → ∀ M W r, 0 ≤ M → M ≤ LIM → Sim W0 s M W r → Sim W0 s (M + c) (f k W) (g k r)) : ∀ k, k ≤ n → ∀ M W r, 0 ≤ M → M + k * c ≤ LIM → Sim W0 s M W r → Sim W0 s (M + k * c) (rep f k W) (rep g k r)
  | 0, _, M, W, r, _, _, h => by simpa [rep] using h
  | k + 1, hk, M, W, r, h0, hM, h => by
    have hkc : 0 ≤ (k : Int) * c := Int.mul_nonneg (by omega) hc
    have e : M + ((k + 1 : Nat) : Int) * c = M + k * c + c := by rw [Int.natCast_add, Int.add_mul]; omega
    rw [e] at hM ⊢
    have ih := sim_rep hc hstep k (by omega) M W r h0 (by omega) h
    exact hstep k (by omega) _ _ _ (by omega) (by omega) ih
theorem sum64_eq {a b : Int} (ha : 0 ≤ a) (hb : 0 ≤ b) (h1 : a ≤ 100000000000000) (h2 : b ≤ 100000000000000) : sum64 a b = a + b := by
  unfold sum64 Go.RowKit.wrap64
  omega
/-! One hop. -/
def rmove (h : Ha) (u v : Nat) (r : Nat → Way) : Nat → Way :=
  if u ≠ v ∧ 0 ≤ price h u v ∧ 0 ≤ (r u).cost ∧ better ((r u).cost + price h u v) (r v).cost then upd r v ⟨(r u).cost + price h u v, 0, u⟩ else r
theorem price_le {h : Ha} (k : Ok h) {n : Nat} (hn : h.pr.length = n) {u v : Nat} (hu : u < n) (hv : v < n) : price h u v ≤ 1000000 := by
  have := price_bound k (a := u) (b := v) (by omega) (by omega)
  omega
theorem sim_move {h : Ha} (k : Ok h) {n : Nat} (hn : h.pr.length = n) {W0 : List Way} {s : Nat} (hl : s * 12 + 12 ≤ W0.length) {u v : Nat} (hu : u < n) (hv : v < n) (M : Int) (W : List Way) (r : Nat → Way) (hM : M ≤ 50000000000000) (hs : Sim W0 s M W r) :
    Sim W0 s (M + 1000000) (moveStep h s u v W) (rmove h u v r) := by
  have hn12 := k.few
  have hu12 : u < 12 := by omega
  have hv12 : v < 12 := by omega
  have hp := price_le k hn hu hv
  have e1 : get W (s * 12 + u) = r u := by rw [← hs.row, row_at hu12]
  have e2 : get W (s * 12 + v) = r v := by rw [← hs.row, row_at hv12]
  have hb := hs.bd u
  unfold moveStep rmove
  rw [e1, e2]
  by_cases h1 : u ≠ v ∧ 0 ≤ price h u v ∧ 0 ≤ (r u).cost
  · have e : sum64 (r u).cost (price h u v) = (r u).cost + price h u v := sum64_eq h1.2.2 h1.2.1 (by omega) (by omega)
    rw [e]
    split
    · exact sim_set hs hv12 hl (by simp only; omega) (by omega)
    · exact hs.wider (by omega)
  · rw [if_neg (by intro e; exact h1 ⟨e.1, e.2.1, e.2.2.1⟩), if_neg (by intro e; exact h1 ⟨e.1, e.2.1, e.2.2.1⟩)]
    exact hs.wider (by omega)
def rrelax (h : Ha) (n : Nat) (r : Nat → Way) : Nat → Way := rep (fun _ r => rep (fun u r => rep (fun v r => rmove h u v r) n r) n r) n r
theorem sim_relax {h : Ha} (k : Ok h) {n : Nat} (hn : h.pr.length = n) {W0 : List Way} {s : Nat} (hl : s * 12 + 12 ≤ W0.length) (M : Int) (W : List Way) (r : Nat → Way) (h0 : 0 ≤ M) (hM : M ≤ 40000000000000) (hs : Sim W0 s M W r) :
    Sim W0 s (M + 2000000000) (relax h s n W) (rrelax h n r) := by
  have hn12 := k.few
  have hnn : (n : Int) ≤ 12 := by omega
  have h1 : ∀ u, u < n → ∀ M W r, 0 ≤ M → M ≤ 49900000000000 → Sim W0 s M W r → Sim W0 s (M + n * 1000000) (rep (fun v W => moveStep h s u v W) n W) (rep (fun v r => rmove h u v r) n r) := fun u hu M W r h0 hM hs =>
    sim_rep (f := fun v W => moveStep h s u v W) (g := fun v r => rmove h u v r) (LIM := 50000000000000) (by decide) (fun v hv M W r _ hM hs => sim_move k hn hl hu hv M W r hM hs) n (Nat.le_refl _) M W r h0 (by omega) hs
  have hsq : (n : Int) * (n * 1000000) ≤ 144000000 := by
    have : (n : Int) * n ≤ 12 * 12 := Int.mul_le_mul hnn hnn (by omega) (by decide)
    rw [← Int.mul_assoc]
    omega
  have hsq0 : 0 ≤ (n : Int) * (n * 1000000) := Int.mul_nonneg (by omega) (by omega)
  have h2 : ∀ j, j < n → ∀ M W r, 0 ≤ M → M ≤ 49000000000000 → Sim W0 s M W r → Sim W0 s (M + n * (n * 1000000)) (rep (fun u W => rep (fun v W => moveStep h s u v W) n W) n W) (rep (fun u r => rep (fun v r => rmove h u v r) n r) n r) := fun _ _ M W r h0 hM hs =>
    sim_rep (f := fun u W => rep (fun v W => moveStep h s u v W) n W) (g := fun u r => rep (fun v r => rmove h u v r) n r) (LIM := 49900000000000) (by omega) h1 n (Nat.le_refl _) M W r h0 (by omega) hs
  have hcu : (n : Int) * (n * (n * 1000000)) ≤ 12 * 144000000 := Int.mul_le_mul hnn hsq hsq0 (by decide)
  have h3 := sim_rep (f := fun _ W => rep (fun u W => rep (fun v W => moveStep h s u v W) n W) n W) (g := fun _ r => rep (fun u r => rep (fun v r => rmove h u v r) n r) n r) (LIM := 49000000000000) hsq0 h2 n (Nat.le_refl _) M W r h0 (by omega) hs
  exact h3.wider (by omega)
/-! What a row is, while hops are tried. -/
def GoodD (r : Nat → Way) : Nat → Nat → Prop
  | 0, v => (r v).frm < 0 ∧ 0 ≤ (r v).cost
  | d + 1, v => ∃ u : Nat, (r v).frm = u ∧ GoodD r d u
structure RInv (h : Ha) (n : Nat) (r0 r : Nat → Way) : Prop where
  base : ∀ v, (r v).frm < 0 → r v = r0 v
  step : ∀ v, 0 ≤ (r v).frm → ∃ u : Nat, u < n ∧ v < n ∧ (r v).frm = u ∧ u ≠ v ∧ 0 ≤ price h u v ∧ 0 ≤ (r u).cost ∧ (r u).cost + price h u v ≤ (r v).cost ∧ (r v).half = 0
  good : ∀ v, 0 ≤ (r v).cost → ∃ d, GoodD r d v
theorem RInv.start {h : Ha} {n : Nat} {r0 : Nat → Way} (h0 : ∀ v, (r0 v).frm < 0) : RInv h n r0 r0 :=
  ⟨fun _ _ => rfl, fun v hv => by have := h0 v; omega, fun v hv => ⟨0, h0 v, hv⟩⟩
theorem good_avoid {h : Ha} {n : Nat} {r0 r : Nat → Way} (hi : RInv h n r0 r) {v : Nat} (x : Way) : ∀ d u, GoodD r d u → ((r v).cost < 0 ∨ (r u).cost < (r v).cost) → GoodD (upd r v x) d u
  | 0, u, hg, hc => by
    obtain ⟨h1, h2⟩ := hg
    have huv : u ≠ v := by rintro rfl; omega
    show (upd r v x u).frm < 0 ∧ 0 ≤ (upd r v x u).cost
    rw [upd_ne huv]
    exact ⟨h1, h2⟩
  | d + 1, u, hg, hc => by
    obtain ⟨w, h1, h2⟩ := hg
    obtain ⟨w', _, _, e, _, hp, hw0, hle, _⟩ := hi.step u (by omega)
    obtain rfl : w' = w := by omega
    have huv : u ≠ v := by rintro rfl; omega
    refine ⟨w', by rw [upd_ne huv]; exact h1, good_avoid hi x d w' h2 ?_⟩
    rcases hc with hc | hc
    · exact .inl hc
    · exact .inr (by omega)
theorem RInv.move {h : Ha} {n : Nat} {r0 r : Nat → Way} (hi : RInv h n r0 r) {u v : Nat} (hu : u < n) (hv : v < n) : RInv h n r0 (rmove h u v r) ∧ Imp r (rmove h u v r) ∧ (u ≠ v → 0 ≤ price h u v → 0 ≤ (r u).cost → 0 ≤ (rmove h u v r v).cost ∧ (rmove h u v r v).cost ≤ (r u).cost + price h u v) := by
  unfold rmove
  split
  · rename_i hc
    obtain ⟨huv, hp, hu0, hb⟩ := hc
    unfold better at hb
    have himp : Imp r (upd r v ⟨(r u).cost + price h u v, 0, u⟩) := fun w hw => by
      by_cases hwv : w = v
      · subst hwv; rw [upd_same]; simp only; omega
      · rw [upd_ne hwv]; omega
    have hgu : ∃ d, GoodD (upd r v ⟨(r u).cost + price h u v, 0, u⟩) d u := by
      obtain ⟨d, hd⟩ := hi.good u hu0
      exact ⟨d, good_avoid hi _ d u hd (by omega)⟩
    have hgv : ∃ d, GoodD (upd r v ⟨(r u).cost + price h u v, 0, u⟩) d v := by
      obtain ⟨d, hd⟩ := hgu
      exact ⟨d + 1, u, by rw [upd_same], hd⟩
    refine ⟨⟨fun w hw => ?_, fun w hw => ?_, fun w hw => ?_⟩, himp, fun _ _ _ => by rw [upd_same]; simp only; omega⟩
    · by_cases hwv : w = v
      · subst hwv; rw [upd_same] at hw; simp only at hw; omega
      · rw [upd_ne hwv] at hw ⊢; exact hi.base w hw
    · by_cases hwv : w = v
      · subst hwv
        refine ⟨u, hu, hv, by rw [upd_same], huv, hp, ?_, ?_, by rw [upd_same]⟩
        · rw [upd_ne huv]; exact hu0
        · rw [upd_ne huv, upd_same]; exact Int.le_refl _
      · rw [upd_ne hwv] at hw ⊢
        obtain ⟨x, hx, hwn, e, hxw, hpx, hx0, hle, hh⟩ := hi.step w hw
        refine ⟨x, hx, hwn, e, hxw, hpx, (himp x hx0).1, ?_, hh⟩
        have := (himp x hx0).2
        omega
    · have hold : ∀ d w, GoodD r d w → ∃ d', GoodD (upd r v ⟨(r u).cost + price h u v, 0, u⟩) d' w := by
        intro d
        induction d with
        | zero =>
          intro w hg
          by_cases hwv : w = v
          · subst hwv; exact hgv
          · exact ⟨0, by show (upd r v _ w).frm < 0 ∧ 0 ≤ (upd r v _ w).cost; rw [upd_ne hwv]; exact hg⟩
        | succ d ih =>
          intro w hg
          by_cases hwv : w = v
          · subst hwv; exact hgv
          · obtain ⟨x, e, hx⟩ := hg
            obtain ⟨d', hd'⟩ := ih x hx
            exact ⟨d' + 1, x, by rw [upd_ne hwv]; exact e, hd'⟩
      by_cases hwv : w = v
      · subst hwv; exact hgv
      · rw [upd_ne hwv] at hw
        obtain ⟨d, hd⟩ := hi.good w hw
        exact hold d w hd
  · rename_i hc
    refine ⟨hi, Imp.refl r, fun h1 h2 h3 => ?_⟩
    have : ¬ better ((r u).cost + price h u v) (r v).cost := fun hb => hc ⟨h1, h2, h3, hb⟩
    unfold better at this
    omega
/-- One round over all hops. -/
theorem RInv.inner {h : Ha} {n : Nat} {r0 r : Nat → Way} (hi : RInv h n r0 r) {u : Nat} (hu : u < n) : ∀ k, k ≤ n → RInv h n r0 (rep (fun v r => rmove h u v r) k r) ∧ Imp r (rep (fun v r => rmove h u v r) k r) ∧ ∀ v, v < k → u ≠ v → 0 ≤ price h u v → 0 ≤ (r u).cost → 0 ≤ (rep (fun v r => rmove h u v r) k r v).cost ∧ (rep (fun v r => rmove h u v r) k r v).cost ≤ (r u).cost + price h u v
  | 0, _ => ⟨hi, Imp.refl r, fun v hv => absurd hv (Nat.not_lt_zero v)⟩
  | k + 1, hk => by
    obtain ⟨h1, h2, h3⟩ := RInv.inner hi hu k (by omega)
    rw [rep_succ]
    obtain ⟨g1, g2, g3⟩ := h1.move hu (v := k) (by omega)
    refine ⟨g1, h2.trans g2, fun v hv huv hp h0 => ?_⟩
    by_cases hvk : v = k
    · subst hvk
      have h4 := h2 u h0
      have h5 := g3 huv hp h4.1
      omega
    · have h4 := h3 v (by omega) huv hp h0
      have h5 := g2 v h4.1
      omega
theorem RInv.round {h : Ha} {n : Nat} {r0 r : Nat → Way} (hi : RInv h n r0 r) : ∀ k, k ≤ n → RInv h n r0 (rep (fun u r => rep (fun v r => rmove h u v r) n r) k r) ∧ Imp r (rep (fun u r => rep (fun v r => rmove h u v r) n r) k r) ∧ ∀ u, u < k → ∀ v, v < n → u ≠ v → 0 ≤ price h u v → 0 ≤ (r u).cost → 0 ≤ (rep (fun u r => rep (fun v r => rmove h u v r) n r) k r v).cost ∧ (rep (fun u r => rep (fun v r => rmove h u v r) n r) k r v).cost ≤ (r u).cost + price h u v
  | 0, _ => ⟨hi, Imp.refl r, fun v hv => absurd hv (Nat.not_lt_zero v)⟩
  | k + 1, hk => by
    obtain ⟨h1, h2, h3⟩ := RInv.round hi k (by omega)
    rw [rep_succ]
    obtain ⟨g1, g2, g3⟩ := h1.inner (u := k) (by omega) n (Nat.le_refl _)
    refine ⟨g1, h2.trans g2, fun u hu v hv huv hp h0 => ?_⟩
    by_cases huk : u = k
    · subst huk
      have h4 := h2 u h0
      have h5 := g3 v hv huv hp h4.1
      omega
    · have h4 := h3 u (by omega) v hv huv hp h0
      have h5 := g2 v h4.1
      omega
/-- A way of k hops from where a row begins. -/
def Path (h : Ha) (n : Nat) (r0 : Nat → Way) : Nat → Nat → Int → Prop
  | 0, v, c => 0 ≤ (r0 v).cost ∧ (r0 v).cost ≤ c
  | k + 1, v, c => ∃ (u : Nat) (c' : Int), u < n ∧ v < n ∧ u ≠ v ∧ 0 ≤ price h u v ∧ Path h n r0 k u c' ∧ c' + price h u v ≤ c
theorem good_path {h : Ha} {n : Nat} {r0 r : Nat → Way} (hi : RInv h n r0 r) : ∀ d v, GoodD r d v → Path h n r0 d v (r v).cost
  | 0, v, hg => by
    have e := hi.base v hg.1
    show 0 ≤ (r0 v).cost ∧ (r0 v).cost ≤ (r v).cost
    rw [← e]
    exact ⟨hg.2, Int.le_refl _⟩
  | d + 1, v, hg => by
    obtain ⟨u, e, hu⟩ := hg
    obtain ⟨u', h1, h2, e', h3, h4, h5, h6, _⟩ := hi.step v (by omega)
    obtain rfl : u' = u := by omega
    exact ⟨u', _, h1, h2, h3, h4, good_path hi d u' hu, h6⟩
theorem rounds {h : Ha} {n : Nat} {r0 : Nat → Way} (h0 : ∀ v, (r0 v).frm < 0) : ∀ k, RInv h n r0 (rep (fun _ r => rep (fun u r => rep (fun v r => rmove h u v r) n r) n r) k r0) ∧ Imp r0 (rep (fun _ r => rep (fun u r => rep (fun v r => rmove h u v r) n r) n r) k r0) ∧ ∀ j, j ≤ k → ∀ v c, Path h n r0 j v c → 0 ≤ (rep (fun _ r => rep (fun u r => rep (fun v r => rmove h u v r) n r) n r) k r0 v).cost ∧ (rep (fun _ r => rep (fun u r => rep (fun v r => rmove h u v r) n r) n r) k r0 v).cost ≤ c
  | 0 => ⟨RInv.start h0, Imp.refl _, fun j hj v c hp => by
    obtain rfl : j = 0 := by omega
    exact hp⟩
  | k + 1 => by
    obtain ⟨h1, h2, h3⟩ := rounds (h := h) (n := n) h0 k
    rw [rep_succ]
    obtain ⟨g1, g2, g3⟩ := h1.round n (Nat.le_refl _)
    refine ⟨g1, h2.trans g2, fun j hj v c hp => ?_⟩
    by_cases hjk : j ≤ k
    · have h4 := h3 j hjk v c hp
      have h5 := g2 v h4.1
      omega
    · obtain rfl : j = k + 1 := by omega
      obtain ⟨u, c', hu, hv, huv, hpr, hpu, hle⟩ := hp
      have h4 := h3 k (Nat.le_refl _) u c' hpu
      have h5 := g3 u hu v hv huv hpr h4.1
      omega
theorem good_unique {r : Nat → Way} : ∀ d e v, GoodD r d v → GoodD r e v → d = e
  | 0, 0, _, _, _ => rfl
  | 0, e + 1, v, h1, h2 => by obtain ⟨u, hu, _⟩ := h2; have := h1.1; omega
  | d + 1, 0, v, h1, h2 => by obtain ⟨u, hu, _⟩ := h1; have := h2.1; omega
  | d + 1, e + 1, v, h1, h2 => by
    obtain ⟨u, hu, gu⟩ := h1
    obtain ⟨w, hw, gw⟩ := h2
    obtain rfl : u = w := by omega
    rw [good_unique d e u gu gw]
theorem good_chain {h : Ha} {n : Nat} {r0 r : Nat → Way} (hi : RInv h n r0 r) : ∀ d v, v < n → GoodD r d v → ∃ L : List Int, L.length = d + 1 ∧ L.Nodup ∧ ∀ x ∈ L, ∃ w e : Nat, x = w ∧ w < n ∧ e ≤ d ∧ GoodD r e w
  | 0, v, hv, hg => ⟨[(v : Int)], rfl, by simp, fun x hx => by
    rw [List.mem_singleton] at hx
    exact ⟨v, 0, hx, hv, Nat.le_refl _, hg⟩⟩
  | d + 1, v, hv, hg => by
    obtain ⟨u, e, hu⟩ := hg
    obtain ⟨u', h1, _, e', _⟩ := hi.step v (by omega)
    obtain rfl : u' = u := by omega
    obtain ⟨L, l1, l2, l3⟩ := good_chain hi d u' h1 hu
    refine ⟨(v : Int) :: L, by simp [l1], List.nodup_cons.2 ⟨fun hm => ?_, l2⟩, fun x hx => ?_⟩
    · obtain ⟨w, e2, hw, _, he2, hgw⟩ := l3 _ hm
      obtain rfl : w = v := by omega
      have := good_unique e2 (d + 1) w hgw ⟨u', e, hu⟩
      omega
    · rcases List.mem_cons.1 hx with hx | hx
      · exact ⟨v, d + 1, hx, hv, Nat.le_refl _, u', e, hu⟩
      · obtain ⟨w, e2, hw, hwn, he2, hgw⟩ := l3 x hx
        exact ⟨w, e2, hw, hwn, by omega, hgw⟩
theorem good_short {h : Ha} {n : Nat} {r0 r : Nat → Way} (hi : RInv h n r0 r) {d v : Nat} (hv : v < n) (hg : GoodD r d v) : d + 1 ≤ n := by
  obtain ⟨L, h1, h2, h3⟩ := good_chain hi d v hv hg
  rw [← h1]
  exact nodup_len n L h2 fun x hx => by
    obtain ⟨w, e, rfl, hw, _⟩ := h3 x hx
    omega
/-- After all rounds, no hop makes anything cheaper. -/
theorem relax_closed {h : Ha} {n : Nat} {r0 : Nat → Way} (h0 : ∀ v, (r0 v).frm < 0) : RInv h n r0 (rrelax h n r0) ∧ Imp r0 (rrelax h n r0) ∧ ∀ u v, u < n → v < n → u ≠ v → 0 ≤ price h u v → 0 ≤ (rrelax h n r0 u).cost → 0 ≤ (rrelax h n r0 v).cost ∧ (rrelax h n r0 v).cost ≤ (rrelax h n r0 u).cost + price h u v := by
  obtain ⟨h1, h2, h3⟩ := rounds (h := h) (n := n) h0 n
  refine ⟨h1, h2, fun u v hu hv huv hp hu0 => ?_⟩
  obtain ⟨d, hd⟩ := h1.good u hu0
  have hs := good_short h1 hu hd
  exact h3 (d + 1) hs v _ ⟨u, _, hu, hv, huv, hp, good_path h1 d u hd, Int.le_refl _⟩
end Su

/- THE TABLE OF THE CHEAPEST WAYS: what each of its rows is. -/
namespace Su
/-! Sets as numbers. -/
theorem and_mod2 (a b : Nat) : (a &&& b) % 2 = (a % 2) * (b % 2) := by
  have h := Nat.testBit_and a b 0
  simp only [Nat.testBit_zero] at h
  have h1 : (a &&& b) % 2 = 0 ∨ (a &&& b) % 2 = 1 := by omega
  have h2 : a % 2 = 0 ∨ a % 2 = 1 := by omega
  have h3 : b % 2 = 0 ∨ b % 2 = 1 := by omega
  rcases h1 with h1 | h1 <;> rcases h2 with h2 | h2 <;> rcases h3 with h3 | h3 <;> simp [h1, h2, h3] at h ⊢
theorem or_mod2 (a b : Nat) : (a ||| b) % 2 = a % 2 + b % 2 - (a % 2) * (b % 2) := by
  have h := Nat.testBit_or a b 0
  simp only [Nat.testBit_zero] at h
  have h1 : (a ||| b) % 2 = 0 ∨ (a ||| b) % 2 = 1 := by omega
  have h2 : a % 2 = 0 ∨ a % 2 = 1 := by omega
  have h3 : b % 2 = 0 ∨ b % 2 = 1 := by omega
  rcases h1 with h1 | h1 <;> rcases h2 with h2 | h2 <;> rcases h3 with h3 | h3 <;> simp [h1, h2, h3] at h ⊢
/-- The parts of a set come one after the other. -/
theorem sub_mask : ∀ (s half x : Nat), half &&& s = half → x &&& s = x → x < half → x ≤ (half - 1) &&& s := by
  intro s
  induction s using Nat.strongRecOn with
  | ind s ih =>
    intro half x h1 h2 h3
    have a1 := Nat.and_div_two (a := half) (b := s)
    have a2 := Nat.and_div_two (a := x) (b := s)
    have m1 := and_mod2 half s
    have m2 := and_mod2 x s
    rw [h1] at a1 m1
    rw [h2] at a2 m2
    have b1 := Nat.and_div_two (a := half - 1) (b := s)
    have c1 := and_mod2 (half - 1) s
    have hs0 : 0 < s := by
      rcases Nat.eq_zero_or_pos s with h | h
      · subst h; rw [Nat.and_zero] at h1; omega
      · exact h
    have p1 : half % 2 = 0 ∨ half % 2 = 1 := by omega
    have p2 : s % 2 = 0 ∨ s % 2 = 1 := by omega
    rcases p1 with p1 | p1
    · have hx' : x / 2 < half / 2 := by omega
      have hi := ih (s / 2) (by omega) (half / 2) (x / 2) a1.symm a2.symm hx'
      rw [show (half - 1) / 2 = half / 2 - 1 by omega] at b1
      rw [show (half - 1) % 2 = 1 by omega] at c1
      rcases p2 with p2 | p2 <;> rw [p2] at c1 m2 <;> omega
    · rw [show (half - 1) / 2 = half / 2 by omega, ← a1] at b1
      omega
theorem or_add : ∀ (a b : Nat), a &&& b = 0 → a ||| b = a + b := by
  intro a
  induction a using Nat.strongRecOn with
  | ind a ih =>
    intro b h
    rcases Nat.eq_zero_or_pos a with h0 | h0
    · subst h0; simp
    · have a1 := Nat.and_div_two (a := a) (b := b)
      have m1 := and_mod2 a b
      rw [h] at a1 m1
      have b1 := Nat.or_div_two (a := a) (b := b)
      have c1 := or_mod2 a b
      have hi := ih (a / 2) (by omega) (b / 2) (by omega)
      rw [hi] at b1
      have p1 : a % 2 = 0 ∨ a % 2 = 1 := by omega
      have p2 : b % 2 = 0 ∨ b % 2 = 1 := by omega
      rcases p1 with p1 | p1 <;> rcases p2 with p2 | p2 <;> rw [p1, p2] at c1 m1 <;> omega
theorem and_add {a b : Nat} (h : a &&& b = 0) : a &&& (a + b) = a := by
  rw [← or_add a b h]
  apply Nat.eq_of_testBit_eq
  intro i
  rw [Nat.testBit_and, Nat.testBit_or]
  cases a.testBit i <;> simp
/-! Joining. -/
def Shape (terms : List Int) (F : Nat → Nat → Way) (s n v : Nat) (e : Way) : Prop :=
  e.frm = -1 ∧ (e.cost < 0 ∨ (e.cost = 0 ∧ e.half = 0 ∧ ∃ k, k < terms.length ∧ s = 2 ^ k ∧ (v : Int) = terms.getD k 0) ∨
    ∃ x : Nat, e.half = x ∧ 0 < x ∧ x < s ∧ x &&& s = x ∧ v < n ∧ 0 ≤ (F x v).cost ∧ 0 ≤ (F (s - x) v).cost ∧ e.cost = (F x v).cost + (F (s - x) v).cost)
theorem join_one {terms : List Int} {W0 W : List Way} {s n half v : Nat} {M : Int} {r : Nat → Way} (hs : Sim W0 s M W r) (hl : s * 12 + 12 ≤ W0.length) (hn : n ≤ 12) (hv : v < n) (h0 : 0 < half) (hh : half < s) (hm : half &&& s = half)
    (ba : (row W0 half v).cost ≤ 10000000000000) (bb : (row W0 (s - half) v).cost ≤ 10000000000000) (bM : (row W0 half v).cost + (row W0 (s - half) v).cost ≤ M) :
    ∃ r', Sim W0 s M (joinStep s half v W) r' ∧ Imp r r' ∧ ((∀ w, Shape terms (row W0) s n w (r w)) → ∀ w, Shape terms (row W0) s n w (r' w)) ∧ (0 ≤ (row W0 half v).cost → 0 ≤ (row W0 (s - half) v).cost → 0 ≤ (r' v).cost ∧ (r' v).cost ≤ (row W0 half v).cost + (row W0 (s - half) v).cost) := by
  have hv12 : v < 12 := by omega
  have e1 : get W (half * 12 + v) = row W0 half v := by rw [← hs.oth half (by omega), row_at hv12]
  have e2 : get W ((s - half) * 12 + v) = row W0 (s - half) v := by rw [← hs.oth (s - half) (by omega), row_at hv12]
  have e3 : get W (s * 12 + v) = r v := by rw [← hs.row, row_at hv12]
  unfold joinStep
  rw [e1, e2, e3]
  by_cases hc : 0 ≤ (row W0 half v).cost ∧ 0 ≤ (row W0 (s - half) v).cost
  · rw [sum64_eq hc.1 hc.2 (by omega) (by omega)]
    split
    · rename_i hc2
      have hb := hc2.2.2
      unfold better at hb
      refine ⟨_, sim_set hs hv12 hl (by simp only; omega) (Int.le_refl _), fun w hw => ?_, fun hsh w => ?_, fun _ _ => ?_⟩
      · by_cases hwv : w = v
        · subst hwv; rw [upd_same]; simp only; omega
        · rw [upd_ne hwv]; omega
      · by_cases hwv : w = v
        · subst hwv
          rw [upd_same]
          exact ⟨rfl, .inr (.inr ⟨half, rfl, h0, hh, hm, hv, hc.1, hc.2, rfl⟩)⟩
        · rw [upd_ne hwv]; exact hsh w
      · rw [upd_same]; simp only; omega
    · rename_i hc2
      have hb : ¬ better ((row W0 half v).cost + (row W0 (s - half) v).cost) (r v).cost := fun hb => hc2 ⟨hc.1, hc.2, hb⟩
      unfold better at hb
      exact ⟨r, hs, Imp.refl r, fun h => h, fun _ _ => by omega⟩
  · rw [if_neg (by intro e; exact hc ⟨e.1, e.2.1⟩)]
    exact ⟨r, hs, Imp.refl r, fun h => h, fun ha hb => absurd ⟨ha, hb⟩ hc⟩
theorem join_all {terms : List Int} {W0 W : List Way} {s n half : Nat} {M : Int} {r : Nat → Way} (hs : Sim W0 s M W r) (hl : s * 12 + 12 ≤ W0.length) (hn : n ≤ 12) (h0 : 0 < half) (hh : half < s) (hm : half &&& s = half)
    (ba : ∀ v, (row W0 half v).cost ≤ 10000000000000) (bb : ∀ v, (row W0 (s - half) v).cost ≤ 10000000000000) (bM : ∀ v, (row W0 half v).cost + (row W0 (s - half) v).cost ≤ M) : ∀ k, k ≤ n →
    ∃ r', Sim W0 s M (rep (joinStep s half) k W) r' ∧ Imp r r' ∧ ((∀ w, Shape terms (row W0) s n w (r w)) → ∀ w, Shape terms (row W0) s n w (r' w)) ∧ ∀ v, v < k → 0 ≤ (row W0 half v).cost → 0 ≤ (row W0 (s - half) v).cost → 0 ≤ (r' v).cost ∧ (r' v).cost ≤ (row W0 half v).cost + (row W0 (s - half) v).cost
  | 0, _ => ⟨r, hs, Imp.refl r, fun h => h, fun v hv => absurd hv (Nat.not_lt_zero v)⟩
  | k + 1, hk => by
    obtain ⟨r1, g1, g2, g3, g4⟩ := join_all (terms := terms) hs hl hn h0 hh hm ba bb bM k (by omega)
    obtain ⟨r2, f1, f2, f3, f4⟩ := join_one (terms := terms) g1 hl hn (v := k) (by omega) h0 hh hm (ba k) (bb k) (bM k)
    rw [rep_succ]
    refine ⟨r2, f1, g2.trans f2, fun h => f3 (g3 h), fun v hv ha hb => ?_⟩
    by_cases hvk : v = k
    · subst hvk; exact f4 ha hb
    · have h1 := g4 v (by omega) ha hb
      have h2 := f2 v h1.1
      omega
theorem half_all {terms : List Int} {W0 : List Way} {s n : Nat} {M : Int} (hl : s * 12 + 12 ≤ W0.length) (hn : n ≤ 12)
    (ba : ∀ x, x < s → ∀ v, (row W0 x v).cost ≤ 10000000000000) (bM : ∀ x, 0 < x → x < s → ∀ v, (row W0 x v).cost + (row W0 (s - x) v).cost ≤ M) : ∀ (f half : Nat) (W : List Way) (r : Nat → Way), half ≤ f → half < s → half &&& s = half → Sim W0 s M W r →
    ∃ r', Sim W0 s M (halfLoop s n f half W) r' ∧ Imp r r' ∧ ((∀ w, Shape terms (row W0) s n w (r w)) → ∀ w, Shape terms (row W0) s n w (r' w)) ∧ ∀ x, 0 < x → x ≤ half → x &&& s = x → ∀ v, v < n → 0 ≤ (row W0 x v).cost → 0 ≤ (row W0 (s - x) v).cost → 0 ≤ (r' v).cost ∧ (r' v).cost ≤ (row W0 x v).cost + (row W0 (s - x) v).cost
  | 0, half, W, r, hf, _, _, hs => ⟨r, hs, Imp.refl r, fun h => h, fun x h0 hx => by omega⟩
  | f + 1, half, W, r, hf, hlt, hm, hs => by
    rcases Nat.eq_zero_or_pos half with h0 | h0
    · subst h0
      rw [halfLoop_end]
      exact ⟨r, hs, Imp.refl r, fun h => h, fun x h0 hx => by omega⟩
    · rw [halfLoop_next h0 hf, Nat.add_sub_cancel]
      obtain ⟨r1, g1, g2, g3, g4⟩ := join_all (terms := terms) hs hl hn h0 hlt hm (ba half hlt) (ba (s - half) (by omega)) (bM half h0 hlt) n (Nat.le_refl _)
      have hle := and_small (half - 1) s
      have hm2 : ((half - 1) &&& s) &&& s = (half - 1) &&& s := by rw [Nat.and_assoc, Nat.and_self]
      obtain ⟨r2, f1, f2, f3, f4⟩ := half_all (terms := terms) hl hn ba bM f ((half - 1) &&& s) _ r1 (by omega) (by omega) hm2 g1
      refine ⟨r2, f1, g2.trans f2, fun h => f3 (g3 h), fun x hx0 hx hxm v hv ha hb => ?_⟩
      by_cases hxh : x = half
      · subst hxh
        have h1 := g4 v hv ha hb
        have h2 := f2 v h1.1
        omega
      · exact f4 x hx0 (sub_mask s half x hm hxm (by omega)) hxm v hv ha hb
/-! The beginning of a row. -/
theorem init_all {W0 : List Way} {s : Nat} (hl : s * 12 + 12 ≤ W0.length) (hb : ∀ v, (row W0 s v).cost ≤ 0) : ∀ k, k ≤ 12 → ∃ r, Sim W0 s 0 (rep (initStep s) k W0) r ∧ (∀ v, v < k → r v = ⟨-1, 0, -1⟩) ∧ ∀ v, 12 ≤ v → r v = ⟨-1, 0, -1⟩
  | 0, _ => ⟨row W0 s, ⟨rfl, hb, fun _ _ => rfl, rfl⟩, fun v hv => absurd hv (Nat.not_lt_zero v), fun v hv => if_neg (by omega)⟩
  | k + 1, hk => by
    obtain ⟨r, g1, g2, g3⟩ := init_all hl hb k (by omega)
    refine ⟨_, sim_set g1 (v := k) (x := ⟨-1, 0, -1⟩) (M' := 0) (by omega) hl (by simp) (Int.le_refl _), fun v hv => ?_, fun v hv => ?_⟩
    · by_cases hvk : v = k
      · subst hvk; rw [upd_same]
      · rw [upd_ne hvk]; exact g2 v (by omega)
    · rw [upd_ne (by omega)]; exact g3 v hv
theorem one_all {terms : List Int} {W0 W : List Way} {s : Nat} (ht : ∀ x ∈ terms, 0 ≤ x ∧ x < 12) (hl : s * 12 + 12 ≤ W0.length) {r : Nat → Way} (hs : Sim W0 s 0 W r) (hr : ∀ v, r v = ⟨-1, 0, -1⟩) : ∀ k, k ≤ terms.length → ∃ r', Sim W0 s 0 (rep (oneStep terms s) k W) r' ∧ (∀ v, r' v = ⟨-1, 0, -1⟩ ∨ (r' v = ⟨0, 0, -1⟩ ∧ ∃ j, j < k ∧ s = 2 ^ j ∧ (v : Int) = terms.getD j 0)) ∧ ∀ j, j < k → s = 2 ^ j → r' (terms.getD j 0).toNat = ⟨0, 0, -1⟩
  | 0, _ => ⟨r, hs, fun v => .inl (hr v), fun j hj => absurd hj (Nat.not_lt_zero j)⟩
  | k + 1, hk => by
    obtain ⟨r1, g1, g2, g3⟩ := one_all ht hl hs hr k (by omega)
    rw [rep_succ]
    by_cases hp : s = 2 ^ k
    · have hm : terms.getD k 0 ∈ terms := by rw [List.getD_eq_getElem?_getD, List.getElem?_eq_getElem (by omega)]; exact List.getElem_mem _
      have hb := ht _ hm
      have h12 : (terms.getD k 0).toNat < 12 := by omega
      have e : get (rep (oneStep terms s) k W) (s * 12 + (terms.getD k 0).toNat) = r1 (terms.getD k 0).toNat := by rw [← g1.row, row_at h12]
      rw [oneStep_yes hp, e]
      have hx : (⟨0, (r1 (terms.getD k 0).toNat).half, (r1 (terms.getD k 0).toNat).frm⟩ : Way) = ⟨0, 0, -1⟩ := by
        rcases g2 (terms.getD k 0).toNat with h | ⟨h, _⟩ <;> rw [h]
      rw [hx]
      refine ⟨_, sim_set g1 h12 hl (x := ⟨0, 0, -1⟩) (M' := 0) (by simp) (Int.le_refl _), fun v => ?_, fun j hj hsj => ?_⟩
      · by_cases hvk : v = (terms.getD k 0).toNat
        · rw [hvk, upd_same]
          exact .inr ⟨rfl, k, by omega, hp, by omega⟩
        · rw [upd_ne hvk]
          rcases g2 v with h | ⟨h, j, h1, h2, h3⟩
          · exact .inl h
          · exact .inr ⟨h, j, by omega, h2, h3⟩
      · by_cases hjk : (terms.getD j 0).toNat = (terms.getD k 0).toNat
        · rw [hjk, upd_same]
        · rw [upd_ne hjk]
          exact g3 j (by
            rcases Nat.lt_or_ge j k with h | h
            · exact h
            · obtain rfl : j = k := by omega
              exact absurd rfl hjk) hsj
    · rw [oneStep_no hp]
      refine ⟨r1, g1, fun v => ?_, fun j hj hsj => ?_⟩
      · rcases g2 v with h | ⟨h, j, h1, h2, h3⟩
        · exact .inl h
        · exact .inr ⟨h, j, by omega, h2, h3⟩
      · exact g3 j (by
          rcases Nat.lt_or_ge j k with h | h
          · exact h
          · obtain rfl : j = k := by omega
            exact absurd hsj hp) hsj
/-- What a row of the table is. -/
structure RowOk (h : Ha) (n : Nat) (F : Nat → Nat → Way) (s : Nat) : Prop where
  bd : ∀ v, (F s v).cost ≤ (2 * (s : Int) - 1) * 2000000000
  inv : ∃ r0, RInv h n r0 (F s) ∧ ∀ v, Shape (senders h) F s n v (r0 v)
  one : ∀ k, k < (senders h).length → s = 2 ^ k → 0 ≤ (F s ((senders h).getD k 0).toNat).cost ∧ (F s ((senders h).getD k 0).toNat).cost ≤ 0
  join : ∀ x, 0 < x → x < s → x &&& s = x → ∀ v, v < n → 0 ≤ (F x v).cost → 0 ≤ (F (s - x) v).cost → 0 ≤ (F s v).cost ∧ (F s v).cost ≤ (F x v).cost + (F (s - x) v).cost
  move : ∀ u v, u < n → v < n → u ≠ v → 0 ≤ price h u v → 0 ≤ (F s u).cost → 0 ≤ (F s v).cost ∧ (F s v).cost ≤ (F s u).cost + price h u v
theorem Shape.congr {terms : List Int} {F G : Nat → Nat → Way} {s n v : Nat} {e : Way} (h : Shape terms F s n v e) (hFG : ∀ x, x < s → F x = G x) : Shape terms G s n v e := by
  obtain ⟨h1, h2 | h2 | ⟨x, a1, a2, a3, a4, a5, a6, a7, a8⟩⟩ := h
  · exact ⟨h1, .inl h2⟩
  · exact ⟨h1, .inr (.inl h2)⟩
  · rw [hFG x a3] at a6 a8
    rw [hFG (s - x) (by omega)] at a7 a8
    exact ⟨h1, .inr (.inr ⟨x, a1, a2, a3, a4, a5, a6, a7, a8⟩)⟩
theorem RowOk.congr {h : Ha} {n : Nat} {F G : Nat → Nat → Way} {s : Nat} (k : RowOk h n F s) (hFG : ∀ x, x ≤ s → F x = G x) : RowOk h n G s := by
  have e := hFG s (Nat.le_refl _)
  refine ⟨fun v => by rw [← e]; exact k.bd v, ?_, fun j hj hs => by rw [← e]; exact k.one j hj hs, fun x h0 hx hm v hv ha hb => ?_, fun u v hu hv huv hp h0 => ?_⟩
  · obtain ⟨r0, h1, h2⟩ := k.inv
    exact ⟨r0, by rw [← e]; exact h1, fun v => (h2 v).congr fun x hx => hFG x (by omega)⟩
  · rw [← hFG x (by omega)] at ha ⊢
    rw [← hFG (s - x) (by omega)] at hb ⊢
    rw [← e]
    exact k.join x h0 hx hm v hv ha hb
  · rw [← e] at h0 ⊢
    exact k.move u v hu hv huv hp h0
theorem fill_row {h : Ha} (k : Ok h) {n : Nat} (hn : h.pr.length = n) {s : Nat} (hs0 : 0 < s) (hs : s ≤ 256) {W : List Way} (hl : s * 12 + 12 ≤ W.length) (hz : ∀ v, (row W s v).cost ≤ 0) (hr : ∀ x, 0 < x → x < s → RowOk h n (row W) x) (h0 : ∀ v, (row W 0 v).cost ≤ 0) :
    RowOk h n (row (fill h (senders h) n s W)) s ∧ ∀ s', s' ≠ s → row (fill h (senders h) n s W) s' = row W s' := by
  have hn12 : n ≤ 12 := by have := k.few; omega
  have ht : ∀ x ∈ senders h, 0 ≤ x ∧ x < 12 := fun x hx => by
    have := k.src x ((senders_mem h x).1 hx).2
    have := k.few
    omega
  rw [fill_pos (by omega)]
  obtain ⟨ra, a1, a2, a3⟩ := init_all hl hz 12 (Nat.le_refl _)
  have ha : ∀ v, ra v = ⟨-1, 0, -1⟩ := fun v => by
    rcases Nat.lt_or_ge v 12 with h1 | h1
    · exact a2 v h1
    · exact a3 v h1
  obtain ⟨rb, b1, b2, b3⟩ := one_all ht hl a1 ha (senders h).length (Nat.le_refl _)
  have hM : (0 : Int) ≤ (2 * (s : Int) - 2) * 2000000000 := by omega
  have hbd : ∀ x, x < s → ∀ v, (row W x v).cost ≤ 10000000000000 := fun x hx v => by
    rcases Nat.eq_zero_or_pos x with h1 | h1
    · subst h1; have := h0 v; omega
    · have := (hr x h1 hx).bd v; omega
  have hbM : ∀ x, 0 < x → x < s → ∀ v, (row W x v).cost + (row W (s - x) v).cost ≤ (2 * (s : Int) - 2) * 2000000000 := fun x hx0 hx v => by
    have h1 := (hr x hx0 hx).bd v
    have h2 := (hr (s - x) (by omega) (by omega)).bd v
    omega
  have hm2 : ((s - 1) &&& s) &&& s = (s - 1) &&& s := by rw [Nat.and_assoc, Nat.and_self]
  have hle := and_small (s - 1) s
  obtain ⟨rc, c1, c2, c3, c4⟩ := half_all (terms := senders h) hl hn12 hbd hbM s ((s - 1) &&& s) _ rb (by omega) (by omega) hm2 (b1.wider hM)
  have hsh : ∀ w, Shape (senders h) (row W) s n w (rc w) := c3 fun w => by
    rcases b2 w with e | ⟨e, j, h1, h2, h3⟩ <;> rw [e]
    · exact ⟨rfl, .inl (by simp)⟩
    · exact ⟨rfl, .inr (.inl ⟨rfl, rfl, j, h1, h2, h3⟩)⟩
  have hfr : ∀ v, (rc v).frm < 0 := fun v => by have := (hsh v).1; omega
  have hrel := sim_relax k hn hl _ _ rc hM (by omega) c1
  obtain ⟨d1, d2, d3⟩ := relax_closed (h := h) (n := n) hfr
  refine ⟨?_, hrel.oth⟩
  have eo : ∀ x, x < s → row W x = row (relax h s n (halfLoop s n s ((s - 1) &&& s) (rep (oneStep (senders h) s) (senders h).length (rep (initStep s) 12 W)))) x := fun x hx => (hrel.oth x (by omega)).symm
  have es := hrel.row
  refine ⟨fun v => ?_, ⟨rc, by rw [es]; exact d1, fun v => (hsh v).congr eo⟩, fun j hj hsj => ?_, fun x hx0 hx hxm v hv ha hb => ?_, fun u v hu hv huv hp hu0 => ?_⟩
  · rw [es]
    have := hrel.bd v
    omega
  · have h1 := b3 j hj hsj
    have h2 := c2 ((senders h).getD j 0).toNat (by rw [h1]; simp)
    rw [h1] at h2
    have h3 := d2 _ h2.1
    rw [es]
    simp only at h2
    omega
  · rw [← eo x hx] at ha ⊢
    rw [← eo (s - x) (by omega)] at hb ⊢
    rw [es]
    have h1 := c4 x hx0 (by
      rcases Nat.lt_or_ge x ((s - 1) &&& s + 1) with h | h
      · have := sub_mask s s x (Nat.and_self s) hxm hx; exact this
      · exact sub_mask s s x (Nat.and_self s) hxm hx) hxm v hv ha hb
    have h2 := d2 v h1.1
    omega
  · rw [es] at hu0 ⊢
    exact d3 u v hu hv huv hp hu0
/-- The whole table. -/
theorem table_to {h : Ha} (k : Ok h) {n : Nat} (hn : h.pr.length = n) : ∀ j, j ≤ 2 ^ (senders h).length → (∀ s, 0 < s → s < j → RowOk h n (row (waysTo h j)) s) ∧ (∀ s, j ≤ s → ∀ v, (row (waysTo h j) s v).cost ≤ 0) ∧ ∀ v, (row (waysTo h j) 0 v).cost ≤ 0
  | 0, _ => by
    have hz : ∀ s v, (row (waysTo h 0) s v).cost ≤ 0 := fun s v => by
      unfold row
      split
      · rw [waysTo_zero]
        unfold get zeros
        rw [List.getD_eq_getElem?_getD, List.getElem?_replicate]
        split <;> simp
      · simp
    exact ⟨fun s _ hs => absurd hs (Nat.not_lt_zero s), fun s _ v => hz s v, fun v => hz 0 v⟩
  | j + 1, hj => by
    obtain ⟨h1, h2, h3⟩ := table_to k hn j (by omega)
    have h256 : 2 ^ (senders h).length ≤ 256 := Nat.pow_le_pow_right (by decide) k.send
    have hlen := waysTo_len h j
    rw [waysTo_succ, hn]
    rcases Nat.eq_zero_or_pos j with h0 | h0
    · subst h0
      rw [fill_zero]
      obtain ⟨ra, a1, a2, a3⟩ := init_all (W0 := waysTo h 0) (s := 0) (by rw [hlen]; omega) h3 12 (Nat.le_refl _)
      refine ⟨fun s hs0 hs => by omega, fun s hs v => ?_, fun v => ?_⟩
      · rw [a1.oth s (by omega)]; exact h2 s (by omega) v
      · rw [a1.row]; exact a1.bd v
    · obtain ⟨f1, f2⟩ := fill_row k hn h0 (by omega) (W := waysTo h j) (by rw [hlen]; omega) (h2 j (Nat.le_refl _)) h1 h3
      refine ⟨fun s hs0 hs => ?_, fun s hs v => ?_, fun v => ?_⟩
      · by_cases hsj : s = j
        · subst hsj; exact f1
        · exact (h1 s hs0 (by omega)).congr fun x hx => (f2 x (by omega)).symm
      · rw [f2 s (by omega)]; exact h2 s (by omega) v
      · rw [f2 0 (by omega)]; exact h3 v
theorem table_ok {h : Ha} (k : Ok h) {n : Nat} (hn : h.pr.length = n) {s : Nat} (h0 : 0 < s) (hs : s < 2 ^ (senders h).length) : RowOk h n (row (ways h)) s := (table_to k hn _ (Nat.le_refl _)).1 s h0 hs
end Su

/- THE WALK THROUGH THE TABLE ENDS, and what its hops are. -/
namespace Su
/-- The price of all hops of a list. -/
def sumP (h : Ha) : List (Int × Int) → Int
  | [] => 0
  | x :: l => price h x.1 x.2 + sumP h l
theorem sumP_append (h : Ha) (a b : List (Int × Int)) : sumP h (a ++ b) = sumP h a + sumP h b := by
  induction a with
  | nil => simp [sumP]
  | cons x a ih => rw [List.cons_append, sumP, sumP, ih]; omega
/-- A hop that a tree may have. -/
def HopFine (h : Ha) (n : Nat) (x : Int × Int) : Prop := (0 ≤ x.1 ∧ x.1 < (n : Int)) ∧ (0 ≤ x.2 ∧ x.2 < (n : Int)) ∧ x.1 ≠ x.2 ∧ 0 ≤ price h x.1 x.2
/-- A way by hops of a list. -/
inductive Conn (E : List (Int × Int)) : Int → Int → Prop
  | refl (a : Int) : Conn E a a
  | step {a b c : Int} : Conn E a b → (b, c) ∈ E → Conn E a c
theorem Conn.mono {E E' : List (Int × Int)} (h : ∀ x ∈ E, x ∈ E') {a b : Int} (k : Conn E a b) : Conn E' a b := by
  induction k with
  | refl => exact .refl _
  | step _ hm ih => exact .step ih (h _ hm)
theorem sub_and : ∀ (s x : Nat), x &&& s = x → x &&& (s - x) = 0 := by
  intro s
  induction s using Nat.strongRecOn with
  | ind s ih =>
    intro x h
    rcases Nat.eq_zero_or_pos s with h0 | h0
    · subst h0; simp
    · have a1 := Nat.and_div_two (a := x) (b := s)
      have m1 := and_mod2 x s
      rw [h] at a1 m1
      have hle : x / 2 ≤ s / 2 := by rw [a1]; exact Nat.and_le_right
      have p1 : x % 2 = 0 ∨ x % 2 = 1 := by omega
      have p2 : s % 2 = 0 ∨ s % 2 = 1 := by omega
      have hi := ih (s / 2) (by omega) (x / 2) a1.symm
      have b1 := Nat.and_div_two (a := x) (b := s - x)
      have c1 := and_mod2 x (s - x)
      have hm2 : x % 2 ≤ s % 2 := by rcases p1 with p1 | p1 <;> rcases p2 with p2 | p2 <;> rw [p1, p2] at m1 <;> omega
      rw [show (s - x) / 2 = s / 2 - x / 2 by omega, hi] at b1
      rw [show (s - x) % 2 = s % 2 - x % 2 by omega] at c1
      rcases p1 with p1 | p1 <;> rcases p2 with p2 | p2 <;> rw [p1, p2] at c1 <;> omega
theorem split_bits {s x j : Nat} (h : x &&& s = x) (hb : s.testBit j = true) : x.testBit j = true ∨ (s - x).testBit j = true := by
  have h1 := or_add x (s - x) (sub_and s x h)
  have hle : x ≤ s := by rw [← h]; exact Nat.and_le_right
  rw [show x + (s - x) = s by omega] at h1
  rw [← h1, Nat.testBit_or, Bool.or_eq_true] at hb
  exact hb
theorem walkF_mono {N : Nat} {W : List Way} : ∀ f s v U V, walkF N W f s v U = some V → walkF N W (f + 1) s v U = some V
  | 0, _, _, _, _, h => by cases h
  | f + 1, s, v, U, V, h => by
    have hin := walkF_in h
    rw [walkF, if_pos hin]
    by_cases h1 : 0 ≤ (get W (s * 12 + v)).frm
    · obtain ⟨h2, h3⟩ := walkF_from h h1
      rw [if_pos h1, if_pos h2]
      exact walkF_mono f _ _ _ _ h3
    · rw [if_neg h1]
      by_cases h2 : 0 < (get W (s * 12 + v)).half
      · obtain ⟨h3, X, h4, h5⟩ := walkF_half h h1 h2
        rw [if_pos h2, if_pos h3, walkF_mono f _ _ _ _ h4, Option.bind_some]
        exact walkF_mono f _ _ _ _ h5
      · rw [if_neg h2, walkF_end h h1 h2]
theorem walkF_le {N : Nat} {W : List Way} {f s v : Nat} {U V : List (Int × Int)} (h : walkF N W f s v U = some V) : ∀ g, f ≤ g → walkF N W g s v U = some V := by
  intro g hg
  obtain ⟨d, rfl⟩ : ∃ d, g = f + d := ⟨g - f, by omega⟩
  clear hg
  induction d with
  | zero => exact h
  | succ d ih => exact walkF_mono _ _ _ _ _ ih
theorem walk_ends {h : Ha} (k : Ok h) {n : Nat} (hn : h.pr.length = n) : ∀ s, 0 < s → s < 2 ^ (senders h).length → ∀ v, v < n → 0 ≤ (row (ways h) s v).cost → ∀ U : List (Int × Int), U.length + 12 * (2 * s - 1) < 1000000 →
    ∃ f E, walkF (2 ^ (senders h).length) (ways h) f s v U = some (U ++ E) ∧ E.length ≤ 12 * (2 * s - 1) ∧ sumP h E ≤ (row (ways h) s v).cost ∧ (∀ x ∈ E, HopFine h n x) ∧ ∀ j, j < (senders h).length → s.testBit j = true → Conn E ((senders h).getD j 0) v := by
  have hn12 : n ≤ 12 := by have := k.few; omega
  have h256 : 2 ^ (senders h).length ≤ 256 := Nat.pow_le_pow_right (by decide) k.send
  intro s
  induction s using Nat.strongRecOn with
  | ind s ih =>
    intro hs0 hsN
    have hrow := table_ok k hn hs0 hsN
    obtain ⟨r0, hinv, hshape⟩ := hrow.inv
    have deep : ∀ d v, v < n → GoodD (row (ways h) s) d v → 0 ≤ (row (ways h) s v).cost → ∀ U : List (Int × Int), U.length + (12 * (2 * s - 2) + d) < 1000000 →
        ∃ f E, walkF (2 ^ (senders h).length) (ways h) f s v U = some (U ++ E) ∧ E.length ≤ 12 * (2 * s - 2) + d ∧ sumP h E ≤ (row (ways h) s v).cost ∧ (∀ x ∈ E, HopFine h n x) ∧ ∀ j, j < (senders h).length → s.testBit j = true → Conn E ((senders h).getD j 0) v := by
      intro d
      induction d with
      | zero =>
        intro v hv hg hc U hU
        obtain ⟨hf, _⟩ := hg
        have e := hinv.base v hf
        have hsh := hshape v
        rw [← e] at hsh
        have eg : get (ways h) (s * 12 + v) = row (ways h) s v := (row_at (by omega)).symm
        rcases hsh.2 with h1 | ⟨h1, h2, j, hj, hsj, hvj⟩ | ⟨x, hx, hx0, hxs, hxm, _, ha, hb, hsum⟩
        · omega
        · refine ⟨1, [], ?_, by simp, by rw [h1]; exact Int.le_refl _, fun x hx => (by cases hx), fun i hi hbit => ?_⟩
          · rw [walkF, if_pos ⟨hsN, by omega, by omega⟩, eg, if_neg (by omega), if_neg (by omega), List.append_nil]
          · rw [hsj, Nat.testBit_two_pow] at hbit
            have : j = i := of_decide_eq_true hbit
            subst this
            rw [hvj]
            exact .refl _
        · obtain ⟨f1, E1, a1, a2, a3, a4, a5⟩ := ih x hxs hx0 (by omega) v hv ha U (by omega)
          obtain ⟨f2, E2, b1, b2, b3, b4, b5⟩ := ih (s - x) (by omega) (by omega) (by omega) v hv hb (U ++ E1) (by rw [List.length_append]; omega)
          refine ⟨max f1 f2 + 1, E1 ++ E2, ?_, by rw [List.length_append]; omega, by rw [sumP_append]; omega, fun y hy => ?_, fun j hj hbit => ?_⟩
          · rw [walkF, if_pos ⟨hsN, by omega, by omega⟩, eg, if_neg (by omega), if_pos (by omega), if_pos (by omega), hx, Int.toNat_natCast, walkF_le a1 _ (Nat.le_max_left _ _), Option.bind_some, walkF_le b1 _ (Nat.le_max_right _ _), List.append_assoc]
          · rcases List.mem_append.1 hy with hy | hy
            · exact a4 y hy
            · exact b4 y hy
          · rcases split_bits hxm hbit with h1 | h1
            · exact (a5 j hj h1).mono fun y hy => List.mem_append_left _ hy
            · exact (b5 j hj h1).mono fun y hy => List.mem_append_right _ hy
      | succ d ihd =>
        intro v hv hg hc U hU
        obtain ⟨u, hu, gu⟩ := hg
        obtain ⟨u', hun, _, hu', huv, hp, hu0, hle, hhalf⟩ := hinv.step v (by omega)
        obtain rfl : u' = u := by omega
        obtain ⟨f, E, a1, a2, a3, a4, a5⟩ := ihd u' hun gu hu0 (U ++ [((u' : Int), (v : Int))]) (by rw [List.length_append]; simp; omega)
        have eg : get (ways h) (s * 12 + v) = row (ways h) s v := (row_at (by omega)).symm
        refine ⟨f + 1, ((u' : Int), (v : Int)) :: E, ?_, by simp; omega, by rw [sumP]; simp only; omega, fun y hy => ?_, fun j hj hbit => ?_⟩
        · rw [walkF, if_pos ⟨hsN, by omega, by omega⟩, eg, if_pos (by omega), if_pos (by omega), hu, Int.toNat_natCast, a1, List.append_assoc]
          rfl
        · rcases List.mem_cons.1 hy with hy | hy
          · subst hy
            exact ⟨⟨by simp, by simp; omega⟩, ⟨by simp, by simp; omega⟩, by simp; omega, hp⟩
          · exact a4 y hy
        · exact .step ((a5 j hj hbit).mono fun y hy => List.mem_cons_of_mem _ hy) List.mem_cons_self
    intro v hv hc U hU
    obtain ⟨d, hd⟩ := hinv.good v hc
    have hsh := good_short hinv hv hd
    obtain ⟨f, E, a1, a2, a3, a4, a5⟩ := deep d v hv hd hc U (by omega)
    exact ⟨f, E, a1, by omega, a3, a4, a5⟩
end Su

/- WHAT Tree MAKES IS A VALID TREE, and costs no more than the table says. -/
namespace Su
theorem nextOf_at {nx : List (Int × Int)} (hd : (nx.map Prod.fst).Nodup) {i : Nat} {a b : Int} (h : nx[i]? = some (a, b)) : nextOf nx a = some b := by
  induction nx generalizing i with
  | nil => simp at h
  | cons x nx ih =>
    rw [List.map_cons, List.nodup_cons] at hd
    cases i with
    | zero =>
      simp at h
      subst h
      rw [nextOf, if_pos rfl]
    | succ i =>
      simp at h
      have hm : (a, b) ∈ nx := List.mem_of_getElem? h
      rw [nextOf, if_neg]
      · exact ih hd.2 h
      · intro e
        exact hd.1 (by rw [e]; exact List.mem_map.2 ⟨_, hm, rfl⟩)
theorem nextOf_key {nx : List (Int × Int)} {a : Int} : nextOf nx a ≠ none ↔ ∃ (i : Nat) (b : Int), nx[i]? = some (a, b) := by
  constructor
  · intro h
    cases hn : nextOf nx a with
    | none => exact absurd hn h
    | some b =>
      obtain ⟨i, hi, e⟩ := List.getElem_of_mem (nextOf_some hn)
      exact ⟨i, b, by rw [List.getElem?_eq_getElem hi, e]⟩
  · rintro ⟨i, b, h⟩ hn
    exact nextOf_none.1 hn _ (List.mem_of_getElem? h) rfl
/-- Every known house but the first one sends to an earlier one, by a hop of U. -/
def Ordered (U : List (Int × Int)) (nx : List (Int × Int)) : Prop := ∀ i a b, 0 < i → nx[i]? = some (a, b) → (a, b) ∈ U ∧ ∃ j c, j < i ∧ nx[j]? = some (b, c)
theorem Ordered.snoc {U nx : List (Int × Int)} (h : Ordered U nx) {a y : Int} (hm : (a, y) ∈ U) {q : Nat} {c : Int} (hq : nx[q]? = some (y, c)) : Ordered U (nx ++ [(a, y)]) := by
  have hql : q < nx.length := (List.getElem?_eq_some_iff.1 hq).1
  intro i a' b' hi he
  rcases Nat.lt_or_ge i nx.length with h1 | h1
  · rw [List.getElem?_append_left h1] at he
    obtain ⟨h2, j, c', h3, h4⟩ := h i a' b' hi he
    exact ⟨h2, j, c', h3, by rw [List.getElem?_append_left (by omega)]; exact h4⟩
  · rw [List.getElem?_append_right h1] at he
    cases hk : i - nx.length with
    | zero =>
      rw [hk] at he
      simp at he
      obtain ⟨rfl, rfl⟩ := he
      exact ⟨hm, q, c, by omega, by rw [List.getElem?_append_left hql]; exact hq⟩
    | succ k => rw [hk] at he; simp at he
/-- What has been looked from. -/
def Closed (U nx : List (Int × Int)) (n q : Nat) : Prop := ∀ i b c, i < q → nx[i]? = some (b, c) → ∀ a : Nat, a < n → ((a : Int), b) ∈ U → nextOf nx (a : Int) ≠ none
theorem nextOf_snoc_ne {nx : List (Int × Int)} {a : Int} (h : nextOf nx a ≠ none) (t : List (Int × Int)) : nextOf (nx ++ t) a ≠ none := by
  obtain ⟨i, b, hi⟩ := nextOf_key.1 h
  have hil : i < nx.length := (List.getElem?_eq_some_iff.1 hi).1
  exact nextOf_key.2 ⟨i, b, by rw [List.getElem?_append_left hil]; exact hi⟩
theorem bfs_round {U : List (Int × Int)} {n q : Nat} {y c : Int} {nx : List (Int × Int)} (hq : nx[q]? = some (y, c)) (ho : Ordered U nx) : ∀ k, k ≤ n → Ordered U (rep (bfsStep U y) k nx) ∧ (∃ t, rep (bfsStep U y) k nx = nx ++ t) ∧ ∀ a : Nat, a < k → ((a : Int), y) ∈ U → nextOf (rep (bfsStep U y) k nx) (a : Int) ≠ none
  | 0, _ => ⟨ho, ⟨[], by rw [rep_zero, List.append_nil]⟩, fun a ha => absurd ha (Nat.not_lt_zero a)⟩
  | k + 1, hk => by
    obtain ⟨h1, ⟨t, ht⟩, h3⟩ := bfs_round (n := n) hq ho k (by omega)
    have hql : q < nx.length := (List.getElem?_eq_some_iff.1 hq).1
    have hq2 : (rep (bfsStep U y) k nx)[q]? = some (y, c) := by rw [ht, List.getElem?_append_left hql]; exact hq
    rw [rep_succ]
    cases hn : nextOf (rep (bfsStep U y) k nx) (k : Int) with
    | some b =>
      rw [bfsStep_known hn]
      refine ⟨h1, ⟨t, ht⟩, fun a ha hm => ?_⟩
      by_cases hak : a = k
      · subst hak; rw [hn]; simp
      · exact h3 a (by omega) hm
    | none =>
      by_cases hm : ((k : Int), y) ∈ U
      · rw [bfsStep_yes hn hm]
        refine ⟨h1.snoc hm hq2, ⟨t ++ [((k : Int), y)], by rw [ht, List.append_assoc]⟩, fun a ha hma => ?_⟩
        by_cases hak : a = k
        · subst hak
          exact nextOf_key.2 ⟨(rep (bfsStep U y) a nx).length, y, by rw [List.getElem?_append_right (Nat.le_refl _)]; simp⟩
        · exact nextOf_snoc_ne (h3 a (by omega) hma) _
      · rw [bfsStep_no hm]
        refine ⟨h1, ⟨t, ht⟩, fun a ha hma => ?_⟩
        by_cases hak : a = k
        · subst hak; exact absurd hma hm
        · exact h3 a (by omega) hma
theorem bfs_all {U : List (Int × Int)} {n : Nat} : ∀ (f q : Nat) (nx : List (Int × Int)), f + q = n + 1 → q ≤ nx.length → Known n nx → Ordered U nx → Closed U nx n q →
    Known n (bfs U n f q nx) ∧ Ordered U (bfs U n f q nx) ∧ Closed U (bfs U n f q nx) n (bfs U n f q nx).length ∧ ∃ t, bfs U n f q nx = nx ++ t
  | f, q, nx, hf, hq, hk, ho, hc => by
    by_cases hlt : q < nx.length
    · have hl := hk.len
      cases f with
      | zero => omega
      | succ f =>
        have hqe : nx[q]? = some ((nx.getD q (0, 0)).1, (nx.getD q (0, 0)).2) := by
          rw [List.getD_eq_getElem?_getD, List.getElem?_eq_getElem hlt]
          rfl
        obtain ⟨h1, ⟨t, ht⟩, h3⟩ := bfs_round hqe ho n (Nat.le_refl _)
        have hyn := hk.at hlt
        rw [bfs_go hlt]
        have hc2 : Closed U (rep (bfsStep U (nx.getD q (0, 0)).1) n nx) n (q + 1) := by
          intro i b c hi he a ha hm
          by_cases hiq : i = q
          · subst hiq
            rw [ht, List.getElem?_append_left hlt, hqe] at he
            injection he with he
            injection he with he _
            rw [← he] at hm
            exact h3 a ha hm
          · rw [ht, List.getElem?_append_left (by omega)] at he
            rw [ht]
            exact nextOf_snoc_ne (hc i b c (by omega) he a ha hm) t
        obtain ⟨g1, g2, g3, t2, g4⟩ := bfs_all f (q + 1) _ (by omega) (by have := rep_len_ge U (nx.getD q (0, 0)).1 nx n; omega) (Known.rep hyn hk n (Nat.le_refl _)) h1 hc2
        exact ⟨g1, g2, g3, t ++ t2, by rw [g4, ht, List.append_assoc]⟩
    · rw [bfs_end hlt]
      obtain rfl : q = nx.length := by omega
      exact ⟨hk, ho, hc, [], by rw [List.append_nil]⟩
  termination_by f => f
/-- The known houses of a haul. -/
structure KnownOk (h : Ha) (n : Nat) (U R : List (Int × Int)) : Prop where
  kn : Known n R
  ord : Ordered U R
  cl : Closed U R n R.length
  first : R[0]? = some (h.tgt, h.tgt)
theorem known_ok {h : Ha} (k : Ok h) {n : Nat} (hn : h.pr.length = n) (U : List (Int × Int)) : KnownOk h n U (known h U) := by
  have ht := k.tgt
  rw [hn] at ht
  obtain ⟨h1, h2, h3, t, h4⟩ := bfs_all (U := U) (n := n) (n + 1) 0 [(h.tgt, h.tgt)] (by omega) (Nat.zero_le _) ⟨by simp, fun x hx => by simp at hx; subst hx; exact ht, fun x hx => by simp at hx; subst hx; exact ht⟩ (fun i a b hi he => by
      obtain ⟨i, rfl⟩ : ∃ j, i = j + 1 := ⟨i - 1, by omega⟩
      simp at he) (fun i b c hi => absurd hi (Nat.not_lt_zero i))
  unfold known
  rw [hn]
  exact ⟨h1, h2, h3, by rw [h4]; rfl⟩
theorem KnownOk.conn {h : Ha} {n : Nat} {U R : List (Int × Int)} (k : KnownOk h n U R) (hU : ∀ x ∈ U, HopFine h n x) {a : Int} (hc : Conn U a h.tgt) : nextOf R a ≠ none := by
  suffices H : ∀ a b, Conn U a b → nextOf R b ≠ none → nextOf R a ≠ none from H a h.tgt hc (nextOf_key.2 ⟨0, h.tgt, k.first⟩)
  intro a b hab
  induction hab with
  | refl => exact fun h => h
  | step _ hm ih =>
    rename_i b c _
    intro hcn
    apply ih
    obtain ⟨i, d, hi⟩ := nextOf_key.1 hcn
    have hf := (hU _ hm).1
    simp only at hf
    obtain ⟨j, rfl⟩ : ∃ j : Nat, b = j := ⟨b.toNat, by omega⟩
    exact k.cl i c d (List.getElem?_eq_some_iff.1 hi).1 hi j (by omega) hm
/-- What marking a house's way does. -/
theorem mark_ok {h : Ha} {n : Nat} {U R : List (Int × Int)} (k : KnownOk h n U R) : ∀ (i : Nat) (a c : Int), R[i]? = some (a, c) → ∀ (f : Nat) (S : List Bool), i + 1 ≤ f → S.length = n →
    (∀ x : Nat, S.getD x false = true → (mark R h.tgt f a S).getD x false = true) ∧ (a = h.tgt ∨ (mark R h.tgt f a S).getD a.toNat false = true) ∧
    ∀ x : Nat, (mark R h.tgt f a S).getD x false = true → S.getD x false = true ∨ ((x : Int) ≠ h.tgt ∧ ∃ j b, 0 < j ∧ R[j]? = some ((x : Int), b) ∧ (b = h.tgt ∨ (mark R h.tgt f a S).getD b.toNat false = true)) := by
  intro i
  induction i using Nat.strongRecOn with
  | ind i ih =>
    intro a c hi f S hf hl
    have hdom := k.kn.dom _ (List.mem_of_getElem? hi)
    simp only at hdom
    by_cases hat : a = h.tgt
    · rw [mark_tgt hat]
      exact ⟨fun _ h => h, .inl hat, fun _ h => .inl h⟩
    · cases hs : S.getD a.toNat false with
      | true =>
        rw [mark_on hs]
        exact ⟨fun _ h => h, .inr hs, fun _ h => .inl h⟩
      | false =>
        obtain ⟨f', rfl⟩ : ∃ f', f = f' + 1 := ⟨f - 1, by omega⟩
        rw [mark_go hat hs, nextOf_at k.kn.nd hi, Option.getD_some]
        have hi0 : 0 < i := by
          rcases Nat.eq_zero_or_pos i with h0 | h0
          · subst h0
            rw [k.first] at hi
            injection hi with hi
            injection hi with hi _
            exact absurd hi.symm hat
          · exact h0
        obtain ⟨_, j, d, hj, hje⟩ := k.ord i a c hi0 hi
        obtain ⟨g1, g2, g3⟩ := ih j hj c d hje f' (S.set a.toNat true) (by omega) (by rw [List.length_set]; exact hl)
        have haS : (S.set a.toNat true).getD a.toNat false = true := by
          rw [List.getD_eq_getElem?_getD, List.getElem?_set_self (by omega)]
          rfl
        refine ⟨fun x hx => g1 x ?_, .inr (g1 _ haS), fun x hx => ?_⟩
        · by_cases hxa : x = a.toNat
          · rw [hxa]; exact haS
          · rw [List.getD_eq_getElem?_getD, List.getElem?_set_ne (fun e => hxa e.symm), ← List.getD_eq_getElem?_getD]
            exact hx
        · rcases g3 x hx with h1 | h1
          · by_cases hxa : x = a.toNat
            · right
              have hxe : (x : Int) = a := by omega
              refine ⟨by rw [hxe]; exact hat, i, c, hi0, by rw [hxe]; exact hi, g2⟩
            · left
              rw [List.getD_eq_getElem?_getD, List.getElem?_set_ne (fun e => hxa e.symm), ← List.getD_eq_getElem?_getD] at h1
              exact h1
          · exact .inr h1
/-- The marks. -/
structure MarksGood (h : Ha) (n : Nat) (R : List (Int × Int)) (S : List Bool) : Prop where
  len : S.length = n
  way : ∀ x : Nat, S.getD x false = true → (x : Int) ≠ h.tgt ∧ ∃ j b, 0 < j ∧ R[j]? = some ((x : Int), b) ∧ (b = h.tgt ∨ S.getD b.toNat false = true)
theorem marks_ok {h : Ha} {n : Nat} {U R : List (Int × Int)} (k : KnownOk h n U R) (L : List Int) (hL : ∀ a ∈ L, a ≠ h.tgt ∧ nextOf R a ≠ none) : ∀ j, j ≤ L.length → MarksGood h n R (marksTo R h.tgt L n j) ∧ ∀ i, i < j → (marksTo R h.tgt L n j).getD (L.getD i 0).toNat false = true
  | 0, _ => by
    rw [marksTo_zero]
    exact ⟨⟨by simp, fun x hx => by
      rw [List.getD_eq_getElem?_getD, List.getElem?_replicate] at hx
      split at hx <;> simp at hx⟩, fun i hi => absurd hi (Nat.not_lt_zero i)⟩
  | j + 1, hj => by
    obtain ⟨h1, h2⟩ := marks_ok k L hL j (by omega)
    have hm : L.getD j 0 ∈ L := by rw [List.getD_eq_getElem?_getD, List.getElem?_eq_getElem (by omega)]; exact List.getElem_mem _
    obtain ⟨hne, hkey⟩ := hL _ hm
    obtain ⟨i, c, hi⟩ := nextOf_key.1 hkey
    have hil : i < R.length := (List.getElem?_eq_some_iff.1 hi).1
    have hRl := k.kn.len
    obtain ⟨g1, g2, g3⟩ := mark_ok k i _ c hi (n + 1) (marksTo R h.tgt L n j) (by omega) h1.len
    rw [marksTo_succ]
    refine ⟨⟨by rw [mark_len]; exact h1.len, fun x hx => ?_⟩, fun i' hi' => ?_⟩
    · rcases g3 x hx with h3 | h3
      · obtain ⟨h4, j', b, h5, h6, h7⟩ := h1.way x h3
        exact ⟨h4, j', b, h5, h6, h7.imp id (g1 _)⟩
      · exact h3
    · by_cases hij : i' = j
      · subst hij
        rcases g2 with h3 | h3
        · exact absurd h3 hne
        · exact h3
      · exact g1 _ (h2 i' (by omega))
/-! The hops of the marked houses. -/
theorem mem_outTo {R : List (Int × Int)} {S : List Bool} {x : Int × Int} : ∀ k, x ∈ outTo R S k ↔ ∃ a : Nat, a < k ∧ S.getD a false = true ∧ x = ((a : Int), (nextOf R (a : Int)).getD 0)
  | 0 => by rw [outTo_zero]; simp
  | k + 1 => by
    cases hs : S.getD k false with
    | true =>
      rw [outTo_yes hs, List.mem_append, List.mem_singleton, mem_outTo k]
      constructor
      · rintro (⟨a, h1, h2, h3⟩ | h)
        · exact ⟨a, by omega, h2, h3⟩
        · exact ⟨k, by omega, hs, h⟩
      · rintro ⟨a, h1, h2, h3⟩
        by_cases hak : a = k
        · subst hak; exact .inr h3
        · exact .inl ⟨a, by omega, h2, h3⟩
    | false =>
      rw [outTo_no hs, mem_outTo k]
      constructor
      · rintro ⟨a, h1, h2, h3⟩
        exact ⟨a, by omega, h2, h3⟩
      · rintro ⟨a, h1, h2, h3⟩
        by_cases hak : a = k
        · subst hak; rw [hs] at h2; cases h2
        · exact ⟨a, by omega, h2, h3⟩
theorem outTo_rise {R : List (Int × Int)} {S : List Bool} : ∀ k, (outTo R S k).Pairwise fun x y => x.1 < y.1
  | 0 => by rw [outTo_zero]; exact List.Pairwise.nil
  | k + 1 => by
    cases hs : S.getD k false with
    | true =>
      rw [outTo_yes hs, List.pairwise_append]
      refine ⟨outTo_rise k, by simp, fun x hx y hy => ?_⟩
      rw [List.mem_singleton] at hy
      subst hy
      obtain ⟨a, h1, _, h3⟩ := (mem_outTo k).1 hx
      rw [h3]
      simp only
      omega
    | false => rw [outTo_no hs]; exact outTo_rise k
theorem rise_nodup {l : List (Int × Int)} (h : l.Pairwise fun x y => x.1 < y.1) : (l.map Prod.fst).Nodup := by
  rw [List.nodup_iff_pairwise_ne, List.pairwise_map]
  exact h.imp fun h e => by omega
theorem sumP_erase {h : Ha} {x : Int × Int} : ∀ {E : List (Int × Int)}, x ∈ E → sumP h (E.erase x) = sumP h E - price h x.1 x.2
  | [], hm => by cases hm
  | y :: E, hm => by
    by_cases hxy : y = x
    · subst hxy
      rw [List.erase_cons_head, sumP]
      omega
    · rw [List.erase_cons_tail (by simpa using hxy), sumP, sumP, sumP_erase (by
        rcases List.mem_cons.1 hm with h1 | h1
        · exact absurd h1.symm hxy
        · exact h1)]
      omega
theorem sumP_nonneg {h : Ha} : ∀ {E : List (Int × Int)}, (∀ x ∈ E, 0 ≤ price h x.1 x.2) → 0 ≤ sumP h E
  | [], _ => Int.le_refl _
  | y :: E, hp => by
    have h1 := hp y List.mem_cons_self
    have h2 := sumP_nonneg (E := E) fun x hx => hp x (List.mem_cons_of_mem _ hx)
    rw [sumP]
    omega
theorem sumP_le {h : Ha} : ∀ {l E : List (Int × Int)}, l.Nodup → (∀ x ∈ l, x ∈ E) → (∀ x ∈ E, 0 ≤ price h x.1 x.2) → sumP h l ≤ sumP h E
  | [], E, _, _, hp => sumP_nonneg hp
  | x :: l, E, hd, hm, hp => by
    rw [List.nodup_cons] at hd
    have hx := hm x List.mem_cons_self
    have ih := sumP_le (l := l) (E := E.erase x) hd.2 (fun y hy => by
      have hyx : y ≠ x := fun e => hd.1 (by rw [← e]; exact hy)
      exact (List.mem_erase_of_ne hyx).2 (hm y (List.mem_cons_of_mem _ hy))) (fun y hy => hp y (List.mem_of_mem_erase hy))
    rw [sumP_erase hx] at ih
    rw [sumP]
    omega
theorem costTo_sumP {h : Ha} {l : List (Int × Int)} : ∀ k, k ≤ l.length → costTo h l k = sumP h (l.take k)
  | 0, _ => rfl
  | k + 1, hk => by
    rw [costTo_succ, costTo_sumP k (by omega), take_snoc (by omega), sumP_append, sumP, sumP]
    omega
theorem costTo_all (h : Ha) (l : List (Int × Int)) : costTo h l l.length = sumP h l := by rw [costTo_sumP _ (Nat.le_refl _), List.take_length]
/-- A tree out of known houses and marks. -/
theorem tree_good {h : Ha} (k : Ok h) {n : Nat} (hn : h.pr.length = n) {U R : List (Int × Int)} (hk : KnownOk h n U R) (hU : ∀ x ∈ U, HopFine h n x) {S : List Bool} (hS : MarksGood h n R S) (hall : ∀ a ∈ senders h, S.getD a.toNat false = true) :
    valid h (outTo R S n) = true ∧ sumP h (outTo R S n) ≤ sumP h U := by
  have hmem : ∀ x ∈ outTo R S n, ∃ (a j : Nat) (b : Int), a < n ∧ S.getD a false = true ∧ x = ((a : Int), b) ∧ 0 < j ∧ R[j]? = some ((a : Int), b) ∧ (a : Int) ≠ h.tgt ∧ (b = h.tgt ∨ S.getD b.toNat false = true) ∧ ((a : Int), b) ∈ U := fun x hx => by
    obtain ⟨a, h1, h2, h3⟩ := (mem_outTo n).1 hx
    obtain ⟨h4, j, b, h5, h6, h7⟩ := hS.way a h2
    rw [nextOf_at hk.kn.nd h6, Option.getD_some] at h3
    exact ⟨a, j, b, h1, h2, h3, h5, h6, h4, h7, (hk.ord j _ _ h5 h6).1⟩
  have hrise := outTo_rise (R := R) (S := S) n
  have hnd := rise_nodup hrise
  have hnx : ∀ a : Nat, a < n → S.getD a false = true → ∀ (j : Nat) (b : Int), R[j]? = some ((a : Int), b) → nextOf (outTo R S n) (a : Int) = some b := fun a ha hs j b hj => by
    have hm : ((a : Int), b) ∈ outTo R S n := (mem_outTo n).2 ⟨a, ha, hs, by rw [nextOf_at hk.kn.nd hj]; rfl⟩
    obtain ⟨i, hi, e⟩ := List.getElem_of_mem hm
    exact nextOf_at hnd (i := i) (by rw [List.getElem?_eq_getElem hi, e])
  have htn : nextOf (outTo R S n) h.tgt = none := by
    rw [nextOf_none]
    intro x hx e
    obtain ⟨a, _, b, _, _, hxe, _, _, hne, _⟩ := hmem x hx
    rw [hxe] at e
    exact hne e
  have hgo : ∀ (i : Nat) (a c : Int), R[i]? = some (a, c) → (a = h.tgt ∨ S.getD a.toNat false = true) → ∀ N, i ≤ N → go (outTo R S n) N a = h.tgt := by
    intro i
    induction i using Nat.strongRecOn with
    | ind i ih =>
      intro a c hi hc N hN
      by_cases hat : a = h.tgt
      · rw [hat]; exact go_stay htn N
      · have hdom := hk.kn.dom _ (List.mem_of_getElem? hi)
        simp only at hdom
        have hs : S.getD a.toNat false = true := hc.resolve_left hat
        obtain ⟨_, j', b, h5, h6, h7⟩ := hS.way a.toNat hs
        have hae : ((a.toNat : Nat) : Int) = a := by omega
        rw [hae] at h6
        have hbc : b = c := by
          have h8 := nextOf_at hk.kn.nd h6
          rw [nextOf_at hk.kn.nd hi] at h8
          injection h8 with h8
          exact h8.symm
        subst hbc
        have hi0 : 0 < i := by
          rcases Nat.eq_zero_or_pos i with h0 | h0
          · subst h0
            rw [hk.first] at hi
            injection hi with hi
            injection hi with hi _
            exact absurd hi.symm hat
          · exact h0
        obtain ⟨_, j, d, hj, hje⟩ := hk.ord i a b hi0 hi
        obtain ⟨N', rfl⟩ : ∃ N', N = N' + 1 := ⟨N - 1, by omega⟩
        have h1 := hnx a.toNat (by omega) hs i b (by rw [hae]; exact hi)
        rw [hae] at h1
        rw [go_add _ a 1 N', go_some (n := 0) (b := b) h1]
        exact ih j hj b d hje h7 N' (by omega)
  refine ⟨valid_iff.2 ⟨check_ok k, fun i hi hb => ?_, fun a ha hno => ?_, fun x hx => ?_⟩, ?_⟩
  · have hx : (outTo R S n).getD i (0, 0) ∈ outTo R S n := by rw [List.getD_eq_getElem?_getD, List.getElem?_eq_getElem hi]; exact List.getElem_mem hi
    obtain ⟨a, j, b, h1, h2, h3, h4, h5, h6, h7, h8⟩ := hmem _ hx
    have hf := hU _ h8
    unfold badHop at hb
    rw [hn] at hb
    have hr : 0 < i → ((outTo R S n).getD (i - 1) (0, 0)).1 < ((outTo R S n).getD i (0, 0)).1 := fun h0 => by
      have := List.pairwise_iff_getElem.1 hrise (i - 1) i (by omega) hi (by omega)
      rw [List.getD_eq_getElem?_getD, List.getD_eq_getElem?_getD, List.getElem?_eq_getElem hi, List.getElem?_eq_getElem (by omega : i - 1 < (outTo R S n).length)]
      exact this
    rw [h3] at hb hr
    obtain ⟨f1, f2, f3, f4⟩ := hf
    simp only at hb hr f1 f2 f3 f4
    rcases hb with hb | hb | hb | hb | hb | hb | hb | hb
    · omega
    · omega
    · omega
    · omega
    · exact f3 hb
    · exact h6 hb
    · omega
    · have := hr hb.1
      omega
  · have hs := hall a ha
    have hr := k.src a ((senders_mem h a).1 ha).2
    obtain ⟨_, j, b, _, h6, _⟩ := hS.way a.toNat hs
    have h1 := hnx a.toNat (by omega) hs j b h6
    rw [show ((a.toNat : Nat) : Int) = a by omega, hno] at h1
    cases h1
  · obtain ⟨a, j, b, h1, h2, h3, h4, h5, h6, h7, h8⟩ := hmem x hx
    have hjl : j < R.length := (List.getElem?_eq_some_iff.1 h5).1
    have hRl := hk.kn.len
    rw [h3, hn]
    exact hgo j _ b h5 (.inr (by simpa using h2)) n (by omega)
  · refine sumP_le (hrise.imp fun h e => by rw [e] at h; omega) (fun x hx => ?_) (fun x hx => (hU x hx).2.2.2)
    obtain ⟨a, j, b, h1, h2, h3, h4, h5, h6, h7, h8⟩ := hmem x hx
    rw [h3]
    exact h8
/-- What Tree makes. -/
theorem treeOf_good {h : Ha} (k : Ok h) {n : Nat} (hn : h.pr.length = n) {U : List (Int × Int)} (hU : ∀ x ∈ U, HopFine h n x) (hc : ∀ a ∈ senders h, Conn U a h.tgt) : valid h (treeOf h U) = true ∧ sumP h (treeOf h U) ≤ sumP h U := by
  have hk := known_ok k hn U
  obtain ⟨h1, h2⟩ := marks_ok hk (senders h) (fun a ha => ⟨((senders_mem h a).1 ha).1, hk.conn hU (hc a ha)⟩) (senders h).length (Nat.le_refl _)
  unfold treeOf
  rw [hn]
  exact tree_good k hn hk hU h1 fun a ha => by
    obtain ⟨i, hi, rfl⟩ := List.getElem_of_mem ha
    have := h2 i hi
    have e : (senders h).getD i 0 = (senders h)[i] := by rw [List.getD_eq_getElem?_getD, List.getElem?_eq_getElem hi]; rfl
    rw [e] at this
    exact this
/-- Where Least finds a cost, the walk through the table ends, and Tree makes a valid tree of no more than this cost. -/
theorem tree_ends {h : Ha} (he : (least h).2 = 0) : ∃ fuel, (senders h ≠ [] → ∃ U, walkF (2 ^ (senders h).length) (ways h) fuel (2 ^ (senders h).length - 1) h.tgt.toNat [] = some U) ∧ valid h (treeOf h (usedF fuel h)) = true ∧ sumP h (treeOf h (usedF fuel h)) ≤ (least h).1 := by
  have hc0 := least_check he
  have k := ok_of hc0
  by_cases hs : senders h = []
  · refine ⟨0, fun h => absurd hs h, ?_⟩
    rw [usedF_nil hs, least_none hc0 hs]
    have := treeOf_good k rfl (U := []) (fun x hx => by cases hx) (fun a ha => by rw [hs] at ha; cases ha)
    exact ⟨this.1, by have := this.2; simpa [sumP] using this⟩
  · have hm : 0 < (senders h).length := List.length_pos_iff.2 hs
    have hcost : ¬ (last h h.tgt).cost < 0 := fun hl => by
      rw [least_no hc0 hs hl] at he
      cases he
    rw [least_yes hc0 hs hcost] at he ⊢
    have h2m : 2 ≤ 2 ^ (senders h).length := by
      obtain ⟨j, hj⟩ : ∃ j, (senders h).length = j + 1 := ⟨(senders h).length - 1, by omega⟩
      have := Nat.two_pow_pos j
      rw [hj, Nat.pow_succ]
      omega
    have h256 : 2 ^ (senders h).length ≤ 256 := Nat.pow_le_pow_right (by decide) k.send
    have ht := k.tgt
    have hfew := k.few
    have hle : last h h.tgt = row (ways h) (2 ^ (senders h).length - 1) h.tgt.toNat := by
      rw [row_at (by omega)]
      rfl
    obtain ⟨f, E, a1, a2, a3, a4, a5⟩ := walk_ends k rfl (2 ^ (senders h).length - 1) (by omega) (by omega) h.tgt.toNat (by omega) (by rw [← hle]; omega) [] (by simp; omega)
    rw [List.nil_append] at a1
    refine ⟨f, fun _ => ⟨E, a1⟩, ?_⟩
    rw [usedF_some hs a1]
    have := treeOf_good k rfl a4 (fun a ha => by
      obtain ⟨i, hi, rfl⟩ := List.getElem_of_mem ha
      have h1 := a5 i hi (by rw [Nat.testBit_two_pow_sub_one]; exact decide_eq_true hi)
      rw [List.getD_eq_getElem?_getD, List.getElem?_eq_getElem hi, show ((h.tgt.toNat : Nat) : Int) = h.tgt by omega] at h1
      exact h1)
    refine ⟨this.1, ?_⟩
    rw [hle]
    exact Int.le_trans this.2 a3
end Su

/- NO VALID TREE COSTS LESS THAN THE TABLE SAYS. -/
namespace Su
/-! Sets of senders as numbers. -/
def mask : List Nat → Nat
  | [] => 0
  | k :: L => 2 ^ k ||| mask L
theorem mask_bit (i : Nat) : ∀ L : List Nat, (mask L).testBit i = decide (i ∈ L)
  | [] => by simp [mask]
  | k :: L => by
    rw [mask, Nat.testBit_or, mask_bit i L, Nat.testBit_two_pow]
    by_cases h1 : k = i
    · subst h1; simp
    · have h2 : ¬ i = k := fun e => h1 e.symm
      simp [h1, h2]
theorem mask_same {L M : List Nat} (h : ∀ i, i ∈ L ↔ i ∈ M) : mask L = mask M := by
  apply Nat.eq_of_testBit_eq
  intro i
  rw [mask_bit, mask_bit]
  exact decide_eq_decide.2 (h i)
theorem mask_app (L M : List Nat) : mask (L ++ M) = mask L ||| mask M := by
  apply Nat.eq_of_testBit_eq
  intro i
  rw [mask_bit, Nat.testBit_or, mask_bit, mask_bit]
  simp
theorem mask_and {L M : List Nat} (h : ∀ i ∈ L, i ∉ M) : mask L &&& mask M = 0 := by
  apply Nat.eq_of_testBit_eq
  intro i
  rw [Nat.testBit_and, mask_bit, mask_bit, Nat.zero_testBit]
  by_cases h1 : i ∈ L
  · simp [h1, h i h1]
  · simp [h1]
theorem mask_lt {L : List Nat} {m : Nat} (h : ∀ i ∈ L, i < m) : mask L < 2 ^ m :=
  Nat.lt_pow_two_of_testBit _ fun i hi => by
    rw [mask_bit]
    exact decide_eq_false fun hm => by have := h i hm; omega
theorem mask_pos {L : List Nat} (h : L ≠ []) : 0 < mask L := by
  rcases Nat.eq_zero_or_pos (mask L) with h0 | h0
  · exfalso
    obtain ⟨k, M, rfl⟩ : ∃ k M, L = k :: M := by
      cases L with
      | nil => exact absurd rfl h
      | cons k M => exact ⟨k, M, rfl⟩
    have := mask_bit k (k :: M)
    rw [h0, Nat.zero_testBit] at this
    simp at this
  · exact h0
/-! Lists over houses. -/
theorem flat_congr {A B : Int → List Nat} : ∀ {D : List Int}, (∀ a ∈ D, A a = B a) → D.flatMap A = D.flatMap B
  | [], _ => rfl
  | d :: D, h => by rw [List.flatMap_cons, List.flatMap_cons, h d List.mem_cons_self, flat_congr fun a ha => h a (List.mem_cons_of_mem _ ha)]
theorem flat_upd {A : Int → List Nat} {b : Int} {z : List Nat} : ∀ {D : List Int}, D.Nodup → b ∈ D → (D.flatMap fun a => if a = b then A b ++ z else A a).Perm (z ++ D.flatMap A)
  | [], _, h => by cases h
  | d :: D, hd, hb => by
    rw [List.nodup_cons] at hd
    rw [List.flatMap_cons, List.flatMap_cons]
    by_cases hdb : d = b
    · subst hdb
      rw [if_pos rfl, flat_congr (B := A) fun a ha => if_neg fun e => hd.1 (by rw [← e]; exact ha), List.append_assoc]
      exact List.perm_append_comm_assoc _ _ _
    · rw [if_neg hdb]
      have ih := flat_upd (A := A) (z := z) hd.2 (by
        rcases List.mem_cons.1 hb with h1 | h1
        · exact absurd h1.symm hdb
        · exact h1)
      exact (ih.append_left _).trans (List.perm_append_comm_assoc _ _ _)
theorem flat_apart {A : Int → List Nat} : ∀ {D : List Int}, D.Nodup → (D.flatMap A).Nodup → ∀ a ∈ D, ∀ b ∈ D, a ≠ b → ∀ k ∈ A a, k ∉ A b
  | [], _, _, a, ha, _, _, _, _, _ => by cases ha
  | d :: D, hd, hn, a, ha, b, hb, hab, k, hk => by
    rw [List.flatMap_cons, List.nodup_append] at hn
    rw [List.nodup_cons] at hd
    intro hkb
    rcases List.mem_cons.1 ha with h1 | h1
    · rcases List.mem_cons.1 hb with h2 | h2
      · exact hab (h1.trans h2.symm)
      · subst h1
        exact hn.2.2 k hk k (List.mem_flatMap.2 ⟨b, h2, hkb⟩) rfl
    · rcases List.mem_cons.1 hb with h2 | h2
      · subst h2
        exact hn.2.2 k hkb k (List.mem_flatMap.2 ⟨a, h1, hk⟩) rfl
      · exact flat_apart hd.2 hn.2.1 a h1 b h2 hab k hk hkb
def sumC (C : Int → Int) : List Int → Int
  | [] => 0
  | d :: D => C d + sumC C D
theorem sumC_congr {C E : Int → Int} : ∀ {D : List Int}, (∀ a ∈ D, C a = E a) → sumC C D = sumC E D
  | [], _ => rfl
  | d :: D, h => by rw [sumC, sumC, h d List.mem_cons_self, sumC_congr fun a ha => h a (List.mem_cons_of_mem _ ha)]
theorem sumC_upd {C : Int → Int} {b : Int} {z : Int} : ∀ {D : List Int}, D.Nodup → b ∈ D → sumC (fun a => if a = b then C b + z else C a) D = z + sumC C D
  | [], _, h => by cases h
  | d :: D, hd, hb => by
    rw [List.nodup_cons] at hd
    rw [sumC, sumC]
    by_cases hdb : d = b
    · subst hdb
      rw [if_pos rfl, sumC_congr (E := C) fun a ha => if_neg fun e => hd.1 (by rw [← e]; exact ha)]
      omega
    · rw [if_neg hdb, sumC_upd hd.2 (by
        rcases List.mem_cons.1 hb with h1 | h1
        · exact absurd h1.symm hdb
        · exact h1)]
      omega
theorem sumC_perm {C : Int → Int} {D E : List Int} (h : D.Perm E) : sumC C D = sumC C E := by
  induction h with
  | nil => rfl
  | cons _ _ ih => rw [sumC, sumC, ih]
  | swap => simp only [sumC]; omega
  | trans _ _ ih1 ih2 => rw [ih1, ih2]
theorem sumP_perm {h : Ha} {l l' : List (Int × Int)} (k : l.Perm l') : sumP h l = sumP h l' := by
  induction k with
  | nil => rfl
  | cons _ _ ih => rw [sumP, sumP, ih]
  | swap => simp only [sumP]; omega
  | trans _ _ ih1 ih2 => rw [ih1, ih2]
theorem nodup_inj {α : Type} {L : List α} (h : L.Nodup) {i j : Nat} (hi : i < L.length) (hj : j < L.length) (e : L[i] = L[j]) : i = j := by
  have hp := List.pairwise_iff_getElem.1 (List.nodup_iff_pairwise_ne.1 h)
  rcases Nat.lt_trichotomy i j with h1 | h1 | h1
  · exact absurd e (hp i j hi hj h1)
  · exact h1
  · exact absurd e.symm (hp j i hj hi h1)
/-! Trees. -/
structure InTree (h : Ha) (n N : Nat) (t : Int) (l : List (Int × Int)) : Prop where
  nd : (l.map Prod.fst).Nodup
  fine : ∀ x ∈ l, HopFine h n x ∧ x.1 ≠ t
  go : ∀ x ∈ l, Su.go l N x.1 = t
theorem InTree.next {h : Ha} {n N : Nat} {t : Int} {l : List (Int × Int)} (k : InTree h n N t l) {x : Int × Int} (hx : x ∈ l) : nextOf l x.1 = some x.2 := by
  obtain ⟨i, hi, e⟩ := List.getElem_of_mem hx
  exact nextOf_at k.nd (i := i) (by rw [List.getElem?_eq_getElem hi, e])
theorem InTree.tgt {h : Ha} {n N : Nat} {t : Int} {l : List (Int × Int)} (k : InTree h n N t l) : nextOf l t = none := nextOf_none.2 fun x hx e => (k.fine x hx).2 e
/-- A house to which nobody sends. -/
theorem InTree.leaf {h : Ha} {n N : Nat} {t : Int} {l : List (Int × Int)} (k : InTree h n N t l) (hl : l ≠ []) : ∃ x ∈ l, ∀ y ∈ l, y.2 ≠ x.1 := by
  by_cases hc : ∃ x ∈ l, ∀ y ∈ l, y.2 ≠ x.1
  · exact hc
  · exfalso
    have hall : ∀ x ∈ l, ∃ y ∈ l, y.2 = x.1 := fun x hx => by
      by_cases hq : ∃ y ∈ l, y.2 = x.1
      · exact hq
      · exact absurd ⟨x, hx, fun y hy e => hq ⟨y, hy, e⟩⟩ hc
    have far : ∀ j, ∃ y ∈ l, ∀ i, i ≤ j → Su.go l i y.1 ≠ t := by
      intro j
      induction j with
      | zero =>
        obtain ⟨x, hx⟩ := List.exists_mem_of_ne_nil l hl
        refine ⟨x, hx, fun i hi => ?_⟩
        obtain rfl : i = 0 := by omega
        exact (k.fine x hx).2
      | succ j ih =>
        obtain ⟨y, hy, hf⟩ := ih
        obtain ⟨z, hz, hzy⟩ := hall y hy
        refine ⟨z, hz, fun i hi => ?_⟩
        cases i with
        | zero => exact (k.fine z hz).2
        | succ i =>
          rw [go_add l _ 1 i, go_some (n := 0) (b := z.2) (k.next hz), hzy]
          exact hf i (by omega)
    obtain ⟨y, hy, hf⟩ := far N
    exact hf N (Nat.le_refl _) (k.go y hy)
theorem nextOf_erase {x : Int × Int} {a : Int} (ha : a ≠ x.1) : ∀ l : List (Int × Int), nextOf (l.erase x) a = nextOf l a
  | [] => rfl
  | y :: l => by
    by_cases hyx : y = x
    · subst hyx
      rw [List.erase_cons_head, nextOf, if_neg fun e => ha e.symm]
    · rw [List.erase_cons_tail (by simpa using hyx), nextOf, nextOf, nextOf_erase ha l]
theorem InTree.less {h : Ha} {n N : Nat} {t : Int} {l : List (Int × Int)} (k : InTree h n N t l) {x : Int × Int} (_ : x ∈ l) (hleaf : ∀ y ∈ l, y.2 ≠ x.1) : InTree h n N t (l.erase x) := by
  have hsub : (l.erase x).Sublist l := List.erase_sublist
  have hne : ∀ y ∈ l.erase x, y.1 ≠ x.1 := fun y hy e => by
    have hx2 := k.nd
    have hp : l.Perm (x :: l.erase x) := List.perm_cons_erase ‹x ∈ l›
    have := (hp.map Prod.fst).nodup_iff.1 hx2
    rw [List.map_cons, List.nodup_cons] at this
    exact this.1 (by rw [← e]; exact List.mem_map.2 ⟨y, hy, rfl⟩)
  have hgo : ∀ y ∈ l.erase x, ∀ j, Su.go l j y.1 ≠ x.1 ∧ Su.go (l.erase x) j y.1 = Su.go l j y.1 := fun y hy j => by
    induction j with
    | zero => exact ⟨hne y hy, rfl⟩
    | succ j ih =>
      obtain ⟨h1, h2⟩ := ih
      cases hn : nextOf l (Su.go l j y.1) with
      | none =>
        have h3 : nextOf (l.erase x) (Su.go (l.erase x) j y.1) = none := by rw [h2, nextOf_erase h1]; exact hn
        rw [go_none hn, go_none h3]
        exact ⟨h1, h2⟩
      | some b =>
        have h3 : nextOf (l.erase x) (Su.go (l.erase x) j y.1) = some b := by rw [h2, nextOf_erase h1]; exact hn
        rw [go_some hn, go_some h3]
        exact ⟨hleaf _ (nextOf_some hn), rfl⟩
  exact ⟨(hsub.map _).nodup k.nd, fun y hy => k.fine y (hsub.subset hy), fun y hy => by rw [(hgo y hy N).2]; exact k.go y (hsub.subset hy)⟩
/-- Two sums that meet. -/
theorem meet {h : Ha} (k : Ok h) {n : Nat} (hn : h.pr.length = n) {v : Nat} (hv : v < n) {L M : List Nat} (hL : ∀ i ∈ L, i < (senders h).length) (hM : ∀ i ∈ M, i < (senders h).length) (hap : ∀ i ∈ L, i ∉ M) {c d : Int} (hc0 : 0 ≤ c) (hd0 : 0 ≤ d)
    (h1 : L ≠ [] → 0 ≤ (row (ways h) (mask L) v).cost ∧ (row (ways h) (mask L) v).cost ≤ c) (h2 : M ≠ [] → 0 ≤ (row (ways h) (mask M) v).cost ∧ (row (ways h) (mask M) v).cost ≤ d) : L ++ M ≠ [] → 0 ≤ (row (ways h) (mask (L ++ M)) v).cost ∧ (row (ways h) (mask (L ++ M)) v).cost ≤ c + d := by
  intro hne
  by_cases e1 : L = []
  · subst e1
    have := h2 hne
    rw [List.nil_append]
    omega
  · by_cases e2 : M = []
    · subst e2
      have := h1 e1
      rw [List.append_nil]
      omega
    · have p1 := mask_pos e1
      have p2 := mask_pos e2
      have ha := mask_and hap
      have hs : mask (L ++ M) = mask L + mask M := by rw [mask_app, or_add _ _ ha]
      have hlt : mask (L ++ M) < 2 ^ (senders h).length := mask_lt fun i hi => by
        rcases List.mem_append.1 hi with h3 | h3
        · exact hL i h3
        · exact hM i h3
      have hrow := table_ok k hn (s := mask (L ++ M)) (by omega) hlt
      have hj := hrow.join (mask L) p1 (by omega) (by rw [hs]; exact and_add ha) v hv (h1 e1).1 (by rw [show mask (L ++ M) - mask L = mask M by omega]; exact (h2 e2).1)
      rw [show mask (L ++ M) - mask L = mask M by omega] at hj
      have := h1 e1
      have := h2 e2
      omega
/-- The costs of what has come to each house, in a tree. -/
theorem tree_least {h : Ha} (k : Ok h) {n N : Nat} (hn : h.pr.length = n) {t : Nat} (ht : t < n) : ∀ (c : Nat) (l : List (Int × Int)), l.length = c → InTree h n N t l → ∀ (A : Int → List Nat) (C : Int → Int), (∀ a, 0 ≤ C a) → (∀ a i, i ∈ A a → i < (senders h).length) →
    (∀ v : Nat, v < n → A (v : Int) ≠ [] → 0 ≤ (row (ways h) (mask (A (v : Int))) v).cost ∧ (row (ways h) (mask (A (v : Int))) v).cost ≤ C (v : Int)) →
    (((t : Int) :: l.map Prod.fst).flatMap A).Nodup → ((t : Int) :: l.map Prod.fst).flatMap A ≠ [] →
    0 ≤ (row (ways h) (mask (((t : Int) :: l.map Prod.fst).flatMap A)) t).cost ∧ (row (ways h) (mask (((t : Int) :: l.map Prod.fst).flatMap A)) t).cost ≤ sumC C ((t : Int) :: l.map Prod.fst) + sumP h l
  | 0, l, hl, _, A, C, hC, hA, hc, hd, hne => by
    obtain rfl : l = [] := List.length_eq_zero_iff.1 hl
    simp only [List.map_nil, List.flatMap_cons, List.flatMap_nil, List.append_nil, sumC, sumP] at hne ⊢
    have := hc t ht hne
    omega
  | c + 1, l, hl, hT, A, C, hC, hA, hc, hd, hne => by
    obtain ⟨x, hx, hleaf⟩ := hT.leaf (by intro e; rw [e] at hl; simp at hl)
    have hp : l.Perm (x :: l.erase x) := List.perm_cons_erase hx
    have hT' := hT.less hx hleaf
    have hlen : (l.erase x).length = c := by rw [List.length_erase_of_mem hx]; omega
    obtain ⟨hf, hxt⟩ := hT.fine x hx
    obtain ⟨⟨f1, f2⟩, ⟨f3, f4⟩, f5, f6⟩ := hf
    -- the houses
    have hDp : ((t : Int) :: l.map Prod.fst).Perm (x.1 :: (t : Int) :: (l.erase x).map Prod.fst) := ((hp.map Prod.fst).cons _).trans (List.Perm.swap _ _ _)
    have hDn : ((t : Int) :: l.map Prod.fst).Nodup := List.nodup_cons.2 ⟨fun hm => by
      obtain ⟨y, hy, e⟩ := List.mem_map.1 hm
      exact (hT.fine y hy).2 e, hT.nd⟩
    have hDn2 := hDp.nodup_iff.1 hDn
    rw [List.nodup_cons] at hDn2
    have hx2 : x.2 ∈ (t : Int) :: (l.erase x).map Prod.fst := by
      by_cases e : x.2 = (t : Int)
      · rw [e]; exact List.mem_cons_self
      · refine List.mem_cons_of_mem _ ?_
        have hne2 : nextOf l x.2 ≠ none := fun hno => by
          have hg := hT.go x hx
          cases N with
          | zero => exact hxt hg
          | succ N =>
            rw [go_add l _ 1 N, go_some (n := 0) (b := x.2) (hT.next hx), go_stay hno] at hg
            exact e hg
        obtain ⟨i, b, hi⟩ := nextOf_key.1 hne2
        have hm : (x.2, b) ∈ l := List.mem_of_getElem? hi
        have hm2 : (x.2, b) ∈ l.erase x := (List.mem_erase_of_ne (fun e2 => f5 (congrArg Prod.fst e2).symm)).2 hm
        exact List.mem_map.2 ⟨_, hm2, rfl⟩
    obtain ⟨v, hv⟩ : ∃ v : Nat, x.2 = v := ⟨x.2.toNat, by omega⟩
    obtain ⟨u, hu⟩ : ∃ u : Nat, x.1 = u := ⟨x.1.toNat, by omega⟩
    have hvn : v < n := by omega
    have hun : u < n := by omega
    have hap : ∀ i ∈ A (v : Int), i ∉ A (u : Int) := by
      have hmem1 : (v : Int) ∈ (t : Int) :: l.map Prod.fst := by rw [← hv]; exact hDp.mem_iff.2 (List.mem_cons_of_mem _ hx2)
      have hmem2 : (u : Int) ∈ (t : Int) :: l.map Prod.fst := by rw [← hu]; exact hDp.mem_iff.2 List.mem_cons_self
      exact flat_apart hDn hd _ hmem1 _ hmem2 (by rw [← hv, ← hu]; exact fun e => f5 e.symm)
    -- what has come
    have ih := tree_least k hn ht c (l.erase x) hlen hT' (fun a => if a = x.2 then A x.2 ++ A x.1 else A a) (fun a => if a = x.2 then C x.2 + (C x.1 + price h x.1 x.2) else C a)
      (fun a => by
        split
        · have := hC x.2; have := hC x.1; omega
        · exact hC a)
      (fun a i hi => by
        split at hi
        · rcases List.mem_append.1 hi with h1 | h1
          · exact hA _ i h1
          · exact hA _ i h1
        · exact hA a i hi)
      (fun w hw hne2 => by
        by_cases hwv : (w : Int) = x.2
        · rw [if_pos hwv] at hne2 ⊢
          rw [if_pos hwv]
          obtain rfl : w = v := by omega
          rw [hv, hu] at hne2 ⊢
          refine meet k hn hw (hA _) (hA _) hap (hC _) (by have := hC (u : Int); rw [hu, hv] at f6; omega) (hc w hw) (fun hnu => ?_) hne2
          have h1 := hc u hun hnu
          have hmp := mask_pos hnu
          have hrow := table_ok k hn hmp (mask_lt (hA (u : Int)))
          rw [hu, hv] at f6
          have h2 := hrow.move u w hun hw (by omega) f6 h1.1
          omega
        · rw [if_neg hwv] at hne2 ⊢
          rw [if_neg hwv]
          exact hc w hw hne2)
    have hfp := flat_upd (A := A) (z := A x.1) hDn2.2 hx2
    have hfp2 : (((t : Int) :: l.map Prod.fst).flatMap A).Perm (A x.1 ++ ((t : Int) :: (l.erase x).map Prod.fst).flatMap A) := hDp.flatMap_right A
    have hperm := hfp.trans hfp2.symm
    have ih2 := ih (hperm.nodup_iff.2 hd) (fun e => hne (by
      have := hperm.length_eq
      rw [e] at this
      exact List.length_eq_zero_iff.1 this.symm))
    have hmask : mask (((t : Int) :: (l.erase x).map Prod.fst).flatMap fun a => if a = x.2 then A x.2 ++ A x.1 else A a) = mask (((t : Int) :: l.map Prod.fst).flatMap A) := mask_same fun i => hperm.mem_iff
    have hsc := sumC_upd (C := C) (z := C x.1 + price h x.1 x.2) hDn2.2 hx2
    have hsc2 : sumC C ((t : Int) :: l.map Prod.fst) = C x.1 + sumC C ((t : Int) :: (l.erase x).map Prod.fst) := sumC_perm (C := C) hDp
    have hsp : sumP h l = price h x.1 x.2 + sumP h (l.erase x) := sumP_perm (h := h) hp
    rw [hmask, hsc] at ih2
    omega
/-- No valid tree is cheaper. -/
theorem least_le {h : Ha} {l : List (Int × Int)} (hv : valid h l = true) : (least h).2 = 0 ∧ (least h).1 ≤ costTo h l l.length := by
  obtain ⟨hc0, ho, hs, hg⟩ := valid_iff.1 hv
  have k := ok_of hc0
  by_cases hnil : senders h = []
  · rw [least_none hc0 hnil]
    exact ⟨rfl, (cost_bounds hv l.length (Nat.le_refl _)).1⟩
  · have ht := k.tgt
    obtain ⟨t, htt⟩ : ∃ t : Nat, h.tgt = t := ⟨h.tgt.toNat, by omega⟩
    have htn : t < h.pr.length := by omega
    have hfine : ∀ x ∈ l, HopFine h h.pr.length x ∧ x.1 ≠ h.tgt := fun x hx => by
      obtain ⟨i, hi, e⟩ := mem_at hx
      have := ho i hi
      rw [e] at this
      unfold badHop at this
      unfold HopFine
      refine ⟨⟨⟨by omega, by omega⟩, ⟨by omega, by omega⟩, fun e => this (.inr (.inr (.inr (.inr (.inl e))))), by omega⟩, fun e => this (.inr (.inr (.inr (.inr (.inr (.inl e))))))⟩
    have hnd : (l.map Prod.fst).Nodup := by
      rw [List.nodup_iff_pairwise_ne, List.pairwise_map, List.pairwise_iff_getElem]
      intro i j hi hj hij e
      have := rise (h := h) j hj (fun q hq => ho q (by omega)) i hij
      rw [List.getD_eq_getElem?_getD, List.getD_eq_getElem?_getD, List.getElem?_eq_getElem hi, List.getElem?_eq_getElem hj] at this
      simp only [Option.getD_some] at this
      omega
    have hT : InTree h h.pr.length h.pr.length t l := ⟨hnd, fun x hx => by rw [← htt]; exact hfine x hx, fun x hx => by rw [← htt]; exact hg x hx⟩
    have hterm : ∀ a ∈ senders h, 0 ≤ a ∧ a < (h.pr.length : Int) := fun a ha => k.src a ((senders_mem h a).1 ha).2
    have hsn : (senders h).Nodup := by rw [senders_def]; exact sendTo_nodup _ _ _
    have hidx : ∀ a ∈ senders h, (senders h).idxOf a < (senders h).length ∧ (senders h).getD ((senders h).idxOf a) 0 = a := fun a ha => by
      have h1 := List.idxOf_lt_length_iff.2 ha
      exact ⟨h1, by rw [List.getD_eq_getElem?_getD, List.getElem?_eq_getElem h1, Option.getD_some]; exact List.getElem_idxOf h1⟩
    have hflat : ∀ D : List Int, D.Nodup → (D.flatMap fun a => if a ∈ senders h then [(senders h).idxOf a] else []).Nodup := by
      intro D
      induction D with
      | nil => intro _; simp
      | cons d D ih =>
        intro hD
        rw [List.nodup_cons] at hD
        rw [List.flatMap_cons, List.nodup_append]
        refine ⟨by split <;> simp, ih hD.2, ?_⟩
        intro i hi j hj e
        subst e
        obtain ⟨a, ha, hia⟩ := List.mem_flatMap.1 hj
        split at hi
        · rename_i h1
          split at hia
          · rename_i h2
            rw [List.mem_singleton] at hi hia
            have h3 := (hidx d h1).2
            have h4 := (hidx a h2).2
            rw [← hi, hia, h4] at h3
            exact hD.1 (by rw [← h3]; exact ha)
          · cases hia
        · cases hi
    have hmemT : ∀ i, i ∈ ((t : Int) :: l.map Prod.fst).flatMap (fun a => if a ∈ senders h then [(senders h).idxOf a] else []) ↔ i < (senders h).length := fun i => by
      constructor
      · intro hi
        obtain ⟨a, _, hia⟩ := List.mem_flatMap.1 hi
        split at hia
        · rename_i h1
          rw [List.mem_singleton] at hia
          rw [hia]; exact (hidx a h1).1
        · cases hia
      · intro hi
        have hm : (senders h)[i] ∈ senders h := List.getElem_mem hi
        obtain ⟨q, b, hq⟩ := nextOf_key.1 (hs _ hm)
        refine List.mem_flatMap.2 ⟨(senders h)[i], List.mem_cons_of_mem _ (List.mem_map.2 ⟨_, List.mem_of_getElem? hq, rfl⟩), ?_⟩
        rw [if_pos hm, List.mem_singleton]
        have h1 := (hidx _ hm).1
        have h2 := List.getElem_idxOf h1
        exact (nodup_inj hsn h1 hi h2).symm
    have hm0 : 0 < (senders h).length := List.length_pos_iff.2 hnil
    have hmain := tree_least k (N := h.pr.length) rfl htn l.length l rfl hT (fun a => if a ∈ senders h then [(senders h).idxOf a] else []) (fun _ => 0) (fun _ => Int.le_refl _)
      (fun a i hi => by
        split at hi
        · rename_i h1
          rw [List.mem_singleton] at hi
          rw [hi]; exact (hidx a h1).1
        · cases hi)
      (fun v hvn hne => by
        by_cases h1 : (v : Int) ∈ senders h
        · rw [if_pos h1]
          have h2 := hidx _ h1
          have h3 := Nat.two_pow_pos ((senders h).idxOf (v : Int))
          have hlt : 2 ^ (senders h).idxOf (v : Int) < 2 ^ (senders h).length := Nat.pow_lt_pow_right (by decide) h2.1
          have h4 := (table_ok k rfl h3 hlt).one _ h2.1 rfl
          rw [h2.2, Int.toNat_natCast] at h4
          rw [mask, mask, Nat.or_zero]
          exact h4
        · rw [if_neg h1] at hne; exact absurd rfl hne)
      (hflat _ (List.nodup_cons.2 ⟨fun hm => by
        obtain ⟨y, hy, e⟩ := List.mem_map.1 hm
        exact (hfine y hy).2 (by rw [htt]; exact e), hnd⟩))
      (fun e => by
        have := (hmemT 0).2 hm0
        rw [e] at this
        cases this)
    have hmk : mask (((t : Int) :: l.map Prod.fst).flatMap (fun a => if a ∈ senders h then [(senders h).idxOf a] else [])) = 2 ^ (senders h).length - 1 := by
      apply Nat.eq_of_testBit_eq
      intro i
      rw [mask_bit, Nat.testBit_two_pow_sub_one]
      exact decide_eq_decide.2 (hmemT i)
    have hz : ∀ D : List Int, sumC (fun _ => 0) D = 0 := fun D => by
      induction D with
      | nil => rfl
      | cons d D ih => rw [sumC, ih]; rfl
    rw [hmk, hz, Int.zero_add] at hmain
    have hfew := k.few
    have hle : last h h.tgt = row (ways h) (2 ^ (senders h).length - 1) t := by
      rw [row_at (by omega), htt]
      rfl
    have hcost : ¬ (last h h.tgt).cost < 0 := by rw [hle]; omega
    rw [least_yes hc0 hnil hcost, costTo_all, hle]
    exact ⟨rfl, hmain.2⟩
/-- What Least and Tree return together. -/
theorem tree_is_least {h : Ha} (he : (least h).2 = 0) : ∃ fuel, (senders h ≠ [] → ∃ U, walkF (2 ^ (senders h).length) (ways h) fuel (2 ^ (senders h).length - 1) h.tgt.toNat [] = some U) ∧ valid h (tree fuel h).1 = true ∧ costTo h (tree fuel h).1 (tree fuel h).1.length = (least h).1 := by
  obtain ⟨f, h1, h2, h3⟩ := tree_ends he
  refine ⟨f, h1, ?_⟩
  rw [tree_ok he]
  refine ⟨h2, ?_⟩
  show costTo h (treeOf h (usedF f h)) (treeOf h (usedF f h)).length = (least h).1
  have := (least_le h2).2
  rw [costTo_all] at this ⊢
  omega
end Su

/- THE SUM THAT IS MADE AT THE TARGET IS THE COMBINATION OF THE PIECES. -/
namespace Su
/-! Sums of bytes. -/
theorem xor4 (a b c d : UInt8) : (a ^^^ b) ^^^ (c ^^^ d) = (a ^^^ c) ^^^ (b ^^^ d) := by
  rw [UInt8.xor_assoc, UInt8.xor_assoc, ← UInt8.xor_assoc b c d, UInt8.xor_comm b c, UInt8.xor_assoc c b d]
/-! Bytes of strings. -/
end Su

/- THE SUMS OF LAYER 19, plain laws: with a piece more, or a greater price, Least is not less; it is not greater than the sum of the prices directly to the target. -/
namespace Su
/-- The hops directly to the target. -/
def star (t : Int) (D : List Int) : List (Int × Int) := D.map fun a => (a, t)
end Su

/- THE DIRECT HOPS of the law SumsTreesAreLeast: the houses that were seen, as a map; the loop. -/
namespace Su
/-- Are all prices directly to the target there? -/
def allTo (h : Ha) (D : List Int) : Bool := decide (∀ a ∈ D, 0 ≤ price h a h.tgt)
attribute [irreducible] allTo
attribute [local irreducible] star sumP
end Su
namespace Go.Proofs.YtenafgphaceidaaDoor
open Go.RowKit
open Go.Maps (Keyed)
open Go.WideMaps Go.ChangeMaps Go.MapKept Go.WideShapes
/-- A map says which houses are in a list. -/
def SSays (D : DataW Unit) (U : List Int) : Prop := ∀ a : Int, Go.Maps.has D (.int .i64 a) = decide (a ∈ U) ∧ D.atKey (.int .i64 a) (.lit (.bool false)) = .lit (.bool (decide (a ∈ U)))
theorem SSays.start : SSays (.map []) [] := fun _ => ⟨rfl, rfl⟩
theorem SSays.put {D : DataW Unit} {U : List Int} (h : SSays D U) (hD : Go.Maps.IsMap D) (f : Int) : SSays (D.put (.int .i64 f) (.lit (.bool true))) (U ++ [f]) := by
  have hk : WideAt.IsKeyLit (.int .i64 f) := by simp [WideAt.IsKeyLit]
  intro a
  by_cases he : a = f
  · subst he
    have hm : decide (a ∈ U ++ [a]) = true := by simp
    rw [hm]
    exact ⟨Go.Maps.has_put_same hD hk _, Go.Maps.atKey_put_same hD hk _ _⟩
  · have hne : (Lit.int .i64 a) ≠ .int .i64 f := by
      intro h
      injection h with _ h
      exact he h
    have hm : decide (a ∈ U ++ [f]) = decide (a ∈ U) := by
      apply decide_eq_decide.2
      rw [List.mem_append, List.mem_singleton]
      exact ⟨fun e => e.elim id fun e => absurd e he, .inl⟩
    rw [hm, Go.Maps.has_put_other hne, Go.Maps.atKey_put_other hne]
    exact h a
/-- What the loop reads and writes. -/
structure DW (W0 w : World) (b : Nat) (U : List Int) : Prop where
  ext : Ext W0 w
  ge : W0.heap.size ≤ b
  own : ∃ D : DataW Unit, w.ownsMap Tryd.prog 3 (plainElem Tryd.prog 4) b U.length D ∧ SSays D U
theorem DW.next {W0 w w' : World} {b : Nat} {U : List Int} (h : DW W0 w b U) (hx : Ext w w') : DW W0 w' b U :=
  ⟨h.ext.trans hx, h.ge, by obtain ⟨D, h1, h2⟩ := h.own; exact ⟨D, ownsMap_ext h1 hx, h2⟩⟩
end Go.Proofs.YtenafgphaceidaaDoor

/- THE DRAWN REGIONS of the law SumsTreesAreLeast that make memory. -/
namespace Go.Proofs.YtenafgphaceidaaDoor
open Go.RowKit
theorem InvO.skip {dsts : List (Option Nat)} {vals : List Value} {a0 a : Act} {L : Nat → Bool} (h : InvO dsts vals a0 L a) (i : Nat) (hd : dsts[i]? = some none) : InvO dsts vals a0 (upd L i) a := by
  refine ⟨h.inv.skip i hd, ?_⟩
  intro j t hj hL
  unfold upd at hL
  split at hL
  · cases hL
  · exact h.old j t hj hL
end Go.Proofs.YtenafgphaceidaaDoor

/- THE DRAWN REGION OF least of the specification of layer 19. -/
namespace Go.Proofs.YtenafgphaceidaaDoor
open Go.RowKit
theorem ent_qleast : ∀ args w, (callFunc 36 args).run Tryd.prog w = .ok (.enter 36 args) w := enters_of Tryd.func36 (by kernel_rfl) rfl
theorem ex_hop {w : World} {a : Act} {o : Oper} {x y : Operand} {u v : Int} (ho : o.op = .build 65 #[(0, x), (1, y)]) (hx : a.eval x = .int .i64 u) (hy : a.eval y = .int .i64 v) : (execOp a.eval o).run Tryd.prog w = .ok (.value (.agg #[.int .i64 u, .int .i64 v])) w := by
  unfold execOp
  simp only [ho, List.map_toArray, List.map_cons, List.map_nil, hx, hy]
  go_simp
theorem ex_one_hop {w : World} {a : Act} {o : Oper} {x : Operand} {u v : Int} (ho : o.op = .buildSlice 26 1 #[(0, x)]) (hx : a.eval x = .agg #[.int .i64 u, .int .i64 v]) : (execOp a.eval o).run Tryd.prog w = .ok (.value (.slice (some ⟨w.heap.size, 0, none⟩) 1 1)) (w.alloc (.cells #[.int .i64 u, .int .i64 v] 65)) := by
  unfold execOp
  simp only [ho, List.map_toArray, List.map_cons, List.map_nil, hx]
  go_simp
theorem ex_no_hops {w : World} {a : Act} {o : Oper} (ho : o.op = .buildSlice 26 0 #[]) : (execOp a.eval o).run Tryd.prog w = .ok (.value (.slice (some ⟨w.heap.size, 0, none⟩) 0 0)) (w.alloc (.cells #[] 65)) := by
  unfold execOp
  simp only [ho, List.map_toArray, List.map_nil]
  go_simp
/-- A new block without cells, as a row of wide elements. -/
theorem Owns.newEmpty {w0 w : World} {L : List LRow} (h : Owns w0 w L) (i : Nat) (e : TypeId) (s : Nat) : Owns w0 (w.alloc (.cells #[] e)) (L.set i ⟨.slice (some ⟨w.heap.size, 0, none⟩) 0 0, e, s, 0, []⟩) := by
  have hlt : ∀ r : LRow, r.ok w0 w → ∀ g, r.v.ownBlock = some g → g < w.heap.size := fun r hr g hg => (World.ownsRow.lt hr g hg).2
  refine h.put i _ (h.ext.alloc _) ⟨by simp, .inr ⟨w.heap.size, 0, #[], rfl, h.ext.size, heap_new w _, Nat.le_refl _, by unfold maxLen; omega, by simp, by simp⟩⟩ ?_ ?_
  · intro j r _ hr g hg
    exact Below.heap_alloc w _ g (hlt r (h.ok j r hr) g hg)
  · intro j r _ hr
    refine .inr ?_
    intro he
    have := hlt r (h.ok j r hr) w.heap.size he.symm
    omega
theorem run_append_none {P : Program} {t ty e : TypeId} {z : Value} {s bytes : Nat} (ht : P.underlying t = some (.slice e)) (hi : (P.info? e).map (fun i => (i.zero, i.size, i.bytes)) = some (some z, s, bytes)) (w : World) (b : Nat) (B : Option Addr) (c : Nat) :
    (Builtin.append_ #[t, t] ty #[.slice (some ⟨b, 0, none⟩) 0 0, .slice B 0 c]).run P w = .ok (.slice (some ⟨b, 0, none⟩) 0 0) w := by
  obtain ⟨i0, hi0, hiz, hi1, hi2⟩ := info_parts hi
  cases B <;> simp [Builtin.append_, run_underlying ht, sizeOf, typeInfo, hi0, hi1, Builtin.lenOf, Builtin.firstCells, loadCells, loadCellsFrom, storeCells, Result.andThen]
theorem hcells_one : ∀ (l : List (Int × Int)) (u : Value), u ∈ hcells l → u.oneCell' = true
  | [], u, h => by cases h
  | x :: l, u, h => by
    rw [hcells] at h
    rcases List.mem_cons.1 h with rfl | h
    · rfl
    · rcases List.mem_cons.1 h with rfl | h
      · rfl
      · exact hcells_one l u h
theorem hcells_get : ∀ (l : List (Int × Int)) (j : Nat) (u : Value), (hcells l)[j]? = some u → ∃ i x, l[i]? = some x ∧ ((j = i * 2 ∧ u = .int .i64 x.1) ∨ (j = i * 2 + 1 ∧ u = .int .i64 x.2))
  | [], j, u, h => by simp [hcells] at h
  | x :: l, 0, u, h => by simp [hcells] at h; exact ⟨0, x, rfl, .inl ⟨rfl, h.symm⟩⟩
  | x :: l, 1, u, h => by simp [hcells] at h; exact ⟨0, x, rfl, .inr ⟨rfl, h.symm⟩⟩
  | x :: l, j + 2, u, h => by
    obtain ⟨i, y, h1, h2⟩ := hcells_get l j u (by simpa [hcells] using h)
    exact ⟨i + 1, y, by simpa using h1, h2.imp (fun k => ⟨by omega, k.2⟩) (fun k => ⟨by omega, k.2⟩)⟩
theorem addr_next (ad : Addr) (k : Nat) : ad.add (k + 1) = ⟨(ad.add k).block, (ad.add k).off + 1, none⟩ := by
  unfold Addr.add
  by_cases h : k = 0
  · subst h; simp
  · rw [if_neg (by omega), if_neg h]
    show (⟨ad.block, ad.off + (k + 1), none⟩ : Addr) = ⟨ad.block, ad.off + k + 1, none⟩
    rw [Nat.add_assoc]
/-- The cells of hops that are read. -/
theorem RL.rd {w : World} {ad : Addr} {m c : Nat} {l : List (Int × Int)} (h : RL w (.slice (some ad) m c) l) : ∀ j u, (hcells l)[j]? = some u → w.cell? (ad.add j) = some u := fun j u hj => by
  obtain ⟨i, x, h1, h2⟩ := hcells_get l j u hj
  obtain ⟨A, c', e, _, hh⟩ := h
  obtain ⟨ad', e1, k1, k2, _⟩ := hh i x h1
  injection e with e2 _ _
  rw [e1] at e2
  injection e2 with e2
  subst e2
  rcases h2 with ⟨rfl, rfl⟩ | ⟨rfl, rfl⟩
  · exact k1
  · rw [addr_next]; exact k2
theorem run_append_hops {w0 w : World} {L : List LRow} (ty : TypeId) (h : Owns w0 w L) (i : Nat) {b : Nat} (hL : L[i]? = some ⟨.slice (some ⟨b, 0, none⟩) 0 0, 65, 2, 0, []⟩) {B : Option Addr} {m c : Nat} {l : List (Int × Int)} (hr : RL w (.slice B m c) l) (hm : m ≤ 1000) :
    ∃ g cap w', (Builtin.append_ #[26, 26] ty #[.slice (some ⟨b, 0, none⟩) 0 0, .slice B m c]).run Tryd.prog w = .ok (.slice (some ⟨g, 0, none⟩) m cap) w' ∧ Owns w0 w' (L.set i ⟨.slice (some ⟨g, 0, none⟩) m cap, 65, 2, m, hcells l⟩) := by
  have hl := hr.len
  by_cases h0 : m = 0
  · subst h0
    have hn : l = [] := List.length_eq_zero_iff.1 hl.symm
    subst hn
    refine ⟨b, 0, w, run_append_none (P := Tryd.prog) (ty := ty) Tryd.underlying26 info_hop w b B c, ?_⟩
    have e : L.set i ⟨.slice (some ⟨b, 0, none⟩) 0 0, 65, 2, 0, hcells []⟩ = L := by
      apply List.ext_getElem?
      intro j
      rw [List.getElem?_set]
      split
      · rename_i hij
        subst hij
        split
        · rw [hL]; rfl
        · rename_i hlt; rw [List.getElem?_eq_none (by omega)]
      · rfl
    rw [e]
    exact h
  · obtain ⟨ad, _, _, e, _⟩ := hr.at (i := 0) (by omega)
    subst e
    obtain ⟨g, cap, w', hrr, h2, _, _⟩ := run_append_owns (P := Tryd.prog) 26 ty 65 Tryd.underlying26 info_hop rfl (by decide) h i hL ad m c (hcells l) (by rw [hcells_len, hl]) hr.rd (hcells_one l) (by omega) (by unfold maxLen; omega) (by omega)
    rw [Nat.zero_add] at hrr h2
    exact ⟨g, cap, w', hrr, h2⟩
theorem wpOp_append_hops {w0 w : World} {L : List LRow} {ops : Array Oper} {o : Oper} {a : Act} {Q : Exit → Act → World → Prop} {K : Act → World → Prop} {i0 : Nat} (hi0 : ops[i0]? = some o) (hg : o.guard = none) {s x : Operand}
    (ho : o.op = .call { callee := .builtin .append, args := #[s, x], argTypes := #[26, 26] })
    (h : Owns w0 w L) (i : Nat) {b : Nat} (hL : L[i]? = some ⟨.slice (some ⟨b, 0, none⟩) 0 0, 65, 2, 0, []⟩) (hs : a.eval s = .slice (some ⟨b, 0, none⟩) 0 0) {B : Option Addr} {m c : Nat} {l : List (Int × Int)}
    (hx : a.eval x = .slice B m c) (hr : RL w (.slice B m c) l) (hm : m ≤ 1000)
    (hK : ∀ g cap w', Owns w0 w' (L.set i ⟨.slice (some ⟨g, 0, none⟩) m cap, 65, 2, m, hcells l⟩) → K (a.put o.dst (.slice (some ⟨g, 0, none⟩) m cap)) w') : wpOp Tryd.prog ops Q i0 K a w := by
  obtain ⟨g, cap, w', hrr, h2⟩ := run_append_hops o.type h i hL (c := c) hr hm
  refine wpOp_value hi0 hg ?_ (hK g cap w' h2)
  unfold execOp
  simp only [ho, resolve, invoke, builtin, Sem.run_bind, Sem.run_pure, Result.andThen_ok, List.map_toArray, List.map_cons, List.map_nil, hs, hx, hrr]
theorem wpOp_append_hop {w0 w : World} {L : List LRow} {ops : Array Oper} {o : Oper} {a : Act} {Q : Exit → Act → World → Prop} {K : Act → World → Prop} {i0 : Nat} (hi0 : ops[i0]? = some o) (hg : o.guard = none) {s x : Operand}
    (ho : o.op = .call { callee := .builtin .append, args := #[s, x], argTypes := #[26, 26] })
    (h : Owns w0 w L) (i : Nat) {v : Value} {n : Nat} {l : List (Int × Int)} (hL : L[i]? = some ⟨v, 65, 2, n, hcells l⟩) (hs : a.eval s = v) {g0 : Nat} {y : Int × Int}
    (hx : a.eval x = .slice (some ⟨g0, 0, none⟩) 1 1) (hu : w.cell? ⟨g0, 0, none⟩ = some (.int .i64 y.1)) (hu2 : w.cell? ⟨g0, 1, none⟩ = some (.int .i64 y.2)) (hm : n < 1000)
    (hK : ∀ g cap w', Owns w0 w' (L.set i ⟨.slice (some ⟨g, 0, none⟩) (n + 1) cap, 65, 2, n + 1, hcells (l ++ [y])⟩) → K (a.put o.dst (.slice (some ⟨g, 0, none⟩) (n + 1) cap)) w') : wpOp Tryd.prog ops Q i0 K a w := by
  obtain ⟨g, cap, w', hr, h2, _, h3⟩ := run_append_owns (P := Tryd.prog) 26 o.type 65 Tryd.underlying26 info_hop rfl (by decide) h i hL ⟨g0, 0, none⟩ 1 1 [.int .i64 y.1, .int .i64 y.2] rfl (fun j z hj => by
    match j, hj with
    | 0, hj => simp at hj; subst hj; exact hu
    | 1, hj => simp at hj; subst hj; exact hu2) (fun z hz => by
    simp at hz
    rcases hz with rfl | rfl <;> rfl) (by decide) (by unfold maxLen; omega) (by omega)
  rw [← hcells_snoc] at h2
  refine wpOp_value hi0 hg ?_ (hK g cap w' h2)
  unfold execOp
  simp only [ho, resolve, invoke, builtin, Sem.run_bind, Sem.run_pure, Result.andThen_ok, List.map_toArray, List.map_cons, List.map_nil, hs, hx, hr]
noncomputable def ql_try_code : Code := ((Tryd.f36.body.bind (regionOf 10)).getD .skip)
def ql_try_dsts : List (Option Nat) := [some 36, some 37, some 38, some 39, some 40, some 41, some 42, some 43, some 44, some 45, some 46, some 47, some 10]
theorem ql_try_apart : apartD ql_try_dsts = true := by decide +kernel
set_option maxRecDepth 1000000 in
set_option maxHeartbeats 16000000 in
theorem ql_try (wr : World) (B n c hs to_ : Nat) (A : Option Addr) (G S : Value) (tg x : Int) (l : List (Int × Int)) (hln : l.length = n) (hn : n ≤ 90) (hh : hs ≤ 100) (h0 : wr.cell? ⟨B, 0, none⟩ = some G) (h1 : wr.cell? ⟨B, 1, none⟩ = some S) (h2 : wr.cell? ⟨B, 2, none⟩ = some (.int .i64 tg)) (HRL : Hid (RL wr (.slice A n c) l)) (hb : ∀ y ∈ l ++ [((hs : Int), (to_ : Int))], r64 y.1 ∧ r64 y.2)
    (HR : Hid (∀ (w1 : World) (v : Value), Ext wr w1 → RL w1 v (l ++ [((hs : Int), (to_ : Int))]) → Calls Tryd.prog 36 #[.agg #[G, S, .int .i64 tg], v, .int .i64 ((hs : Int) + 1)] w1 fun e w2 => e = .returned (.int .i64 x) ∧ Ext w1 w2)) (c0 c4 c5 c6 c7 c8 c10 c11 c12 c13 c14 c15 c16 c17 c18 c19 c20 c21 c22 c23 c24 c25 c26 c27 c28 c29 c30 c31 c32 c33 c34 c35 c36 c37 c38 c39 c40 c41 c42 c43 c44 c45 c46 c47 c48 c49 c50 c51 c52 c53 c54 c55 c56 c57 c58 c59 c60 : Value) (df : List Deferred) (K : Act → World → Prop)
    (hK : ∀  (u36 u37 u38 u39 u40 u41 u42 u43 u44 u45 u46 u47 : Value) (wx : World), Ext wr wx → K ⟨#[c0, .slice A n c, .int .i64 (hs : Int), .pointer (some ⟨B, 0, none⟩), c4, c5, c6, c7, c8, .int .i64 (to_ : Int), .int .i64 x, c11, c12, c13, c14, c15, c16, c17, c18, c19, c20, c21, c22, c23, c24, c25, c26, c27, c28, c29, c30, c31, c32, c33, c34, c35, u36, u37, u38, u39, u40, u41, u42, u43, u44, u45, u46, u47, c48, c49, c50, c51, c52, c53, c54, c55, c56, c57, c58, c59, c60], df⟩ wx) :
    Code.wp Tryd.prog ql_try_code (AtEnd K) ⟨#[c0, .slice A n c, .int .i64 (hs : Int), .pointer (some ⟨B, 0, none⟩), c4, c5, c6, c7, c8, .int .i64 (to_ : Int), c10, c11, c12, c13, c14, c15, c16, c17, c18, c19, c20, c21, c22, c23, c24, c25, c26, c27, c28, c29, c30, c31, c32, c33, c34, c35, c36, c37, c38, c39, c40, c41, c42, c43, c44, c45, c46, c47, c48, c49, c50, c51, c52, c53, c54, c55, c56, c57, c58, c59, c60], df⟩ wr := by
  conv => arg 2; whnf
  refine region_inv (by kernel_rfl) [[], [], [], [1, 2], [], [], [4, 5], [6], [3, 7, 3], [], [9], [0, 8, 10, 8], [11, 11, 0, 1, 2, 3, 4, 5, 6, 7, 8, 9, 10, 11]] (by kernel_rfl) [0, 1, 2, 3, 4, 5, 6, 7, 8, 9, 10, 11, 12] (by decide +kernel) (by decide +kernel) (by decide +kernel) (fun L a wc => ∃ (b0 : Nat) (g1 : Nat) (c1 : Nat) (gh : Nat) (g2 : Nat) (c2 : Nat), InvO ql_try_dsts [.agg #[G, S, .int .i64 tg], .slice (some ⟨b0, 0, none⟩) 0 0, .slice A n c, .slice (some ⟨g1, 0, none⟩) n c1, .int .i64 (hs : Int), .int .i64 (to_ : Int), .agg #[.int .i64 (hs : Int), .int .i64 (to_ : Int)], .slice (some ⟨gh, 0, none⟩) 1 1, .slice (some ⟨g2, 0, none⟩) (n + 1) c2, .int .i64 (hs : Int), .int .i64 ((hs : Int) + 1), .int .i64 x, .int .i64 x] ⟨#[c0, .slice A n c, .int .i64 (hs : Int), .pointer (some ⟨B, 0, none⟩), c4, c5, c6, c7, c8, .int .i64 (to_ : Int), c10, c11, c12, c13, c14, c15, c16, c17, c18, c19, c20, c21, c22, c23, c24, c25, c26, c27, c28, c29, c30, c31, c32, c33, c34, c35, c36, c37, c38, c39, c40, c41, c42, c43, c44, c45, c46, c47, c48, c49, c50, c51, c52, c53, c54, c55, c56, c57, c58, c59, c60], df⟩ L a ∧ Hid (Ext wr wc ∧ (L 11 = false → Owns wr wc [(if L 8 = true then ⟨.slice (some ⟨g2, 0, none⟩) (n + 1) c2, 65, 2, n + 1, hcells (l ++ [((hs : Int), (to_ : Int))])⟩ else if L 3 = true then ⟨.slice (some ⟨g1, 0, none⟩) n c1, 65, 2, n, hcells l⟩ else if L 1 = true then ⟨.slice (some ⟨b0, 0, none⟩) 0 0, 65, 2, 0, []⟩ else no), (if L 7 = true then ⟨.slice (some ⟨gh, 0, none⟩) 2 2, 65, 1, 2, [.int .i64 (hs : Int), .int .i64 (to_ : Int)]⟩ else no)]))) ⟨0, 0, 0, 0, 0, 0, InvO.start, Lib.hid ⟨(Ext.refl wr).drew, fun _ => (Owns.start wr (by intro r hr; simp [no] at hr; subst hr; simp)).drew⟩⟩ ?_ ?_
  · refine ⟨?_, ?_, ?_, ?_, ?_, ?_, ?_, ?_, ?_, ?_, ?_, ?_, ?_, trivial⟩
    · -- 0 load
      rintro L a wc ⟨b0, g1, c1, gh, g2, c2, hv, HO⟩ hL hc hd
      have e0 : wc.cell? ⟨B, 0, none⟩ = some G := HO.out.1.cell h0
      have e1 : wc.cell? ⟨B, 1, none⟩ = some S := HO.out.1.cell h1
      have e2 : wc.cell? ⟨B, 2, none⟩ = some (.int .i64 tg) := HO.out.1.cell h2
      exact wpOp_val rfl rfl (ex_load rfl ((hv.fixed 3 (by decide)).trans rfl) (by go_simp)) ⟨b0, g1, c1, gh, g2, c2, hv.put ql_try_apart 0 rfl (Nat.le_of_ble_eq_true rfl) (Nat.le_of_ble_eq_true rfl) rfl, (Lib.hid ⟨HO.out.1, fun e => by simpa [upd] using HO.out.2 (by simpa [upd] using e)⟩)⟩
    · -- 1 lines
      rintro L a wc ⟨b0, g1, c1, gh, g2, c2, hv, HO⟩ hL hc hd
      have n11 : L 11 = false := Bool.eq_false_iff.2 fun h => Bool.false_ne_true (hL.symm.trans (hc 3 (hc 8 (hc 11 h 8 (by decide)) 3 (by decide)) 1 (by decide)))
      have n8 : L 8 = false := Bool.eq_false_iff.2 fun h => Bool.false_ne_true (hL.symm.trans (hc 3 (hc 8 h 3 (by decide)) 1 (by decide)))
      have n3 : L 3 = false := Bool.eq_false_iff.2 fun h => Bool.false_ne_true (hL.symm.trans (hc 3 h 1 (by decide)))
      have h := HO.out.2 n11
      simp only [hL, n8, n3, Bool.false_eq_true, if_false] at h
      have hn := Owns.newEmpty h 0 65 2
      exact wpOp_value rfl rfl (ex_no_hops rfl) ⟨wc.heap.size, g1, c1, gh, g2, c2, hv.put ql_try_apart 1 rfl (Nat.le_of_ble_eq_true rfl) (Nat.le_of_ble_eq_true rfl) rfl, Lib.hid ⟨hn.ext, fun _ => by simpa [upd, n8, n3] using hn⟩⟩
    · -- 2 move
      rintro L a wc ⟨b0, g1, c1, gh, g2, c2, hv, HO⟩ hL hc hd
      exact wpOp_val rfl rfl (ex_move rfl ((hv.fixed 1 (by decide)).trans rfl)) ⟨b0, g1, c1, gh, g2, c2, hv.put ql_try_apart 2 rfl (Nat.le_of_ble_eq_true rfl) (Nat.le_of_ble_eq_true rfl) rfl, (Lib.hid ⟨HO.out.1, fun e => by simpa [upd] using HO.out.2 (by simpa [upd] using e)⟩)⟩
    · -- 3 lines
      rintro L a wc ⟨b0, g1, c1, gh, g2, c2, hv, HO⟩ hL hc hd
      have n11 : L 11 = false := Bool.eq_false_iff.2 fun h => Bool.false_ne_true (hL.symm.trans (hc 8 (hc 11 h 8 (by decide)) 3 (by decide)))
      have n8 : L 8 = false := Bool.eq_false_iff.2 fun h => Bool.false_ne_true (hL.symm.trans (hc 8 h 3 (by decide)))
      have h1' : L 1 = true := hd 1 (by decide)
      have h := HO.out.2 n11
      simp only [hL, n8, h1', Bool.false_eq_true, if_false, if_true] at h
      refine wpOp_append_hops rfl rfl rfl h 0 rfl (hv.get 1 rfl rfl h1') (hv.get 2 rfl rfl (hd 2 (by decide))) (RL.ext _ _ _ _ HO.out.1 HRL.out) (by omega) ?_
      intro gg cc w2 hO2
      have hv := hv.reset 3 hL (.slice (some ⟨gg, 0, none⟩) n cc)
      exact ⟨b0, gg, cc, gh, g2, c2, hv.put ql_try_apart 3 rfl (Nat.le_of_ble_eq_true rfl) (Nat.le_of_ble_eq_true rfl) rfl, Lib.hid ⟨hO2.ext, fun _ => by simpa [upd, n8] using hO2⟩⟩
    · -- 4 move
      rintro L a wc ⟨b0, g1, c1, gh, g2, c2, hv, HO⟩ hL hc hd
      exact wpOp_val rfl rfl (ex_move rfl ((hv.fixed 2 (by decide)).trans rfl)) ⟨b0, g1, c1, gh, g2, c2, hv.put ql_try_apart 4 rfl (Nat.le_of_ble_eq_true rfl) (Nat.le_of_ble_eq_true rfl) rfl, (Lib.hid ⟨HO.out.1, fun e => by simpa [upd] using HO.out.2 (by simpa [upd] using e)⟩)⟩
    · -- 5 move
      rintro L a wc ⟨b0, g1, c1, gh, g2, c2, hv, HO⟩ hL hc hd
      exact wpOp_val rfl rfl (ex_move rfl ((hv.fixed 9 (by decide)).trans rfl)) ⟨b0, g1, c1, gh, g2, c2, hv.put ql_try_apart 5 rfl (Nat.le_of_ble_eq_true rfl) (Nat.le_of_ble_eq_true rfl) rfl, (Lib.hid ⟨HO.out.1, fun e => by simpa [upd] using HO.out.2 (by simpa [upd] using e)⟩)⟩
    · -- 6 raw
      rintro L a wc ⟨b0, g1, c1, gh, g2, c2, hv, HO⟩ hL hc hd
      exact wpOp_val rfl rfl (ex_hop rfl (hv.get 4 rfl rfl (hd 4 (by decide))) (hv.get 5 rfl rfl (hd 5 (by decide)))) ⟨b0, g1, c1, gh, g2, c2, hv.put ql_try_apart 6 rfl (Nat.le_of_ble_eq_true rfl) (Nat.le_of_ble_eq_true rfl) rfl, (Lib.hid ⟨HO.out.1, fun e => by simpa [upd] using HO.out.2 (by simpa [upd] using e)⟩)⟩
    · -- 7 lines
      rintro L a wc ⟨b0, g1, c1, gh, g2, c2, hv, HO⟩ hL hc hd
      have n11 : L 11 = false := Bool.eq_false_iff.2 fun h => Bool.false_ne_true (hL.symm.trans (hc 8 (hc 11 h 8 (by decide)) 7 (by decide)))
      have n8 : L 8 = false := Bool.eq_false_iff.2 fun h => Bool.false_ne_true (hL.symm.trans (hc 8 h 7 (by decide)))
      have h := HO.out.2 n11
      simp only [hL, n8, Bool.false_eq_true, if_false] at h
      have hn := h.new 1 #[.int .i64 (hs : Int), .int .i64 (to_ : Int)] 65 (by simp [maxLen])
      have hv := hv.reset 7 hL (.slice (some ⟨wc.heap.size, 0, none⟩) 1 1)
      exact wpOp_value rfl rfl (ex_one_hop rfl (hv.get 6 rfl rfl (hd 6 (by decide)))) ⟨b0, g1, c1, wc.heap.size, g2, c2, hv.put ql_try_apart 7 rfl (Nat.le_of_ble_eq_true rfl) (Nat.le_of_ble_eq_true rfl) rfl, Lib.hid ⟨hn.ext, fun _ => by simpa [upd, n8] using hn⟩⟩
    · -- 8 lines
      rintro L a wc ⟨b0, g1, c1, gh, g2, c2, hv, HO⟩ hL hc hd
      have n11 : L 11 = false := Bool.eq_false_iff.2 fun h => Bool.false_ne_true (hL.symm.trans (hc 11 h 8 (by decide)))
      have h3' : L 3 = true := hd 3 (by decide)
      have h7' : L 7 = true := hd 7 (by decide)
      have h := HO.out.2 n11
      simp only [hL, h3', h7', Bool.false_eq_true, if_false, if_true] at h
      refine wpOp_append_hop (y := ((hs : Int), (to_ : Int))) rfl rfl rfl h 0 rfl (hv.get 3 rfl rfl h3') (hv.get 7 rfl rfl h7') (h.cell 1 rfl 0 rfl) (h.cell 1 rfl 1 rfl) (by omega) ?_
      intro gg cc w2 hO2
      have hv := hv.reset 8 hL (.slice (some ⟨gg, 0, none⟩) (n + 1) cc)
      exact ⟨b0, g1, c1, gh, gg, cc, hv.put ql_try_apart 8 rfl (Nat.le_of_ble_eq_true rfl) (Nat.le_of_ble_eq_true rfl) rfl, Lib.hid ⟨hO2.ext, fun _ => by simpa [upd, h7'] using hO2⟩⟩
    · -- 9 move
      rintro L a wc ⟨b0, g1, c1, gh, g2, c2, hv, HO⟩ hL hc hd
      exact wpOp_val rfl rfl (ex_move rfl ((hv.fixed 2 (by decide)).trans rfl)) ⟨b0, g1, c1, gh, g2, c2, hv.put ql_try_apart 9 rfl (Nat.le_of_ble_eq_true rfl) (Nat.le_of_ble_eq_true rfl) rfl, (Lib.hid ⟨HO.out.1, fun e => by simpa [upd] using HO.out.2 (by simpa [upd] using e)⟩)⟩
    · -- 10 bin
      rintro L a wc ⟨b0, g1, c1, gh, g2, c2, hv, HO⟩ hL hc hd
      have hw : IntKind.i64.wrap ((hs : Int) + 1) = (hs : Int) + 1 := by rw [IntKind.wrap_i64]; omega
      exact wpOp_val rfl rfl (ex_bin rfl (hv.get 9 rfl rfl (hd 9 (by decide))) rfl (by go_simp)) ⟨b0, g1, c1, gh, g2, c2, hv.put ql_try_apart 10 rfl (Nat.le_of_ble_eq_true rfl) (Nat.le_of_ble_eq_true rfl) rfl, (Lib.hid ⟨HO.out.1, fun e => by simpa [upd] using HO.out.2 (by simpa [upd] using e)⟩)⟩
    · -- 11 call
      rintro L a wc ⟨b0, g1, c1, gh, g2, c2, hv, HO⟩ hL hc hd
      have h8' : L 8 = true := hd 8 (by decide)
      have h := HO.out.2 hL
      simp only [h8', if_true] at h
      have hrl : RL wc (.slice (some ⟨g2, 0, none⟩) (n + 1) c2) (l ++ [((hs : Int), (to_ : Int))]) := RL.of_own (h.row 0 rfl) (by simp [hln]) (by simp; omega) hb
      refine wpOp_call (R := fun v w1 => v = .int .i64 x ∧ Ext wc w1) rfl rfl (ex_call rfl rfl (map3c (hv.get 0 rfl rfl (hd 0 (by decide))) (hv.get 8 rfl rfl (hd 8 (by decide))) (hv.get 10 rfl rfl (hd 10 (by decide)))) (ent_qleast _ _)) ((HR.out wc _ HO.out.1 hrl).mono (fun e w' h => ⟨_, h.1, rfl, h.2⟩)) ?_
      rintro v w' ⟨rfl, hx⟩
      exact ⟨b0, g1, c1, gh, g2, c2, hv.put ql_try_apart 11 rfl (Nat.le_of_ble_eq_true rfl) (Nat.le_of_ble_eq_true rfl) rfl, Lib.hid ⟨HO.out.1.trans hx, fun e => by simp [upd] at e⟩⟩
    · -- 12 assign
      rintro L a wc ⟨b0, g1, c1, gh, g2, c2, hv, HO⟩ hL hc hd
      exact wpOp_val rfl rfl (ex_assign rfl (hv.get 11 rfl rfl (hd 11 (by decide)))) ⟨b0, g1, c1, gh, g2, c2, hv.put ql_try_apart 12 rfl (Nat.le_of_ble_eq_true rfl) (Nat.le_of_ble_eq_true rfl) rfl, (Lib.hid ⟨HO.out.1, fun e => by simpa [upd] using HO.out.2 (by simpa [upd] using e)⟩)⟩
  · rintro L a wc ⟨b0, g1, c1, gh, g2, c2, hv, HO⟩ hall
    show K a wc
    have ha := act_lit a
    rw [hv.size, hv.defers] at ha
    have hl : ∀ f : Nat → Value, ((List.range (⟨#[c0, .slice A n c, .int .i64 (hs : Int), .pointer (some ⟨B, 0, none⟩), c4, c5, c6, c7, c8, .int .i64 (to_ : Int), c10, c11, c12, c13, c14, c15, c16, c17, c18, c19, c20, c21, c22, c23, c24, c25, c26, c27, c28, c29, c30, c31, c32, c33, c34, c35, c36, c37, c38, c39, c40, c41, c42, c43, c44, c45, c46, c47, c48, c49, c50, c51, c52, c53, c54, c55, c56, c57, c58, c59, c60], df⟩ : Act).tmps.size).map f).toArray = #[f 0, f 1, f 2, f 3, f 4, f 5, f 6, f 7, f 8, f 9, f 10, f 11, f 12, f 13, f 14, f 15, f 16, f 17, f 18, f 19, f 20, f 21, f 22, f 23, f 24, f 25, f 26, f 27, f 28, f 29, f 30, f 31, f 32, f 33, f 34, f 35, f 36, f 37, f 38, f 39, f 40, f 41, f 42, f 43, f 44, f 45, f 46, f 47, f 48, f 49, f 50, f 51, f 52, f 53, f 54, f 55, f 56, f 57, f 58, f 59, f 60] := fun _ => rfl
    rw [hl] at ha
    simp only [hv.fixed 0 (by decide), hv.fixed 1 (by decide), hv.fixed 2 (by decide), hv.fixed 3 (by decide), hv.fixed 4 (by decide), hv.fixed 5 (by decide), hv.fixed 6 (by decide), hv.fixed 7 (by decide), hv.fixed 8 (by decide), hv.fixed 9 (by decide), hv.fixed 11 (by decide), hv.fixed 12 (by decide), hv.fixed 13 (by decide), hv.fixed 14 (by decide), hv.fixed 15 (by decide), hv.fixed 16 (by decide), hv.fixed 17 (by decide), hv.fixed 18 (by decide), hv.fixed 19 (by decide), hv.fixed 20 (by decide), hv.fixed 21 (by decide), hv.fixed 22 (by decide), hv.fixed 23 (by decide), hv.fixed 24 (by decide), hv.fixed 25 (by decide), hv.fixed 26 (by decide), hv.fixed 27 (by decide), hv.fixed 28 (by decide), hv.fixed 29 (by decide), hv.fixed 30 (by decide), hv.fixed 31 (by decide), hv.fixed 32 (by decide), hv.fixed 33 (by decide), hv.fixed 34 (by decide), hv.fixed 35 (by decide), hv.fixed 48 (by decide), hv.fixed 49 (by decide), hv.fixed 50 (by decide), hv.fixed 51 (by decide), hv.fixed 52 (by decide), hv.fixed 53 (by decide), hv.fixed 54 (by decide), hv.fixed 55 (by decide), hv.fixed 56 (by decide), hv.fixed 57 (by decide), hv.fixed 58 (by decide), hv.fixed 59 (by decide), hv.fixed 60 (by decide), hv.get 12 (d := 10) rfl rfl (hall 12 (by decide))] at ha
    rw [ha]
    exact hK _ _ _ _ _ _ _ _ _ _ _ _ wc HO.out.1
end Go.Proofs.YtenafgphaceidaaDoor

/- THE LEAST OF ALL LISTS OF HOPS, in plain terms: what the specification of layer 19 works out is what Least returns. -/
namespace Su
/-- The lesser of two costs, where a negative one is none. -/
def best2 (b x : Int) : Int := if 0 ≤ x ∧ (b < 0 ∨ x < b) then x else b
theorem best2_yes {b x : Int} (h : 0 ≤ x) (h2 : b < 0 ∨ x < b) : best2 b x = x := if_pos ⟨h, h2⟩
theorem best2_neg {b x : Int} (h : x < 0) : best2 b x = b := if_neg (by omega)
theorem best2_no {b x : Int} (h : ¬ (b < 0 ∨ x < b)) : best2 b x = b := if_neg fun e => h e.2
def foldTo (f : Nat → Int) (b : Int) : Nat → Int
  | 0 => b
  | j + 1 => best2 (foldTo f b j) (f j)
theorem foldTo_zero (f : Nat → Int) (b : Int) : foldTo f b 0 = b := rfl
theorem foldTo_succ (f : Nat → Int) (b : Int) (j : Nat) : foldTo f b (j + 1) = best2 (foldTo f b j) (f j) := rfl
theorem foldTo_b {f : Nat → Int} {b : Int} (hb : 0 ≤ b) : ∀ j, 0 ≤ foldTo f b j ∧ foldTo f b j ≤ b
  | 0 => ⟨hb, Int.le_refl _⟩
  | j + 1 => by
    have ih := foldTo_b hb (f := f) j
    rw [foldTo_succ, best2]
    split <;> omega
theorem foldTo_i {f : Nat → Int} {b : Int} {i : Nat} (hi : 0 ≤ f i) : ∀ j, i < j → 0 ≤ foldTo f b j ∧ foldTo f b j ≤ f i
  | 0, h => absurd h (by omega)
  | j + 1, h => by
    rw [foldTo_succ, best2]
    by_cases e : i = j
    · subst e
      split <;> omega
    · have ih := foldTo_i hi (b := b) j (by omega)
      split <;> omega
theorem foldTo_from {f : Nat → Int} {b : Int} : ∀ j, 0 ≤ foldTo f b j → foldTo f b j = b ∨ ∃ i, i < j ∧ foldTo f b j = f i
  | 0, _ => .inl rfl
  | j + 1, h => by
    rw [foldTo_succ, best2] at h ⊢
    split
    · exact .inr ⟨j, by omega, rfl⟩
    · rename_i hn
      rw [if_neg hn] at h
      rcases foldTo_from j h with e | ⟨i, hi, e⟩
      · exact .inl e
      · exact .inr ⟨i, by omega, e⟩
theorem foldTo_lo {f : Nat → Int} {b : Int} (hb : -1 ≤ b) (hf : ∀ i, -1 ≤ f i) : ∀ j, -1 ≤ foldTo f b j
  | 0 => hb
  | j + 1 => by
    have ih := foldTo_lo hb hf j
    have := hf j
    rw [foldTo_succ, best2]
    split <;> omega
theorem foldTo_hi {f : Nat → Int} {b M : Int} (hb : b ≤ M) (hf : ∀ i, f i ≤ M) : ∀ j, foldTo f b j ≤ M
  | 0 => hb
  | j + 1 => by
    have ih := foldTo_hi hb hf j
    have := hf j
    rw [foldTo_succ, best2]
    split <;> omega
/-- The cost of a valid tree, -1 for another list. -/
def ans (h : Ha) (l : List (Int × Int)) : Int := if (cost h l).2 = 0 then (cost h l).1 else -1
theorem ans_no {h : Ha} {l : List (Int × Int)} (e : (cost h l).2 ≠ 0) : ans h l = -1 := if_neg e
theorem ans_yes {h : Ha} {l : List (Int × Int)} (e : (cost h l).2 = 0) : ans h l = (cost h l).1 := if_pos e
/-- The least cost of all valid trees that go on from a list with hops of the last k houses. -/
def brute (h : Ha) : Nat → List (Int × Int) → Int
  | 0, l => ans h l
  | k + 1, l => foldTo (fun q => brute h k (l ++ [(((h.pr.length - (k + 1) : Nat) : Int), (q : Int))])) (brute h k l) h.pr.length
theorem brute_zero (h : Ha) (l : List (Int × Int)) : brute h 0 l = ans h l := rfl
theorem brute_succ (h : Ha) (k : Nat) (l : List (Int × Int)) : brute h (k + 1) l = foldTo (fun q => brute h k (l ++ [(((h.pr.length - (k + 1) : Nat) : Int), (q : Int))])) (brute h k l) h.pr.length := rfl
theorem cost_zero_iff {h : Ha} (hc : check h = 0) {l : List (Int × Int)} : (cost h l).2 = 0 ↔ valid h l = true := by
  cases hv : valid h l with
  | false => rw [cost_bad hc hv]; simp
  | true => rw [cost_ok hv]; simp
theorem ans_bounds {h : Ha} (hc : check h = 0) (l : List (Int × Int)) : -1 ≤ ans h l ∧ ans h l ≤ 1000000000 := by
  by_cases e : (cost h l).2 = 0
  · rw [ans_yes e]
    have hv := (cost_zero_iff hc).1 e
    rw [cost_ok hv]
    have := cost_bounds hv l.length (Nat.le_refl _)
    have h1 := hops_few (valid_iff.1 hv).2.1
    have h2 := (ok_of hc).few
    show -1 ≤ costTo h l l.length ∧ costTo h l l.length ≤ _
    omega
  · rw [ans_no e]; omega
theorem brute_bounds {h : Ha} (hc : check h = 0) : ∀ k l, -1 ≤ brute h k l ∧ brute h k l ≤ 1000000000
  | 0, l => ans_bounds hc l
  | k + 1, l => by
    rw [brute_succ]
    exact ⟨foldTo_lo (brute_bounds hc k l).1 (fun i => (brute_bounds hc k _).1) _, foldTo_hi (brute_bounds hc k l).2 (fun i => (brute_bounds hc k _).2) _⟩
theorem brute_from {h : Ha} (hc : check h = 0) : ∀ k l, 0 ≤ brute h k l → ∃ l', valid h l' = true ∧ costTo h l' l'.length = brute h k l
  | 0, l, hb => by
    rw [brute_zero] at hb ⊢
    by_cases e : (cost h l).2 = 0
    · have hv := (cost_zero_iff hc).1 e
      exact ⟨l, hv, by rw [ans_yes e, cost_ok hv]⟩
    · rw [ans_no e] at hb; omega
  | k + 1, l, hb => by
    rw [brute_succ] at hb ⊢
    rcases foldTo_from _ hb with e | ⟨i, _, e⟩
    · rw [e] at hb ⊢
      exact brute_from hc k l hb
    · rw [e] at hb ⊢
      exact brute_from hc k _ hb
theorem brute_le {h : Ha} (hc : check h = 0) : ∀ (k : Nat), k ≤ h.pr.length → ∀ l l' : List (Int × Int), (∀ x ∈ l', ((h.pr.length - k : Nat) : Int) ≤ x.1 ∧ x.1 < (h.pr.length : Int) ∧ 0 ≤ x.2 ∧ x.2 < (h.pr.length : Int)) →
    l'.Pairwise (fun x y => x.1 < y.1) → valid h (l ++ l') = true → 0 ≤ brute h k l ∧ brute h k l ≤ costTo h (l ++ l') (l ++ l').length
  | 0, _, l, l', hr, hp, hv => by
    cases l' with
    | nil =>
      rw [List.append_nil] at hv ⊢
      rw [brute_zero, ans_yes ((cost_zero_iff hc).2 hv), cost_ok hv]
      exact ⟨(cost_bounds hv _ (Nat.le_refl _)).1, Int.le_refl _⟩
    | cons x t =>
      have := hr x List.mem_cons_self
      omega
  | k + 1, hk, l, l', hr, hp, hv => by
    rw [brute_succ]
    have skip : (∀ x ∈ l', ((h.pr.length - k : Nat) : Int) ≤ x.1) → 0 ≤ foldTo (fun q => brute h k (l ++ [(((h.pr.length - (k + 1) : Nat) : Int), (q : Int))])) (brute h k l) h.pr.length ∧ foldTo (fun q => brute h k (l ++ [(((h.pr.length - (k + 1) : Nat) : Int), (q : Int))])) (brute h k l) h.pr.length ≤ costTo h (l ++ l') (l ++ l').length := fun hs => by
      have ih := brute_le hc k (by omega) l l' (fun x hx => ⟨hs x hx, (hr x hx).2⟩) hp hv
      have := foldTo_b ih.1 (f := fun q => brute h k (l ++ [(((h.pr.length - (k + 1) : Nat) : Int), (q : Int))])) h.pr.length
      omega
    cases l' with
    | nil => exact skip (fun x hx => by cases hx)
    | cons x t =>
      have hx := hr x List.mem_cons_self
      rw [List.pairwise_cons] at hp
      by_cases e : x.1 = ((h.pr.length - (k + 1) : Nat) : Int)
      · have hto : ((x.2.toNat : Nat) : Int) = x.2 := by omega
        have hlist : l ++ x :: t = (l ++ [(((h.pr.length - (k + 1) : Nat) : Int), ((x.2.toNat : Nat) : Int))]) ++ t := by
          rw [← e, hto]; simp
        rw [hlist] at hv ⊢
        have ih := brute_le hc k (by omega) _ t (fun y hy => ⟨by have := hp.1 y hy; omega, (hr y (List.mem_cons_of_mem _ hy)).2⟩) hp.2 hv
        have := foldTo_i (f := fun q => brute h k (l ++ [(((h.pr.length - (k + 1) : Nat) : Int), (q : Int))])) (b := brute h k l) (i := x.2.toNat) ih.1 h.pr.length (by omega)
        omega
      · refine skip fun y hy => ?_
        rcases List.mem_cons.1 hy with rfl | hy
        · omega
        · have := hp.1 y hy
          omega
theorem rise_pair {h : Ha} {l : List (Int × Int)} (ho : hopsOk h l) : l.Pairwise (fun x y => x.1 < y.1) := by
  rw [List.pairwise_iff_getElem]
  intro i j hi hj hij
  have step : ∀ d, i + d + 1 < l.length → (l.getD i (0, 0)).1 < (l.getD (i + d + 1) (0, 0)).1 := fun d => by
    induction d with
    | zero =>
      intro hd
      have := ho (i + 1) hd
      unfold badHop at this
      simp only [Nat.add_sub_cancel] at this
      show _ < (l.getD (i + 1) (0, 0)).1
      omega
    | succ d ih =>
      intro hd
      have h1 := ih (by omega)
      have := ho (i + d + 1 + 1) hd
      unfold badHop at this
      simp only [Nat.add_sub_cancel] at this
      show _ < (l.getD (i + d + 1 + 1) (0, 0)).1
      omega
  have := step (j - i - 1) (by omega)
  rw [show i + (j - i - 1) + 1 = j by omega] at this
  rw [List.getD_eq_getElem?_getD, List.getD_eq_getElem?_getD, List.getElem?_eq_getElem hi, List.getElem?_eq_getElem hj] at this
  exact this
/-- THE LEAST OF ALL LISTS IS WHAT Least RETURNS. -/
theorem brute_least {h : Ha} (hc : check h = 0) : least h = if brute h h.pr.length [] < 0 then (0, 8) else (brute h h.pr.length [], 0) := by
  have all : ∀ l, valid h l = true → 0 ≤ brute h h.pr.length [] ∧ brute h h.pr.length [] ≤ costTo h l l.length := fun l hv => by
    have := brute_le hc h.pr.length (Nat.le_refl _) [] l (fun x hx => by
      obtain ⟨k, hk, rfl⟩ := mem_at hx
      obtain ⟨a, b, _⟩ := hop_fine hv hk
      rw [Nat.sub_self]
      omega) (rise_pair (valid_iff.1 hv).2.1) hv
    exact this
  by_cases he : (least h).2 = 0
  · obtain ⟨f, _, h2, h3⟩ := tree_is_least he
    have h4 := all _ h2
    rw [if_neg (by omega)]
    obtain ⟨l', h5, h6⟩ := brute_from hc _ _ h4.1
    have h7 := least_le h5
    refine Prod.ext ?_ he
    show (least h).1 = brute h h.pr.length []
    omega
  · have h8 : least h = (0, 8) := by
      by_cases hs : senders h = []
      · rw [least_none hc hs] at he; exact absurd rfl he
      · by_cases hl : (last h h.tgt).cost < 0
        · exact least_no hc hs hl
        · rw [least_yes hc hs hl] at he; exact absurd rfl he
    rw [if_pos, h8]
    rcases Int.lt_or_le (brute h h.pr.length []) 0 with h4 | h4
    · exact h4
    · obtain ⟨l', h5, _⟩ := brute_from hc _ _ h4
      exact absurd (least_le h5).1 he
attribute [irreducible] brute ans best2 foldTo
end Su

/- THE WALK over least and Least of the specification of layer 19. -/
namespace Go.Proofs.YtenafgphaceidaaDoor
open Go.RowKit
noncomputable def ql_loop_code : Code := ((Tryd.f36.body.bind (loopOf 10)).getD .skip)
set_option maxRecDepth 1000000 in
set_option maxHeartbeats 16000000 in
theorem ql_loop (W0 wr : World) (n hs : Nat) (l : List (Int × Int)) (fv : Nat → Int) (b0 tg : Int) (LA PA SA : Option Addr) (B cL cP m d : Nat) (hn12 : n ≤ 12) (hh : hs ≤ 100) (HLN : Hid (l.length ≤ 90)) (HX : Hid (Ext W0 wr)) (HB : Hid ((-1 ≤ b0 ∧ b0 ≤ 1000000000) ∧ ∀ q, -1 ≤ fv q ∧ fv q ≤ 1000000000)) (HL : Hid (RL W0 (.slice LA l.length cL) l)) (HBD : Hid (∀ q : Nat, q < n → ∀ y ∈ l ++ [((hs : Int), (q : Int))], r64 y.1 ∧ r64 y.2)) (HD : Hid (W0.cell? ⟨B, 0, none⟩ = some (.slice PA n cP) ∧ W0.cell? ⟨B, 1, none⟩ = some (.slice SA m d) ∧ W0.cell? ⟨B, 2, none⟩ = some (.int .i64 tg)))
    (IH : Hid (∀ q : Nat, q < n → ∀ (w1 : World) (v : Value), Ext W0 w1 → RL w1 v (l ++ [((hs : Int), (q : Int))]) → Calls Tryd.prog 36 #[.agg #[.slice PA n cP, .slice SA m d, .int .i64 tg], v, .int .i64 ((hs : Int) + 1)] w1 fun e w2 => e = .returned (.int .i64 (fv q)) ∧ Ext w1 w2)) (c0 c4 c5 c6 c7 c10 c11 c12 c13 c14 c15 c16 c17 c18 c19 c20 c21 c22 c23 c24 c25 c26 c27 c28 c29 c30 c31 c32 c33 c34 c35 c36 c37 c38 c39 c40 c41 c42 c43 c44 c45 c46 c47 c48 c49 c50 c51 c52 c53 c54 c55 c56 c57 c58 c59 c60 : Value) (df : List Deferred) (Q0 : Exit → Act → World → Prop)
    (hexit : ∀ (u8 u9 u10 u29 u30 u31 u32 u33 u34 u35 u36 u37 u38 u39 u40 u41 u42 u43 u44 u45 u46 u47 u48 u49 u50 u51 u52 u53 u54 u55 u56 u57 u58 u59 : Value) (wx : World), u8 = .int .i64 (Su.foldTo fv b0 n) ∧ Ext W0 wx → Q0 (.exit 0) ⟨#[c0, .slice LA l.length cL, .int .i64 (hs : Int), .pointer (some ⟨B, 0, none⟩), c4, c5, c6, c7, u8, u9, u10, c11, c12, c13, c14, c15, c16, c17, c18, c19, c20, c21, c22, c23, c24, c25, c26, c27, c28, u29, u30, u31, u32, u33, u34, u35, u36, u37, u38, u39, u40, u41, u42, u43, u44, u45, u46, u47, u48, u49, u50, u51, u52, u53, u54, u55, u56, u57, u58, u59, c60], df⟩ wx) :
    Code.wp Tryd.prog ql_loop_code Q0 ⟨#[c0, .slice LA l.length cL, .int .i64 (hs : Int), .pointer (some ⟨B, 0, none⟩), c4, c5, c6, c7, .int .i64 b0, .int .i64 0, c10, c11, c12, c13, c14, c15, c16, c17, c18, c19, c20, c21, c22, c23, c24, c25, c26, c27, c28, c29, c30, c31, c32, c33, c34, c35, c36, c37, c38, c39, c40, c41, c42, c43, c44, c45, c46, c47, c48, c49, c50, c51, c52, c53, c54, c55, c56, c57, c58, c59, c60], df⟩ wr := by
  have HE := Lib.hid hexit
  clear hexit
  conv => arg 2; whnf
  dsimp only
  go_loopw [8, 9] (fun vb vi wr => ∃ q : Nat, q ≤ n ∧ vi = .int .i64 q ∧ vb = .int .i64 (Su.foldTo fv b0 q) ∧ Hid (Ext W0 wr)) (fun _ vi _ => n - (intOf vi).toNat)
  case atStart => exact ⟨0, Nat.zero_le _, rfl, by rw [Su.foldTo_zero], HX⟩
  case round =>
    obtain ⟨q, hq, rfl, rfl, HI⟩ := hrel
    have d0 : wr.cell? ⟨B, 0, none⟩ = some (.slice PA n cP) := HI.out.cell HD.out.1
    have hq12 : q ≤ 12 := by omega
    by_cases hlt : q < n
    · obtain ⟨x, hfv⟩ : ∃ x, fv q = x := ⟨_, rfl⟩
      have hxb : -1 ≤ x ∧ x ≤ 1000000000 := by rw [← hfv]; exact HB.out.2 q
      obtain ⟨Z, hZ⟩ : ∃ Z, Su.foldTo fv b0 q = Z := ⟨_, rfl⟩
      have hZb : -1 ≤ Z ∧ Z ≤ 1000000000 := by rw [← hZ]; exact ⟨Su.foldTo_lo HB.out.1.1 (fun i => (HB.out.2 i).1) q, Su.foldTo_hi HB.out.1.2 (fun i => (HB.out.2 i).2) q⟩
      have HZ := Lib.hid hZ
      have HFV := Lib.hid hfv
      rw [hZ]
      have HC := Lib.hid (IH.out q hlt)
      rw [hfv] at HC
      clear hZ hfv
      go_wp2_with fail
      refine wp_atEnd' (ql_try wr B l.length cL hs q LA (.slice PA n cP) (.slice SA m d) tg x l rfl HLN.out hh (HI.out.cell HD.out.1) (HI.out.cell HD.out.2.1) (HI.out.cell HD.out.2.2) (Lib.hid (RL.ext _ _ _ _ HI.out HL.out)) (HBD.out q hlt) (Lib.hid fun w1 v hx1 hr1 => HC.out w1 v (HI.out.trans hx1) hr1) _ _ _ _ _ _ _ _ _ _ _ _ _ _ _ _ _ _ _ _ _ _ _ _ _ _ _ _ _ _ _ _ _ _ _ _ _ _ _ _ _ _ _ _ _ _ _ _ _ _ _ _ _ _ _ _ _ _ _ ?_)
      intro u36 u37 u38 u39 u40 u41 u42 u43 u44 u45 u46 u47 wx hx
      have HX2 := Lib.hid hx
      clear hx d0
      have d0 : wx.cell? ⟨B, 0, none⟩ = some (.slice PA n cP) := HX2.out.cell (HI.out.cell HD.out.1)
      by_cases hx0 : 0 ≤ x
      · by_cases hz0 : Z < 0
        · have HBE : Hid (Su.best2 Z (fv q) = x) := Lib.hid (by rw [HFV.out]; exact Su.best2_yes hx0 (.inl hz0))
          go_wp2_with fail
          clear d0
          go_roundw
          case rel => exact ⟨q + 1, by omega, by go_num, by rw [Su.foldTo_succ, HZ.out, HBE.out], Lib.hid (HI.out.trans HX2.out)⟩
          case measure => simp [intOf]; omega
        · by_cases hxz : x < Z
          · have HBE : Hid (Su.best2 Z (fv q) = x) := Lib.hid (by rw [HFV.out]; exact Su.best2_yes hx0 (.inr hxz))
            go_wp2_with fail
            clear d0
            go_roundw
            case rel => exact ⟨q + 1, by omega, by go_num, by rw [Su.foldTo_succ, HZ.out, HBE.out], Lib.hid (HI.out.trans HX2.out)⟩
            case measure => simp [intOf]; omega
          · have HBE : Hid (Su.best2 Z (fv q) = Z) := Lib.hid (by rw [HFV.out]; exact Su.best2_no (by omega))
            go_wp2_with fail
            clear d0
            go_roundw
            case rel => exact ⟨q + 1, by omega, by go_num, by rw [Su.foldTo_succ, HZ.out, HBE.out], Lib.hid (HI.out.trans HX2.out)⟩
            case measure => simp [intOf]; omega
      · have hx1 : x < 0 := by omega
        have HBE : Hid (Su.best2 Z (fv q) = Z) := Lib.hid (by rw [HFV.out]; exact Su.best2_neg hx1)
        go_wp2_with fail
        clear d0
        go_roundw
        case rel => exact ⟨q + 1, by omega, by go_num, by rw [Su.foldTo_succ, HZ.out, HBE.out], Lib.hid (HI.out.trans HX2.out)⟩
        case measure => simp [intOf]; omega
    · obtain rfl : q = n := by omega
      go_wp2_with fail
      exact HE.out _ _ _ _ _ _ _ _ _ _ _ _ _ _ _ _ _ _ _ _ _ _ _ _ _ _ _ _ _ _ _ _ _ _ wr ⟨rfl, HI.out⟩

set_option maxHeartbeats 4000000 in
set_option maxRecDepth 100000 in
theorem qleast_any (h : Su.Ha) (n : Nat) (hc0 : Su.check h = 0) (hn : h.pr.length = n) : ∀ (k : Nat) (l : List (Int × Int)) (v u : Value) (w : World), k ≤ n → l.length + k ≤ n → (∀ y ∈ l, r64 y.1 ∧ r64 y.2) → RH w v h → RL w u l →
    Calls Tryd.prog 36 #[v, u, .int .i64 ((n - k : Nat) : Int)] w fun e w' => e = .returned (.int .i64 (Su.brute h k l)) ∧ Ext w w'
  | 0, l, v, u, w, hk, hlk, hb, hv, hu => by
    have hn12 : n ≤ 12 := by have := (Su.ok_of hc0).few; omega
    have hvv := hv
    obtain ⟨PA, SA, c, d, rfl, hG, hS, hl1, hl2, hb1, hb2⟩ := hv.open
    obtain ⟨LA, cL, rfl, hl3⟩ := hu.form
    rw [hn] at hvv hG hl1 ⊢
    have hx0 := (Ext.refl w).alloc (.cells #[.slice PA n c, .slice SA h.src.length d, .int .i64 h.tgt] 25)
    have HX0 := Lib.hid hx0
    have HV := Lib.hid (RH.ext _ _ _ _ hx0 hvv)
    have HL := Lib.hid (RL.ext _ _ _ _ hx0 hu)
    have HC0 := Lib.hid hc0
    rw [Su.brute_zero, Nat.sub_zero]
    obtain ⟨CN, hCN⟩ : ∃ CN, (Su.cost h l).1 = CN := ⟨_, rfl⟩
    obtain ⟨CE, hCE⟩ : ∃ CE, (Su.cost h l).2 = CE := ⟨_, rfl⟩
    have hyes := fun e => Su.ans_yes (h := h) (l := l) e
    have hno := fun e => Su.ans_no (h := h) (l := l) e
    rw [hCN, hCE] at hyes
    rw [hCE] at hno
    have HCE := Lib.hid (And.intro hCN hCE)
    clear hv hvv hu hG hS hx0 hc0 hCN hCE hn hb
    by_cases hce : CE = 0
    · subst hce
      have HA := Lib.hid (hyes rfl)
      clear hyes hno
      go_enter Tryd.func36, Tryd.ntmps36
      go_wp2_with fail
      refine (qCost_any h l _ _ _ HV.out HL.out).mono ?_
      rintro ee w1 ⟨rfl, hx1⟩
      rw [HCE.out.1, HCE.out.2]
      have HX1 := Lib.hid ((HX0.out.trans hx1).alloc (.cells #[.int .i64 CN, .int .i64 0] 32))
      clear hx1
      go_wp2_with fail
      go_ret
      exact ⟨by rw [HA.out]; rfl, HX1.out⟩
    · have HA := Lib.hid (hno hce)
      have e1 : (CE != 0) = true := by rw [bne_iff_ne]; exact hce
      clear hyes hno hce
      go_enter Tryd.func36, Tryd.ntmps36
      go_wp2_with fail
      refine (qCost_any h l _ _ _ HV.out HL.out).mono ?_
      rintro ee w1 ⟨rfl, hx1⟩
      rw [HCE.out.1, HCE.out.2]
      have HX1 := Lib.hid ((HX0.out.trans hx1).alloc (.cells #[.int .i64 CN, .int .i64 CE] 32))
      clear hx1
      go_wp2_with fail
      go_ret
      exact ⟨by rw [HA.out]; rfl, HX1.out⟩
  | k + 1, l, v, u, w, hk, hlk, hb, hv, hu => by
    have IH := Lib.hid (qleast_any h n hc0 hn k)
    have hn12 : n ≤ 12 := by have := (Su.ok_of hc0).few; omega
    have hvv := hv
    obtain ⟨PA, SA, c, d, rfl, hG, hS, hl1, hl2, hb1, hb2⟩ := hv.open
    obtain ⟨LA, cL, rfl, hl3⟩ := hu.form
    rw [hn] at hvv hG hl1 ⊢
    have hx0 := (Ext.refl w).alloc (.cells #[.slice PA n c, .slice SA h.src.length d, .int .i64 h.tgt] 25)
    have HX0 := Lib.hid hx0
    have HV := Lib.hid (RH.ext _ _ _ _ hx0 hvv)
    have HL := Lib.hid (RL.ext _ _ _ _ hx0 hu)
    have HB := Lib.hid hb
    obtain ⟨hs, hhs⟩ : ∃ hs, n - (k + 1) = hs := ⟨_, rfl⟩
    have hs1 : n - k = hs + 1 := by omega
    have hsn : hs < n := by omega
    rw [hhs]
    have hbs := Su.brute_succ h k l
    rw [hn, hhs] at hbs
    rw [hs1] at IH
    have HBS := Lib.hid hbs
    have HBB := Lib.hid (fun l => Su.brute_bounds hc0 k l)
    have e0 : (w.alloc (.cells #[.slice PA n c, .slice SA h.src.length d, .int .i64 h.tgt] 25)).cell? ⟨w.heap.size, 0, none⟩ = some (.slice PA n c) := by go_simp
    have e1 : (w.alloc (.cells #[.slice PA n c, .slice SA h.src.length d, .int .i64 h.tgt] 25)).cell? ⟨w.heap.size, 1, none⟩ = some (.slice SA h.src.length d) := by go_simp
    have e2 : (w.alloc (.cells #[.slice PA n c, .slice SA h.src.length d, .int .i64 h.tgt] 25)).cell? ⟨w.heap.size, 2, none⟩ = some (.int .i64 h.tgt) := by go_simp
    have HEC := Lib.hid (And.intro e0 (And.intro e1 e2))
    have hne : ¬ hs = n := by omega
    have hlk2 : l.length ≤ 90 := by omega
    have HLK := Lib.hid hlk
    clear hv hvv hu hG hS hx0 hc0 hn hhs hs1 hb hbs e0 e1 e2
    go_enter Tryd.func36, Tryd.ntmps36
    go_wp2_with fail
    refine (IH.out l _ _ _ (by omega) (by have := HLK.out; omega) HB.out HV.out HL.out).mono ?_
    rintro ee w1 ⟨rfl, hx1⟩
    have HX1 := Lib.hid hx1
    clear hx1
    go_wp2_with fail
    refine ql_loop (w.alloc (.cells #[.slice PA n c, .slice SA h.src.length d, .int .i64 h.tgt] 25)) _ n hs l (fun q => Su.brute h k (l ++ [((hs : Int), (q : Int))])) (Su.brute h k l) h.tgt LA PA SA w.heap.size cL c h.src.length d hn12 (by omega) (Lib.hid hlk2) HX1 (Lib.hid ⟨HBB.out l, fun q => HBB.out _⟩) HL (Lib.hid ?bd) HEC (Lib.hid ?ih) _ _ _ _ _ _ _ _ _ _ _ _ _ _ _ _ _ _ _ _ _ _ _ _ _ _ _ _ _ _ _ _ _ _ _ _ _ _ _ _ _ _ _ _ _ _ _ _ _ _ _ _ _ _ _ _ _ _ ?_
    case bd =>
      intro q hq y hy
      rcases List.mem_append.1 hy with hy | hy
      · exact HB.out y hy
      · rw [List.mem_singleton.1 hy]
        unfold r64
        simp only
        omega
    case ih =>
      intro q hq w2 v2 hx2 hr2
      have := IH.out (l ++ [((hs : Int), (q : Int))]) _ v2 w2 (by omega) (by simp only [List.length_append, List.length_singleton]; have := HLK.out; omega) ?bd2 (RH.ext _ _ _ _ hx2 HV.out) hr2
      · exact this
      · intro y hy
        rcases List.mem_append.1 hy with hy | hy
        · exact HB.out y hy
        · rw [List.mem_singleton.1 hy]
          unfold r64
          simp only
          omega
    rintro u8 u9 u10 u29 u30 u31 u32 u33 u34 u35 u36 u37 u38 u39 u40 u41 u42 u43 u44 u45 u46 u47 u48 u49 u50 u51 u52 u53 u54 u55 u56 u57 u58 u59 wx ⟨rfl, hx⟩
    have HX2 := Lib.hid (HX0.out.trans hx)
    clear hx
    go_wp2_with fail
    go_ret
    exact ⟨by rw [HBS.out]; rfl, HX2.out⟩
set_option maxHeartbeats 4000000 in
set_option maxRecDepth 100000 in
theorem qLeast_any (h : Su.Ha) (v : Value) (w : World) (hv : RH w v h) :
    Calls Tryd.prog 17 #[v] w fun e w' => e = .returned (.agg #[.int .i64 (Su.least h).1, .int .i64 (Su.least h).2]) ∧ Ext w w' := by
  have hvv := hv
  obtain ⟨A, SA, c, d, rfl, hG, hS, hl1, hl2, hb1, hb2⟩ := hv.open
  have hx0 := (Ext.refl w).alloc (.cells #[.slice A h.pr.length c, .slice SA h.src.length d, .int .i64 h.tgt] 25)
  have HX0 := Lib.hid hx0
  obtain ⟨n, hn⟩ : ∃ n, h.pr.length = n := ⟨_, rfl⟩
  rw [hn] at HX0 hx0 hl1 hvv ⊢
  have HO := Lib.hid (box_new (W := (w.alloc (.cells #[.slice A n c, .slice SA h.src.length d, .int .i64 h.tgt] 25))) #[.int .i64 0, .int .i64 0] 32 (by simp [maxLen]) (w.heap.size + 1) (by simp))
  have hx1 := hx0.alloc (.cells #[.int .i64 0, .int .i64 0] 32)
  have HX1 := Lib.hid hx1
  have HV := Lib.hid (RH.ext _ _ _ _ hx1 hvv)
  have HN := Lib.hid hn
  clear hv hvv hG hS hx0 hn hx1
  by_cases h0 : Su.check h = 0
  case neg =>
    have e1 : (Su.check h != 0) = true := by rw [bne_iff_ne]; exact h0
    have HC := Lib.hid (Su.least_err h0)
    clear h0
    go_enter Tryd.func17, Tryd.ntmps17
    go_wp2_with fail
    refine (qCheck_any h _ _ HV.out).mono ?_
    rintro ee w1 ⟨rfl, hx1⟩
    have HO1 := Lib.hid (HO.out.next hx1)
    clear hx1
    have hc3 : w1.cell? ⟨w.heap.size + 1, 0, none⟩ = some (.int .i64 0) := HO1.out.cell 0 rfl 0 rfl
    have hc4 : w1.cell? ⟨w.heap.size + 1, 1, none⟩ = some (.int .i64 0) := HO1.out.cell 0 rfl 1 rfl
    have hf3 : w1.frozen? ⟨w.heap.size + 1, 0, none⟩ = false := HO1.out.frozen 0 rfl 0
    have hf4 : w1.frozen? ⟨w.heap.size + 1, 1, none⟩ = false := HO1.out.frozen 0 rfl 1
    go_wp2_with fail
    have hO7 := (HO1.out.store 0 rfl 0 (.int .i64 (0))).store 0 rfl 1 (.int .i64 (Su.check h))
    exact bodyPost_ret (v := .agg #[.int .i64 (0), .int .i64 (Su.check h)]) (by simp [results, Tryd.results17, go_sem, hc3, hc4]) rfl ⟨by rw [HC.out], HX0.out.trans hO7.ext⟩
  case pos =>
  have e1 : (Su.check h != 0) = false := by rw [h0]; rfl
  have HH0 := Lib.hid h0
  have hbl := Su.brute_least h0
  rw [HN.out] at hbl
  clear h0
  go_enter Tryd.func17, Tryd.ntmps17
  go_wp2_with fail
  refine (qCheck_any h _ _ HV.out).mono ?_
  rintro ee w1 ⟨rfl, hx1⟩
  have HXa := Lib.hid hx1
  have d0 : w1.cell? ⟨w.heap.size, 0, none⟩ = some (.slice A n c) := hx1.cell (by go_simp)
  have d1 : w1.cell? ⟨w.heap.size, 1, none⟩ = some (.slice SA h.src.length d) := hx1.cell (by go_simp)
  have d2 : w1.cell? ⟨w.heap.size, 2, none⟩ = some (.int .i64 h.tgt) := hx1.cell (by go_simp)
  have HBL := Lib.hid hbl
  clear hx1 hbl
  go_wp2_with fail
  clear d0 d1 d2 e1
  refine (show Calls Tryd.prog 36 #[.agg #[.slice A n c, .slice SA h.src.length d, .int .i64 h.tgt], .slice none 0 0, .int .i64 0] w1 fun e w' => e = .returned (.int .i64 (Su.brute h n [])) ∧ Ext w1 w' from ?lst).mono ?_
  case lst =>
    have := qleast_any h n HH0.out HN.out n [] _ (.slice none 0 0) w1 (Nat.le_refl _) (by simp) (fun y hy => by cases hy) (RH.ext _ _ _ _ HXa.out HV.out) ⟨none, 0, rfl, by simp, fun i x hi => by simp at hi⟩
    rw [Nat.sub_self] at this
    exact this
  rintro ee w2 ⟨rfl, hx2⟩
  have HO1 := Lib.hid (HO.out.next (HXa.out.trans hx2))
  have hbl := HBL.out
  obtain ⟨Z, hZ⟩ : ∃ Z, Su.brute h n [] = Z := ⟨_, rfl⟩
  rw [hZ] at hbl ⊢
  clear hx2 hZ
  by_cases hz : Z < 0
  · rw [if_pos hz] at hbl
    have HC := Lib.hid hbl
    clear hbl
    have hc3 : w2.cell? ⟨w.heap.size + 1, 0, none⟩ = some (.int .i64 0) := HO1.out.cell 0 rfl 0 rfl
    have hc4 : w2.cell? ⟨w.heap.size + 1, 1, none⟩ = some (.int .i64 0) := HO1.out.cell 0 rfl 1 rfl
    have hf3 : w2.frozen? ⟨w.heap.size + 1, 0, none⟩ = false := HO1.out.frozen 0 rfl 0
    have hf4 : w2.frozen? ⟨w.heap.size + 1, 1, none⟩ = false := HO1.out.frozen 0 rfl 1
    go_wp2_with fail
    have hO7 := (HO1.out.store 0 rfl 0 (.int .i64 (0))).store 0 rfl 1 (.int .i64 (8))
    exact bodyPost_ret (v := .agg #[.int .i64 (0), .int .i64 (8)]) (by simp [results, Tryd.results17, go_sem, hc3, hc4]) rfl ⟨by rw [HC.out], HX0.out.trans hO7.ext⟩
  · rw [if_neg hz] at hbl
    have HC := Lib.hid hbl
    clear hbl
    have hc3 : w2.cell? ⟨w.heap.size + 1, 0, none⟩ = some (.int .i64 0) := HO1.out.cell 0 rfl 0 rfl
    have hc4 : w2.cell? ⟨w.heap.size + 1, 1, none⟩ = some (.int .i64 0) := HO1.out.cell 0 rfl 1 rfl
    have hf3 : w2.frozen? ⟨w.heap.size + 1, 0, none⟩ = false := HO1.out.frozen 0 rfl 0
    have hf4 : w2.frozen? ⟨w.heap.size + 1, 1, none⟩ = false := HO1.out.frozen 0 rfl 1
    go_wp2_with fail
    have hO7 := (HO1.out.store 0 rfl 0 (.int .i64 (Z))).store 0 rfl 1 (.int .i64 (0))
    exact bodyPost_ret (v := .agg #[.int .i64 (Z), .int .i64 (0)]) (by simp [results, Tryd.results17, go_sem, hc3, hc4]) rfl ⟨by rw [HC.out], HX0.out.trans hO7.ext⟩
end Go.Proofs.YtenafgphaceidaaDoor

/- The law SumsTreesAreLeast from the copies of the haul on. -/
namespace Su
theorem tree_whole {h : Ha} (he : (least h).2 = 0) : ∃ f U, (senders h ≠ [] → ∃ V, walkF (2 ^ (senders h).length) (ways h) f (2 ^ (senders h).length - 1) h.tgt.toNat [] = some V) ∧ tree f h = (U, 0) ∧ cost h U = ((least h).1, 0) := by
  obtain ⟨f, h1, h2, h3⟩ := tree_is_least he
  have ht := tree_ok (fuel := f) he
  refine ⟨f, _, h1, ht, ?_⟩
  rw [ht] at h2 h3
  rw [cost_ok h2, h3]
end Su
namespace Go.Proofs.YtenafgphaceidaaDoor
open Go.RowKit
open Go.Maps (Keyed)
open Go.WideMaps Go.ChangeMaps Go.MapKept Go.WideShapes
end Go.Proofs.YtenafgphaceidaaDoor

/- THE WALK over the law SumsAreAsSpecified. -/
namespace Su
theorem tree_spec (h : Ha) : ∃ f U, ((least h).2 = 0 → senders h ≠ [] → ∃ V, walkF (2 ^ (senders h).length) (ways h) f (2 ^ (senders h).length - 1) h.tgt.toNat [] = some V) ∧ tree f h = (U, (least h).2) ∧ ((least h).2 ≠ 0 → U = []) := by
  by_cases he : (least h).2 = 0
  · obtain ⟨f, U, h1, h2, _⟩ := tree_whole he
    exact ⟨f, U, fun _ => h1, by rw [h2, he], fun e => absurd he e⟩
  · exact ⟨0, [], fun e => absurd e he, tree_err he, fun _ => rfl⟩
end Su
namespace Go.Proofs.YtenafgphaceidaaDoor
open Go.RowKit
theorem ent_ucheck : ∀ args w, (callFunc 13 args).run Tryd.prog w = .ok (.enter 13 args) w := enters_of Tryd.func13 (by kernel_rfl) rfl
theorem ent_uvalid : ∀ args w, (callFunc 14 args).run Tryd.prog w = .ok (.enter 14 args) w := enters_of Tryd.func14 (by kernel_rfl) rfl
theorem map1q {a : Act} {x : Operand} {u : Value} (h : a.eval x = u) : #[x].map a.eval ++ #[] = #[u] := by simp [h]
theorem map2q {a : Act} {x y : Operand} {u v : Value} (h : a.eval x = u) (h2 : a.eval y = v) : #[x, y].map a.eval ++ #[] = #[u, v] := by simp [h, h2]
noncomputable def sp_cmp_code : Code := ((Tryd.f3.body.bind (regionOf 7)).getD .skip)
def sp_cmp_dsts : List (Option Nat) := [some 36, some 37, some 38, some 39, some 40, some 41, some 42, some 43, some 44, some 45, some 46, some 47, some 48, some 49, some 50, some 51, some 52, some 53, some 54, some 55, some 56, some 57, some 58, some 59, some 60]
theorem sp_cmp_apart : apartD sp_cmp_dsts = true := by decide +kernel
set_option maxRecDepth 1000000 in
set_option maxHeartbeats 16000000 in
theorem sp_cmp (wr : World) (B D n c : Nat) (A : Option Addr) (G S : Value) (tg C CN CE : Int) (V : Bool) (h0 : wr.cell? ⟨B, 0, none⟩ = some G) (h1 : wr.cell? ⟨B, 1, none⟩ = some S) (h2 : wr.cell? ⟨B, 2, none⟩ = some (.int .i64 tg)) (w0 : wr.cell? ⟨D, 0, none⟩ = some (.int .i64 CN)) (w1 : wr.cell? ⟨D, 1, none⟩ = some (.int .i64 CE)) (HCV : Hid ((CE == 0) = V)) (HCK : Hid (∀ w1, Ext wr w1 → Calls Tryd.prog 13 #[.agg #[G, S, .int .i64 tg]] w1 fun e w2 => e = .returned (.int .i64 C) ∧ Ext w1 w2)) (HVL : Hid (∀ w1, Ext wr w1 → Calls Tryd.prog 14 #[.agg #[G, S, .int .i64 tg], .slice A n c] w1 fun e w2 => e = .returned (.bool V) ∧ Ext w1 w2)) (c0 c3 c4 c5 c10 c11 c12 c13 c14 c15 c16 c17 c18 c19 c20 c21 c22 c23 c24 c25 c26 c27 c28 c29 c30 c31 c32 c33 c34 c35 c36 c37 c38 c39 c40 c41 c42 c43 c44 c45 c46 c47 c48 c49 c50 c51 c52 c53 c54 c55 c56 c57 c58 c59 c60 c61 c62 c63 c64 c65 c66 c67 c68 c69 c70 c71 c72 c73 c74 c75 c76 c77 c78 c79 c80 c81 c82 c83 c84 c85 c86 c87 c88 c89 c90 c91 c92 c93 c94 c95 c96 c97 c98 c99 c100 c101 c102 c103 c104 c105 c106 c107 c108 c109 : Value) (df : List Deferred) (K : Act → World → Prop)
    (hK : ∀  (u36 u37 u38 u39 u40 u41 u42 u43 u44 u45 u46 u47 u48 u49 u50 u51 u52 u53 u54 u55 u56 u57 u58 u59 : Value) (wx : World), Ext wr wx → K ⟨#[c0, .slice A n c, .pointer (some ⟨B, 0, none⟩), c3, c4, c5, .int .i64 C, .pointer (some ⟨D, 0, none⟩), .int .i64 CN, .int .i64 CE, c10, c11, c12, c13, c14, c15, c16, c17, c18, c19, c20, c21, c22, c23, c24, c25, c26, c27, c28, c29, c30, c31, c32, c33, c34, c35, u36, u37, u38, u39, u40, u41, u42, u43, u44, u45, u46, u47, u48, u49, u50, u51, u52, u53, u54, u55, u56, u57, u58, u59, .bool false, c61, c62, c63, c64, c65, c66, c67, c68, c69, c70, c71, c72, c73, c74, c75, c76, c77, c78, c79, c80, c81, c82, c83, c84, c85, c86, c87, c88, c89, c90, c91, c92, c93, c94, c95, c96, c97, c98, c99, c100, c101, c102, c103, c104, c105, c106, c107, c108, c109], df⟩ wx) :
    Code.wp Tryd.prog sp_cmp_code (AtEnd K) ⟨#[c0, .slice A n c, .pointer (some ⟨B, 0, none⟩), c3, c4, c5, .int .i64 C, .pointer (some ⟨D, 0, none⟩), .int .i64 CN, .int .i64 CE, c10, c11, c12, c13, c14, c15, c16, c17, c18, c19, c20, c21, c22, c23, c24, c25, c26, c27, c28, c29, c30, c31, c32, c33, c34, c35, c36, c37, c38, c39, c40, c41, c42, c43, c44, c45, c46, c47, c48, c49, c50, c51, c52, c53, c54, c55, c56, c57, c58, c59, c60, c61, c62, c63, c64, c65, c66, c67, c68, c69, c70, c71, c72, c73, c74, c75, c76, c77, c78, c79, c80, c81, c82, c83, c84, c85, c86, c87, c88, c89, c90, c91, c92, c93, c94, c95, c96, c97, c98, c99, c100, c101, c102, c103, c104, c105, c106, c107, c108, c109], df⟩ wr := by
  conv => arg 2; whnf
  refine region_inv (by kernel_rfl) [[], [0], [], [1, 2], [3, 1], [4], [4], [5, 6, 4, 4], [4], [8, 4], [9, 4], [7, 10, 4], [4, 11], [12, 7], [13], [13], [15, 13], [14, 16, 13], [13, 17], [18, 13], [19], [19], [21, 19], [20, 22, 19], [19, 23]] (by kernel_rfl) [0, 1, 2, 3, 4, 5, 6, 7, 8, 9, 10, 11, 12, 13, 14, 15, 16, 17, 18, 19, 20, 21, 22, 23, 24] (by decide +kernel) (by decide +kernel) (by decide +kernel) (fun L a wc => InvO sp_cmp_dsts [.agg #[G, S, .int .i64 tg], .int .i64 C, .int .i64 C, .bool false, .bool false, .agg #[G, S, .int .i64 tg], .slice A n c, .bool V, .pointer (some ⟨D, 1, none⟩), .int .i64 CE, .bool V, .bool false, .bool false, .bool false, .int .i64 CN, .pointer (some ⟨D, 0, none⟩), .int .i64 CN, .bool false, .bool false, .bool false, .int .i64 CE, .pointer (some ⟨D, 1, none⟩), .int .i64 CE, .bool false, .bool false] ⟨#[c0, .slice A n c, .pointer (some ⟨B, 0, none⟩), c3, c4, c5, .int .i64 C, .pointer (some ⟨D, 0, none⟩), .int .i64 CN, .int .i64 CE, c10, c11, c12, c13, c14, c15, c16, c17, c18, c19, c20, c21, c22, c23, c24, c25, c26, c27, c28, c29, c30, c31, c32, c33, c34, c35, c36, c37, c38, c39, c40, c41, c42, c43, c44, c45, c46, c47, c48, c49, c50, c51, c52, c53, c54, c55, c56, c57, c58, c59, c60, c61, c62, c63, c64, c65, c66, c67, c68, c69, c70, c71, c72, c73, c74, c75, c76, c77, c78, c79, c80, c81, c82, c83, c84, c85, c86, c87, c88, c89, c90, c91, c92, c93, c94, c95, c96, c97, c98, c99, c100, c101, c102, c103, c104, c105, c106, c107, c108, c109], df⟩ L a ∧ Hid (Ext wr wc)) ⟨InvO.start, Lib.hid ((Ext.refl wr).drew)⟩ ?_ ?_
  · refine ⟨?_, ?_, ?_, ?_, ?_, ?_, ?_, ?_, ?_, ?_, ?_, ?_, ?_, ?_, ?_, ?_, ?_, ?_, ?_, ?_, ?_, ?_, ?_, ?_, ?_, trivial⟩
    · -- 0 load
      rintro L a wc ⟨hv, HO⟩ hL hc hd
      have e0 : wc.cell? ⟨B, 0, none⟩ = some G := HO.out.cell h0
      have e1 : wc.cell? ⟨B, 1, none⟩ = some S := HO.out.cell h1
      have e2 : wc.cell? ⟨B, 2, none⟩ = some (.int .i64 tg) := HO.out.cell h2
      exact wpOp_val rfl rfl (ex_load rfl ((hv.fixed 2 (by decide)).trans rfl) (by go_simp)) ⟨hv.put sp_cmp_apart 0 rfl (Nat.le_of_ble_eq_true rfl) (Nat.le_of_ble_eq_true rfl) rfl, HO⟩
    · -- 1 call
      rintro L a wc ⟨hv, HO⟩ hL hc hd
      refine wpOp_call (R := fun v w1 => v = .int .i64 C ∧ Ext wc w1) rfl rfl (ex_call rfl rfl (map1q (hv.get 0 rfl rfl (hd 0 (by decide)))) (ent_ucheck _ _)) ((HCK.out wc HO.out).mono (fun e w' h => ⟨_, h.1, rfl, h.2⟩)) ?_
      rintro v w' ⟨rfl, hx⟩
      exact ⟨hv.put sp_cmp_apart 1 rfl (Nat.le_of_ble_eq_true rfl) (Nat.le_of_ble_eq_true rfl) rfl, Lib.hid (HO.out.trans hx)⟩
    · -- 2 move
      rintro L a wc ⟨hv, HO⟩ hL hc hd
      exact wpOp_val rfl rfl (ex_move rfl ((hv.fixed 6 (by decide)).trans rfl)) ⟨hv.put sp_cmp_apart 2 rfl (Nat.le_of_ble_eq_true rfl) (Nat.le_of_ble_eq_true rfl) rfl, HO⟩
    · -- 3 bin
      rintro L a wc ⟨hv, HO⟩ hL hc hd
      have h : (C != C) = false := by simp
      exact wpOp_val rfl rfl (ex_bin rfl (hv.get 1 rfl rfl (hd 1 (by decide))) (hv.get 2 rfl rfl (hd 2 (by decide))) (by go_simp)) ⟨hv.put sp_cmp_apart 3 rfl (Nat.le_of_ble_eq_true rfl) (Nat.le_of_ble_eq_true rfl) rfl, HO⟩
    · -- 4 move
      rintro L a wc ⟨hv, HO⟩ hL hc hd
      exact wpOp_val rfl rfl (ex_move rfl (hv.get 3 rfl rfl (hd 3 (by decide)))) ⟨hv.put sp_cmp_apart 4 rfl (Nat.le_of_ble_eq_true rfl) (Nat.le_of_ble_eq_true rfl) rfl, HO⟩
    · -- 5 load
      rintro L a wc ⟨hv, HO⟩ hL hc hd
      have e0 : wc.cell? ⟨B, 0, none⟩ = some G := HO.out.cell h0
      have e1 : wc.cell? ⟨B, 1, none⟩ = some S := HO.out.cell h1
      have e2 : wc.cell? ⟨B, 2, none⟩ = some (.int .i64 tg) := HO.out.cell h2
      exact wpOp_val rfl ((wanted_at rfl rfl (hv.get 4 rfl rfl (hd 4 (by decide)))).trans rfl) (ex_load rfl ((hv.fixed 2 (by decide)).trans rfl) (by go_simp)) ⟨hv.put sp_cmp_apart 5 rfl (Nat.le_of_ble_eq_true rfl) (Nat.le_of_ble_eq_true rfl) rfl, HO⟩
    · -- 6 move
      rintro L a wc ⟨hv, HO⟩ hL hc hd
      exact wpOp_val rfl ((wanted_at rfl rfl (hv.get 4 rfl rfl (hd 4 (by decide)))).trans rfl) (ex_move rfl ((hv.fixed 1 (by decide)).trans rfl)) ⟨hv.put sp_cmp_apart 6 rfl (Nat.le_of_ble_eq_true rfl) (Nat.le_of_ble_eq_true rfl) rfl, HO⟩
    · -- 7 call
      rintro L a wc ⟨hv, HO⟩ hL hc hd
      refine wpOp_callw (R := fun v w1 => v = .bool V ∧ Ext wc w1) rfl ((wanted_at rfl rfl (hv.get 4 rfl rfl (hd 4 (by decide)))).trans rfl) (ex_call rfl rfl (map2q (hv.get 5 rfl rfl (hd 5 (by decide))) (hv.get 6 rfl rfl (hd 6 (by decide)))) (ent_uvalid _ _)) ((HVL.out wc HO.out).mono (fun e w' h => ⟨_, h.1, rfl, h.2⟩)) ?_
      rintro v w' ⟨rfl, hx⟩
      exact ⟨hv.put sp_cmp_apart 7 rfl (Nat.le_of_ble_eq_true rfl) (Nat.le_of_ble_eq_true rfl) rfl, Lib.hid (HO.out.trans hx)⟩
    · -- 8 field
      rintro L a wc ⟨hv, HO⟩ hL hc hd
      exact wpOp_val rfl ((wanted_at rfl rfl (hv.get 4 rfl rfl (hd 4 (by decide)))).trans rfl) (ex_field rfl ((hv.fixed 7 (by decide)).trans rfl) (by go_simp)) ⟨hv.put sp_cmp_apart 8 rfl (Nat.le_of_ble_eq_true rfl) (Nat.le_of_ble_eq_true rfl) rfl, HO⟩
    · -- 9 load
      rintro L a wc ⟨hv, HO⟩ hL hc hd
      have e6 : wc.cell? ⟨D, 1, none⟩ = some (.int .i64 CE) := HO.out.cell w1
      exact wpOp_val rfl ((wanted_at rfl rfl (hv.get 4 rfl rfl (hd 4 (by decide)))).trans rfl) (ex_load rfl (hv.get 8 rfl rfl (hd 8 (by decide))) (by go_simp)) ⟨hv.put sp_cmp_apart 9 rfl (Nat.le_of_ble_eq_true rfl) (Nat.le_of_ble_eq_true rfl) rfl, HO⟩
    · -- 10 bin
      rintro L a wc ⟨hv, HO⟩ hL hc hd
      have h := HCV.out
      exact wpOp_val rfl ((wanted_at rfl rfl (hv.get 4 rfl rfl (hd 4 (by decide)))).trans rfl) (ex_bin rfl (hv.get 9 rfl rfl (hd 9 (by decide))) rfl (by go_simp)) ⟨hv.put sp_cmp_apart 10 rfl (Nat.le_of_ble_eq_true rfl) (Nat.le_of_ble_eq_true rfl) rfl, HO⟩
    · -- 11 bin
      rintro L a wc ⟨hv, HO⟩ hL hc hd
      have h : (V != V) = false := by simp
      exact wpOp_val rfl ((wanted_at rfl rfl (hv.get 4 rfl rfl (hd 4 (by decide)))).trans rfl) (ex_bin rfl (hv.get 7 rfl rfl (hd 7 (by decide))) (hv.get 10 rfl rfl (hd 10 (by decide))) (by go_simp)) ⟨hv.put sp_cmp_apart 11 rfl (Nat.le_of_ble_eq_true rfl) (Nat.le_of_ble_eq_true rfl) rfl, HO⟩
    · -- 12 pick
      rintro L a wc ⟨hv, HO⟩ hL hc hd
      exact wpOp_val rfl rfl (ex_pick rfl (hv.get 4 rfl rfl (hd 4 (by decide))) ((if_neg (by simp)).trans (hv.get 11 rfl rfl (hd 11 (by decide))))) ⟨hv.put sp_cmp_apart 12 rfl (Nat.le_of_ble_eq_true rfl) (Nat.le_of_ble_eq_true rfl) rfl, HO⟩
    · -- 13 move
      rintro L a wc ⟨hv, HO⟩ hL hc hd
      exact wpOp_val rfl rfl (ex_move rfl (hv.get 12 rfl rfl (hd 12 (by decide)))) ⟨hv.put sp_cmp_apart 13 rfl (Nat.le_of_ble_eq_true rfl) (Nat.le_of_ble_eq_true rfl) rfl, HO⟩
    · -- 14 move
      rintro L a wc ⟨hv, HO⟩ hL hc hd
      exact wpOp_val rfl ((wanted_at rfl rfl (hv.get 13 rfl rfl (hd 13 (by decide)))).trans rfl) (ex_move rfl ((hv.fixed 8 (by decide)).trans rfl)) ⟨hv.put sp_cmp_apart 14 rfl (Nat.le_of_ble_eq_true rfl) (Nat.le_of_ble_eq_true rfl) rfl, HO⟩
    · -- 15 field
      rintro L a wc ⟨hv, HO⟩ hL hc hd
      exact wpOp_val rfl ((wanted_at rfl rfl (hv.get 13 rfl rfl (hd 13 (by decide)))).trans rfl) (ex_field rfl ((hv.fixed 7 (by decide)).trans rfl) (by go_simp)) ⟨hv.put sp_cmp_apart 15 rfl (Nat.le_of_ble_eq_true rfl) (Nat.le_of_ble_eq_true rfl) rfl, HO⟩
    · -- 16 load
      rintro L a wc ⟨hv, HO⟩ hL hc hd
      have e5 : wc.cell? ⟨D, 0, none⟩ = some (.int .i64 CN) := HO.out.cell w0
      exact wpOp_val rfl ((wanted_at rfl rfl (hv.get 13 rfl rfl (hd 13 (by decide)))).trans rfl) (ex_load rfl (hv.get 15 rfl rfl (hd 15 (by decide))) (by go_simp)) ⟨hv.put sp_cmp_apart 16 rfl (Nat.le_of_ble_eq_true rfl) (Nat.le_of_ble_eq_true rfl) rfl, HO⟩
    · -- 17 bin
      rintro L a wc ⟨hv, HO⟩ hL hc hd
      have h : (CN != CN) = false := by simp
      exact wpOp_val rfl ((wanted_at rfl rfl (hv.get 13 rfl rfl (hd 13 (by decide)))).trans rfl) (ex_bin rfl (hv.get 14 rfl rfl (hd 14 (by decide))) (hv.get 16 rfl rfl (hd 16 (by decide))) (by go_simp)) ⟨hv.put sp_cmp_apart 17 rfl (Nat.le_of_ble_eq_true rfl) (Nat.le_of_ble_eq_true rfl) rfl, HO⟩
    · -- 18 pick
      rintro L a wc ⟨hv, HO⟩ hL hc hd
      exact wpOp_val rfl rfl (ex_pick rfl (hv.get 13 rfl rfl (hd 13 (by decide))) ((if_neg (by simp)).trans (hv.get 17 rfl rfl (hd 17 (by decide))))) ⟨hv.put sp_cmp_apart 18 rfl (Nat.le_of_ble_eq_true rfl) (Nat.le_of_ble_eq_true rfl) rfl, HO⟩
    · -- 19 move
      rintro L a wc ⟨hv, HO⟩ hL hc hd
      exact wpOp_val rfl rfl (ex_move rfl (hv.get 18 rfl rfl (hd 18 (by decide)))) ⟨hv.put sp_cmp_apart 19 rfl (Nat.le_of_ble_eq_true rfl) (Nat.le_of_ble_eq_true rfl) rfl, HO⟩
    · -- 20 move
      rintro L a wc ⟨hv, HO⟩ hL hc hd
      exact wpOp_val rfl ((wanted_at rfl rfl (hv.get 19 rfl rfl (hd 19 (by decide)))).trans rfl) (ex_move rfl ((hv.fixed 9 (by decide)).trans rfl)) ⟨hv.put sp_cmp_apart 20 rfl (Nat.le_of_ble_eq_true rfl) (Nat.le_of_ble_eq_true rfl) rfl, HO⟩
    · -- 21 field
      rintro L a wc ⟨hv, HO⟩ hL hc hd
      exact wpOp_val rfl ((wanted_at rfl rfl (hv.get 19 rfl rfl (hd 19 (by decide)))).trans rfl) (ex_field rfl ((hv.fixed 7 (by decide)).trans rfl) (by go_simp)) ⟨hv.put sp_cmp_apart 21 rfl (Nat.le_of_ble_eq_true rfl) (Nat.le_of_ble_eq_true rfl) rfl, HO⟩
    · -- 22 load
      rintro L a wc ⟨hv, HO⟩ hL hc hd
      have e6 : wc.cell? ⟨D, 1, none⟩ = some (.int .i64 CE) := HO.out.cell w1
      exact wpOp_val rfl ((wanted_at rfl rfl (hv.get 19 rfl rfl (hd 19 (by decide)))).trans rfl) (ex_load rfl (hv.get 21 rfl rfl (hd 21 (by decide))) (by go_simp)) ⟨hv.put sp_cmp_apart 22 rfl (Nat.le_of_ble_eq_true rfl) (Nat.le_of_ble_eq_true rfl) rfl, HO⟩
    · -- 23 bin
      rintro L a wc ⟨hv, HO⟩ hL hc hd
      have h : (CE != CE) = false := by simp
      exact wpOp_val rfl ((wanted_at rfl rfl (hv.get 19 rfl rfl (hd 19 (by decide)))).trans rfl) (ex_bin rfl (hv.get 20 rfl rfl (hd 20 (by decide))) (hv.get 22 rfl rfl (hd 22 (by decide))) (by go_simp)) ⟨hv.put sp_cmp_apart 23 rfl (Nat.le_of_ble_eq_true rfl) (Nat.le_of_ble_eq_true rfl) rfl, HO⟩
    · -- 24 pick
      rintro L a wc ⟨hv, HO⟩ hL hc hd
      exact wpOp_val rfl rfl (ex_pick rfl (hv.get 19 rfl rfl (hd 19 (by decide))) ((if_neg (by simp)).trans (hv.get 23 rfl rfl (hd 23 (by decide))))) ⟨hv.put sp_cmp_apart 24 rfl (Nat.le_of_ble_eq_true rfl) (Nat.le_of_ble_eq_true rfl) rfl, HO⟩
  · rintro L a wc ⟨hv, HO⟩ hall
    show K a wc
    have ha := act_lit a
    rw [hv.size, hv.defers] at ha
    have hl : ∀ f : Nat → Value, ((List.range (⟨#[c0, .slice A n c, .pointer (some ⟨B, 0, none⟩), c3, c4, c5, .int .i64 C, .pointer (some ⟨D, 0, none⟩), .int .i64 CN, .int .i64 CE, c10, c11, c12, c13, c14, c15, c16, c17, c18, c19, c20, c21, c22, c23, c24, c25, c26, c27, c28, c29, c30, c31, c32, c33, c34, c35, c36, c37, c38, c39, c40, c41, c42, c43, c44, c45, c46, c47, c48, c49, c50, c51, c52, c53, c54, c55, c56, c57, c58, c59, c60, c61, c62, c63, c64, c65, c66, c67, c68, c69, c70, c71, c72, c73, c74, c75, c76, c77, c78, c79, c80, c81, c82, c83, c84, c85, c86, c87, c88, c89, c90, c91, c92, c93, c94, c95, c96, c97, c98, c99, c100, c101, c102, c103, c104, c105, c106, c107, c108, c109], df⟩ : Act).tmps.size).map f).toArray = #[f 0, f 1, f 2, f 3, f 4, f 5, f 6, f 7, f 8, f 9, f 10, f 11, f 12, f 13, f 14, f 15, f 16, f 17, f 18, f 19, f 20, f 21, f 22, f 23, f 24, f 25, f 26, f 27, f 28, f 29, f 30, f 31, f 32, f 33, f 34, f 35, f 36, f 37, f 38, f 39, f 40, f 41, f 42, f 43, f 44, f 45, f 46, f 47, f 48, f 49, f 50, f 51, f 52, f 53, f 54, f 55, f 56, f 57, f 58, f 59, f 60, f 61, f 62, f 63, f 64, f 65, f 66, f 67, f 68, f 69, f 70, f 71, f 72, f 73, f 74, f 75, f 76, f 77, f 78, f 79, f 80, f 81, f 82, f 83, f 84, f 85, f 86, f 87, f 88, f 89, f 90, f 91, f 92, f 93, f 94, f 95, f 96, f 97, f 98, f 99, f 100, f 101, f 102, f 103, f 104, f 105, f 106, f 107, f 108, f 109] := fun _ => rfl
    rw [hl] at ha
    simp only [hv.fixed 0 (by decide), hv.fixed 1 (by decide), hv.fixed 2 (by decide), hv.fixed 3 (by decide), hv.fixed 4 (by decide), hv.fixed 5 (by decide), hv.fixed 6 (by decide), hv.fixed 7 (by decide), hv.fixed 8 (by decide), hv.fixed 9 (by decide), hv.fixed 10 (by decide), hv.fixed 11 (by decide), hv.fixed 12 (by decide), hv.fixed 13 (by decide), hv.fixed 14 (by decide), hv.fixed 15 (by decide), hv.fixed 16 (by decide), hv.fixed 17 (by decide), hv.fixed 18 (by decide), hv.fixed 19 (by decide), hv.fixed 20 (by decide), hv.fixed 21 (by decide), hv.fixed 22 (by decide), hv.fixed 23 (by decide), hv.fixed 24 (by decide), hv.fixed 25 (by decide), hv.fixed 26 (by decide), hv.fixed 27 (by decide), hv.fixed 28 (by decide), hv.fixed 29 (by decide), hv.fixed 30 (by decide), hv.fixed 31 (by decide), hv.fixed 32 (by decide), hv.fixed 33 (by decide), hv.fixed 34 (by decide), hv.fixed 35 (by decide), hv.fixed 61 (by decide), hv.fixed 62 (by decide), hv.fixed 63 (by decide), hv.fixed 64 (by decide), hv.fixed 65 (by decide), hv.fixed 66 (by decide), hv.fixed 67 (by decide), hv.fixed 68 (by decide), hv.fixed 69 (by decide), hv.fixed 70 (by decide), hv.fixed 71 (by decide), hv.fixed 72 (by decide), hv.fixed 73 (by decide), hv.fixed 74 (by decide), hv.fixed 75 (by decide), hv.fixed 76 (by decide), hv.fixed 77 (by decide), hv.fixed 78 (by decide), hv.fixed 79 (by decide), hv.fixed 80 (by decide), hv.fixed 81 (by decide), hv.fixed 82 (by decide), hv.fixed 83 (by decide), hv.fixed 84 (by decide), hv.fixed 85 (by decide), hv.fixed 86 (by decide), hv.fixed 87 (by decide), hv.fixed 88 (by decide), hv.fixed 89 (by decide), hv.fixed 90 (by decide), hv.fixed 91 (by decide), hv.fixed 92 (by decide), hv.fixed 93 (by decide), hv.fixed 94 (by decide), hv.fixed 95 (by decide), hv.fixed 96 (by decide), hv.fixed 97 (by decide), hv.fixed 98 (by decide), hv.fixed 99 (by decide), hv.fixed 100 (by decide), hv.fixed 101 (by decide), hv.fixed 102 (by decide), hv.fixed 103 (by decide), hv.fixed 104 (by decide), hv.fixed 105 (by decide), hv.fixed 106 (by decide), hv.fixed 107 (by decide), hv.fixed 108 (by decide), hv.fixed 109 (by decide), hv.get 24 (d := 60) rfl rfl (hall 24 (by decide))] at ha
    rw [ha]
    exact hK _ _ _ _ _ _ _ _ _ _ _ _ _ _ _ _ _ _ _ _ _ _ _ _ wc HO.out
set_option maxRecDepth 1000000 in
set_option maxHeartbeats 16000000 in
theorem law_spec (h : Su.Ha) (l : List (Int × Int)) (v u : Value) (w : World) (hT : Tab w) (hv : RH w v h) (hu : RL w u l) :
    Calls Tryd.prog 3 #[v, u] w fun e w' => e = .returned (.bool true) ∧ Ext w w' := by
  have hvv := hv
  obtain ⟨A, SA, c, d, rfl, hG, hS, hl1, hl2, hb1, hb2⟩ := hv.open
  have hx0 := (Ext.refl w).alloc (.cells #[.slice A h.pr.length c, .slice SA h.src.length d, .int .i64 h.tgt] 25)
  have HX0 := Lib.hid hx0
  obtain ⟨LA, e, rfl, hl3⟩ := hu.form
  have HV := Lib.hid (RH.ext _ _ _ _ hx0 hvv)
  have HL := Lib.hid (RL.ext _ _ _ _ hx0 hu)
  have HT := Lib.hid (hT.ext hx0)
  clear hv hvv hG hS hx0 hu hT
  go_enter Tryd.func3, Tryd.ntmps3
  go_wp2_with fail
  refine (qFew_any h 14 20 (by decide) _ _ HV.out).mono ?_
  rintro ee w1 ⟨b, rfl, hfew, hx1⟩
  have HFEW := Lib.hid hfew
  have d0 : w1.cell? ⟨w.heap.size, 0, none⟩ = some (.slice A h.pr.length c) := hx1.cell (by go_simp)
  have d1 : w1.cell? ⟨w.heap.size, 1, none⟩ = some (.slice SA h.src.length d) := hx1.cell (by go_simp)
  have d2 : w1.cell? ⟨w.heap.size, 2, none⟩ = some (.int .i64 h.tgt) := hx1.cell (by go_simp)
  have HD := Lib.hid (And.intro d0 (And.intro d1 d2))
  have HX1 := Lib.hid hx1
  clear hx1 hfew
  cases b with
  | false =>
    clear d0 d1 d2
    go_wp2_with fail
    refine (sanity_any _ (HT.out.ext HX1.out)).mono ?_
    rintro ee wz ⟨rfl, hxz⟩
    have HE := Lib.hid ((HX0.out.trans HX1.out).trans hxz)
    clear hxz
    go_wp2_with fail
    go_ret
    exact ⟨rfl, HE.out⟩
  | true =>
  by_cases q1 : 14 < l.length
  · clear d0 d1 d2
    go_wp2_with fail
    refine (sanity_any _ (HT.out.ext HX1.out)).mono ?_
    rintro ee wz ⟨rfl, hxz⟩
    have HE := Lib.hid ((HX0.out.trans HX1.out).trans hxz)
    clear hxz
    go_wp2_with fail
    go_ret
    exact ⟨rfl, HE.out⟩
  go_wp2_with fail
  clear d0 d1 d2
  refine (qCheck_any h _ _ (RH.ext _ _ _ _ HX1.out HV.out)).mono ?_
  rintro ee w2 ⟨rfl, hx2⟩
  have d0 := hx2.cell HD.out.1
  have d1 := hx2.cell HD.out.2.1
  have d2 := hx2.cell HD.out.2.2
  have HX12 := Lib.hid hx2
  have HX2 := Lib.hid (HX1.out.trans hx2)
  clear hx2
  go_wp2_with fail
  clear d0 d1 d2
  refine (qCost_any h l _ _ _ (RH.ext _ _ _ _ HX2.out HV.out) (RL.ext _ _ _ _ HX2.out HL.out)).mono ?_
  rintro ee w3 ⟨rfl, hx3⟩
  obtain ⟨C, hC⟩ : ∃ C, Su.check h = C := ⟨_, rfl⟩
  obtain ⟨CN, hCN⟩ : ∃ CN, (Su.cost h l).1 = CN := ⟨_, rfl⟩
  obtain ⟨CE, hCE⟩ : ∃ CE, (Su.cost h l).2 = CE := ⟨_, rfl⟩
  have hCV : (CE == 0) = Su.valid h l := by
    rw [← hCE]
    by_cases h0 : Su.check h = 0
    · cases hvl : Su.valid h l with
      | false => rw [Su.cost_bad h0 hvl]; rfl
      | true => rw [Su.cost_ok hvl]; rfl
    · rw [Su.cost_err h0, Su.valid_err h0]
      rw [beq_eq_false_iff_ne]; exact h0
  have HCV := Lib.hid hCV
  rw [hC, hCN, hCE]
  have HCC := Lib.hid (And.intro hC (And.intro hCN hCE))
  have hx4 := (HX12.out.trans hx3).alloc (.cells #[.int .i64 CN, .int .i64 CE] 32)
  have hbx := cells_new w3 #[.int .i64 CN, .int .i64 CE] 32
  have HBX := Lib.hid hbx
  have HX14 := Lib.hid hx4
  have HX4 := Lib.hid (HX1.out.trans hx4)
  clear hC hCN hCE hCV hx4 hx3 hbx
  have d0 := HX14.out.cell HD.out.1
  have d1 := HX14.out.cell HD.out.2.1
  have d2 := HX14.out.cell HD.out.2.2
  go_wp2_with fail
  clear d0 d1 d2
  refine (uCost_any h l _ _ _ (RH.ext _ _ _ _ HX4.out HV.out) (RL.ext _ _ _ _ HX4.out HL.out) (fun v w hv hl => uValid_any _ _ v _ w hv hl)).mono ?_
  rintro ee w5 ⟨rfl, hx5⟩
  rw [HCC.out.2.1, HCC.out.2.2]
  have b0 := (HBX.out.ext hx5) 0 _ rfl
  have b1 := (HBX.out.ext hx5) 1 _ rfl
  have HX15 := Lib.hid (HX14.out.trans hx5)
  have HX5 := Lib.hid (HX4.out.trans hx5)
  have d0 := HX15.out.cell HD.out.1
  have d1 := HX15.out.cell HD.out.2.1
  have d2 := HX15.out.cell HD.out.2.2
  clear hx5
  go_wp2_with fail
  refine wp_atEnd' (sp_cmp w5 w.heap.size w3.heap.size l.length e LA (.slice A h.pr.length c) (.slice SA h.src.length d) h.tgt C CN CE (Su.valid h l) d0 d1 d2 b0 b1 HCV (Lib.hid fun w1 hx => ?ck) (Lib.hid fun w1 hx => ?vl) _ _ _ _ _ _ _ _ _ _ _ _ _ _ _ _ _ _ _ _ _ _ _ _ _ _ _ _ _ _ _ _ _ _ _ _ _ _ _ _ _ _ _ _ _ _ _ _ _ _ _ _ _ _ _ _ _ _ _ _ _ _ _ _ _ _ _ _ _ _ _ _ _ _ _ _ _ _ _ _ _ _ _ _ _ _ _ _ _ _ _ _ _ _ _ _ _ _ _ _ _ _ _ _ _ _ ?_)
  case ck =>
    have := uCheck_any h _ w1 (RH.ext _ _ _ _ (HX5.out.trans hx) HV.out)
    rw [HCC.out.1] at this
    exact this
  case vl => exact uValid_any h l _ _ w1 (RH.ext _ _ _ _ (HX5.out.trans hx) HV.out) (RL.ext _ _ _ _ (HX5.out.trans hx) HL.out)
  intro u36 u37 u38 u39 u40 u41 u42 u43 u44 u45 u46 u47 u48 u49 u50 u51 u52 u53 u54 u55 u56 u57 u58 u59 w6 hx6
  have HX16 := Lib.hid (HX15.out.trans hx6)
  have HX6 := Lib.hid (HX5.out.trans hx6)
  clear d0 d1 d2 b0 b1 hx6
  have d0 := HX16.out.cell HD.out.1
  have d1 := HX16.out.cell HD.out.2.1
  have d2 := HX16.out.cell HD.out.2.2
  by_cases hc0 : C = 0 ∧ 5 < h.pr.length
  · obtain ⟨rfl, h5⟩ := hc0
    go_wp2_with fail
    clear d0 d1 d2
    refine (sanity_any _ (HT.out.ext HX6.out)).mono ?_
    rintro ee wz ⟨rfl, hxz⟩
    have HE := Lib.hid ((HX0.out.trans HX6.out).trans hxz)
    clear hxz
    go_wp2_with fail
    go_ret
    exact ⟨rfl, HE.out⟩
  have HC5 := Lib.hid hc0
  clear hc0
  obtain ⟨f, Ut, ht1, ht2, ht3⟩ := Su.tree_spec h
  obtain ⟨N, hN⟩ : ∃ N, (Su.least h).1 = N := ⟨_, rfl⟩
  obtain ⟨E, hE⟩ : ∃ E, (Su.least h).2 = E := ⟨_, rfl⟩
  rw [hE] at ht2 ht3
  have HN := Lib.hid (And.intro hN hE)
  have HTR := Lib.hid (And.intro ht1 ht2)
  have HU := Lib.hid ht3
  clear hN hE ht1 ht2 ht3
  by_cases hc0 : C = 0
  · subst hc0
    have h5 : ¬ 5 < h.pr.length := fun e => HC5.out ⟨rfl, e⟩
    go_wp2_with fail
    clear d0 d1 d2
    refine (uLeast_any h _ _ (RH.ext _ _ _ _ HX6.out HV.out)).mono ?_
    rintro ee w7 ⟨rfl, hx7⟩
    rw [HN.out.1, HN.out.2]
    have HX17 := Lib.hid (HX16.out.trans hx7)
    have HX7 := Lib.hid (HX6.out.trans hx7)
    have d0 := HX17.out.cell HD.out.1
    have d1 := HX17.out.cell HD.out.2.1
    have d2 := HX17.out.cell HD.out.2.2
    clear hx7
    go_wp2_with fail
    clear d0 d1 d2
    refine (uTree_any f h _ _ (RH.ext _ _ _ _ HX7.out HV.out) HTR.out.1).mono ?_
    rintro ee w8 ⟨TA, tn, tc, rfl, hts, hx8⟩
    rw [HTR.out.2] at hts ⊢
    have HX18 := Lib.hid (HX17.out.trans hx8)
    have HX8 := Lib.hid (HX7.out.trans hx8)
    have d0 := HX18.out.cell HD.out.1
    have d1 := HX18.out.cell HD.out.2.1
    have d2 := HX18.out.cell HD.out.2.2
    have HTN := Lib.hid hts.len
    clear hx8 hts
    simp only
    go_wp2_with fail
    clear d0 d1 d2
    refine (qLeast_any h _ _ (RH.ext _ _ _ _ HX8.out HV.out)).mono ?_
    rintro ee w9 ⟨rfl, hx9⟩
    rw [HN.out.1, HN.out.2]
    have hx10 := (HX8.out.trans hx9).alloc (.cells #[.int .i64 N, .int .i64 E] 32)
    have hby := cells_new w9 #[.int .i64 N, .int .i64 E] 32
    have HBY := Lib.hid hby
    have HX10 := Lib.hid hx10
    clear hx9 hx10 hby
    go_wp2_with fail
    refine (sanity_any _ (HT.out.ext HX10.out)).mono ?_
    rintro ee w11 ⟨rfl, hx11⟩
    have b0 := (HBY.out.ext hx11) 0 _ rfl
    have b1 := (HBY.out.ext hx11) 1 _ rfl
    have HX11 := Lib.hid ((HX0.out.trans HX10.out).trans hx11)
    clear hx11
    by_cases he : E = 0
    · subst he
      go_wp2_with fail
      go_ret
      exact ⟨rfl, HX11.out⟩
    · have hu := HU.out he
      subst hu
      have htn : tn = 0 := HTN.out
      subst htn
      have e3 : (E == 0) = false := by rw [beq_eq_false_iff_ne]; exact he
      clear he HTN
      go_wp2_with fail
      go_ret
      exact ⟨rfl, HX11.out⟩
  · have e0 : (C == 0) = false := by rw [beq_eq_false_iff_ne]; exact hc0
    clear hc0
    go_wp2_with fail
    clear d0 d1 d2
    refine (uLeast_any h _ _ (RH.ext _ _ _ _ HX6.out HV.out)).mono ?_
    rintro ee w7 ⟨rfl, hx7⟩
    rw [HN.out.1, HN.out.2]
    have HX17 := Lib.hid (HX16.out.trans hx7)
    have HX7 := Lib.hid (HX6.out.trans hx7)
    have d0 := HX17.out.cell HD.out.1
    have d1 := HX17.out.cell HD.out.2.1
    have d2 := HX17.out.cell HD.out.2.2
    clear hx7
    go_wp2_with fail
    clear d0 d1 d2
    refine (uTree_any f h _ _ (RH.ext _ _ _ _ HX7.out HV.out) HTR.out.1).mono ?_
    rintro ee w8 ⟨TA, tn, tc, rfl, hts, hx8⟩
    rw [HTR.out.2] at hts ⊢
    have HX18 := Lib.hid (HX17.out.trans hx8)
    have HX8 := Lib.hid (HX7.out.trans hx8)
    have d0 := HX18.out.cell HD.out.1
    have d1 := HX18.out.cell HD.out.2.1
    have d2 := HX18.out.cell HD.out.2.2
    have HTN := Lib.hid hts.len
    clear hx8 hts
    simp only
    go_wp2_with fail
    clear d0 d1 d2
    refine (qLeast_any h _ _ (RH.ext _ _ _ _ HX8.out HV.out)).mono ?_
    rintro ee w9 ⟨rfl, hx9⟩
    rw [HN.out.1, HN.out.2]
    have hx10 := (HX8.out.trans hx9).alloc (.cells #[.int .i64 N, .int .i64 E] 32)
    have hby := cells_new w9 #[.int .i64 N, .int .i64 E] 32
    have HBY := Lib.hid hby
    have HX10 := Lib.hid hx10
    clear hx9 hx10 hby
    go_wp2_with fail
    refine (sanity_any _ (HT.out.ext HX10.out)).mono ?_
    rintro ee w11 ⟨rfl, hx11⟩
    have b0 := (HBY.out.ext hx11) 0 _ rfl
    have b1 := (HBY.out.ext hx11) 1 _ rfl
    have HX11 := Lib.hid ((HX0.out.trans HX10.out).trans hx11)
    clear hx11
    by_cases he : E = 0
    · subst he
      go_wp2_with fail
      go_ret
      exact ⟨rfl, HX11.out⟩
    · have hu := HU.out he
      subst hu
      have htn : tn = 0 := HTN.out
      subst htn
      have e3 : (E == 0) = false := by rw [beq_eq_false_iff_ne]; exact he
      clear he HTN
      go_wp2_with fail
      go_ret
      exact ⟨rfl, HX11.out⟩
end Go.Proofs.YtenafgphaceidaaDoor

/- ARGUMENTS that are codes read as such. -/
namespace Go.Proofs.YtenafgphaceidaaDoor
open Go.ChangeShapes Go.WideShapes Go.ChangeAt Go.RowKit Go.ChangeMaps Go.Deep
variable {H : Type} {enc : TypeId × Value → H} {W : World} {base : Nat}
theorem list_getD {l : List Int} {k : Nat} (h : k < l.length) : l.getD k 0 = l[k] := by rw [List.getD_eq_getElem?_getD, List.getElem?_eq_getElem h]; rfl
theorem read_ints {fuel : Nat} {v : Value} {x : DataW H × List MemPlace} (h : DataW.trod enc Tryd.prog W base (fun _ => true) true fuel 23 [v] = some x) : ∃ l, Rs RI W v l := by
  rcases open_ints Tryd.underlying23 Tryd.underlying3 (by kernel_rfl) h with ⟨hcs, _⟩ | ⟨a, len, cap, zs, hcs, _, hl, hm, hz, _, hcell, hwz⟩
  · injection hcs with hcs _
    subst hcs
    exact ⟨[], none, 0, rfl, by simp, fun i x h => by simp at h⟩
  · injection hcs with hcs _
    subst hcs
    rw [if_pos rfl] at hz
    have hll : (zs.take len).length = len := by rw [List.length_take]; omega
    refine ⟨zs.take len, some a, cap, by rw [hll], by rw [hll]; unfold maxLen at hm; omega, fun i y hi => ?_⟩
    have hi1 : i < (zs.take len).length := (List.getElem?_eq_some_iff.1 hi).1
    have hi2 : i < zs.length := by rw [List.length_take] at hi1; omega
    have h1 := hcell i (by omega)
    rw [list_getD hi2] at h1
    have e : y = zs[i] := by
      have := (List.getElem?_eq_some_iff.1 hi).2
      rw [← this, List.getElem_take]
    subst e
    have hb := bounds_i64 (hwz _ (List.getElem_mem hi2))
    exact ⟨a, _, rfl, h1, rfl, by omega, by omega⟩
theorem read_rows {fuel : Nat} {v : Value} {x : DataW H × List MemPlace} (h : DataW.trod enc Tryd.prog W base (fun _ => true) true fuel 22 [v] = some x) : ∃ l, Rs (Rs RI) W v l := by
  rcases open_int_rows Tryd.underlying22 Tryd.underlying23 Tryd.underlying3 (by kernel_rfl) (by kernel_rfl) h with ⟨hcs, _⟩ | ⟨a, len, cap, A, L, C, Z, hcs, _, hl, hm, _, hx⟩
  · injection hcs with hcs _
    subst hcs
    exact ⟨[], none, 0, rfl, by simp, fun i x h => by simp at h⟩
  · injection hcs with hcs _
    subst hcs
    refine ⟨(List.range len).map fun r => (Z r).take (L r), some a, cap, by simp, by simp; unfold maxLen at hm; omega, fun i y hi => ?_⟩
    have hi1 : i < len := by have := (List.getElem?_eq_some_iff.1 hi).1; simpa using this
    have e : y = (Z i).take (L i) := by
      have := (List.getElem?_eq_some_iff.1 hi).2
      rw [← this]; simp
    subst e
    obtain ⟨h1, h2, h3, h4, h5, h6, h7⟩ := hx i (by omega)
    refine ⟨a, _, rfl, h1, A i, C i, ?_, ?_, fun k z hk => ?_⟩
    · rw [List.length_take]; congr 1; omega
    · rw [List.length_take]; unfold maxLen at h3; omega
    · have hk1 : k < ((Z i).take (L i)).length := (List.getElem?_eq_some_iff.1 hk).1
      have hk2 : k < (Z i).length := by rw [List.length_take] at hk1; omega
      have hk3 : k < C i := by omega
      have e : z = (Z i)[k] := by
        have := (List.getElem?_eq_some_iff.1 hk).2
        rw [← this, List.getElem_take]
      subst e
      have hb := bounds_i64 (h5 _ (List.getElem_mem hk2))
      cases hA : A i with
      | none => have := h6 hA; omega
      | some b =>
        have h8 := (h7 b hA).2 k hk3
        rw [list_getD hk2] at h8
        exact ⟨b, _, rfl, h8, rfl, by omega, by omega⟩
theorem cellsInts : Tryd.prog.cellsOf 23 = 1 := by kernel_rfl
theorem cellsRows : Tryd.prog.cellsOf 22 = 1 := by kernel_rfl
theorem cellsInt : Tryd.prog.cellsOf 3 = 1 := by kernel_rfl
theorem array3 {α : Type} {cs : Array α} (h : cs.size = 3) : ∃ c0 c1 c2, cs = #[c0, c1, c2] := by
  obtain ⟨l⟩ := cs
  match l, h with
  | [c0, c1, c2], _ => exact ⟨c0, c1, c2, rfl⟩
end Go.Proofs.YtenafgphaceidaaDoor

/- ARGUMENTS of law 19: hauls and hops. -/
namespace Go.Proofs.YtenafgphaceidaaDoor
open Go.ChangeShapes Go.WideShapes Go.ChangeAt Go.RowKit Go.ChangeMaps Go.Deep
variable {H : Type} {enc : TypeId × Value → H} {W : World} {base : Nat}
set_option maxRecDepth 100000 in
theorem open_haul {b0 : Nat} {v : Value} {d : DataW H} {ps : List MemPlace} (hval : Value.okWide Tryd.prog W .any b0 25 v) (hd : DataW.Trod enc Tryd.prog W base (fun _ => true) true 25 v d ps) :
    ∃ h : Su.Ha, RH W v h := by
  obtain ⟨cs, rfl, hsz⟩ := okWide_struct Tryd.underlying25 hval
  obtain ⟨c0, c1, c2, rfl⟩ := array3 (hsz.trans (by kernel_rfl))
  obtain ⟨fuel, hf⟩ := hd
  obtain ⟨zs, m, _, _, _, hlen2, hz⟩ := DataW.trod_struct Tryd.underlying25 hf
  obtain ⟨z0, z1, z2, rfl⟩ : ∃ z0 z1 z2, zs = [z0, z1, z2] := by
    match zs, hlen2 with
    | [z0, z1, z2], _ => exact ⟨z0, z1, z2, rfl⟩
  have g0 : DataW.trod enc Tryd.prog W base (fun _ => true) true m 22 [c0] = some z0 := by
    have := hz 0 _ rfl
    simpa [Value.cells, cellsRows] using this
  have g1 : DataW.trod enc Tryd.prog W base (fun _ => true) true m 23 [c1] = some z1 := by
    have := hz 1 _ rfl
    simpa [Value.cells, cellsInts] using this
  have g2 : DataW.trod enc Tryd.prog W base (fun _ => true) true m 3 [c2] = some z2 := by
    have := hz 2 _ rfl
    simpa [Value.cells, cellsInt] using this
  obtain ⟨gs, h1⟩ := read_rows g0
  obtain ⟨l, h2⟩ := read_ints g1
  obtain ⟨a2, ha2, _, w2⟩ := DataW.trod_int Tryd.underlying3 g2
  injection ha2 with ha2 _
  subst ha2
  have b2 := bounds_i64 w2
  exact ⟨⟨gs, l, a2⟩, c0, c1, rfl, h1, h2, by simp; omega, by simp; omega⟩
theorem spot_free {a : Addr} {v : Value} (h : W.cell? a = some v) : a.spot = none := by
  unfold World.cell? at h
  split at h
  · split at h
    · cases h
    · rename_i hs; simpa using hs
  · cases h
set_option maxRecDepth 100000 in
theorem open_hops {b0 : Nat} {v : Value} {d : DataW H} {ps : List MemPlace} (hval : Value.okWide Tryd.prog W .any b0 26 v) (hd : DataW.Trod enc Tryd.prog W base (fun _ => true) true 26 v d ps) :
    ∃ l : List (Int × Int), RL W v l := by
  obtain ⟨a0, len, cap, rfl⟩ := okWide_slice Tryd.underlying26 hval
  obtain ⟨fuel, hf⟩ := hd
  have ce : Tryd.prog.cellsOf 65 = 2 := by kernel_rfl
  rcases open_slice Tryd.underlying26 hf with ⟨hcs, _⟩ | ⟨a, len', cap', m, n, D, Pl, hcs, _, hl, hm, hmm, _, hx⟩
  · simp [Value.cells] at hcs
    obtain ⟨rfl, rfl, rfl⟩ := hcs
    exact ⟨[], none, 0, rfl, by simp, fun i x hi => by simp at hi⟩
  · simp [Value.cells] at hcs
    obtain ⟨rfl, rfl, rfl⟩ := hcs
    rw [if_pos rfl] at hmm
    have each : ∀ i, i < len → ∃ x : Int × Int, W.cell? (a.add (i * 2)) = some (.int .i64 x.1) ∧ W.cell? ((a.add (i * 2)).add 1) = some (.int .i64 x.2) ∧ r64 x.1 ∧ r64 x.2 := by
      intro i hi
      obtain ⟨cs', h1, h2⟩ := hx i (by omega)
      rw [ce] at h1
      obtain ⟨_, hlen, hcell⟩ := World.cells?_some h1
      obtain ⟨xs, k, _, _, _, hxl, hg⟩ := DataW.trod_struct Tryd.underlying65 h2
      obtain ⟨c0, c1, rfl⟩ : ∃ c0 c1, cs' = [c0, c1] := by
        match cs', hlen with
        | [c0, c1], _ => exact ⟨c0, c1, rfl⟩
      obtain ⟨y0, y1, rfl⟩ : ∃ y0 y1, xs = [y0, y1] := by
        match xs, hxl with
        | [y0, y1], _ => exact ⟨y0, y1, rfl⟩
      have f0 : DataW.trod enc Tryd.prog W base (fun _ => true) true k 3 [c0] = some y0 := by
        have := hg 0 _ rfl
        simpa [cellsInt] using this
      have f1 : DataW.trod enc Tryd.prog W base (fun _ => true) true k 3 [c1] = some y1 := by
        have := hg 1 _ rfl
        simpa [cellsInt] using this
      obtain ⟨z0, e0, _, w0⟩ := DataW.trod_int Tryd.underlying3 f0
      obtain ⟨z1, e1, _, w1⟩ := DataW.trod_int Tryd.underlying3 f1
      injection e0 with e0 _
      injection e1 with e1 _
      subst e0 e1
      have b0 := bounds_i64 w0
      have b1 := bounds_i64 w1
      exact ⟨(z0, z1), hcell 0 (by decide), hcell 1 (by decide), ⟨by simp; omega, by simp; omega⟩, ⟨by simp; omega, by simp; omega⟩⟩
    refine ⟨(List.range len).map fun k => if h : k < len then (each k h).choose else (0, 0), some a, cap, by simp, by simp; unfold maxLen at hm; omega, fun i x hi => ?_⟩
    have hil : i < len := by
      have := (List.getElem?_eq_some_iff.1 hi).1
      simpa using this
    have hxe : x = (each i hil).choose := by
      have := (List.getElem?_eq_some_iff.1 hi).2
      rw [← this]
      simp [hil]
    obtain ⟨h1, h2, h3, h4⟩ := (each i hil).choose_spec
    rw [← hxe] at h1 h2 h3 h4
    refine ⟨a, rfl, h1, ?_, h3.1, h3.2, h4.1, h4.2⟩
    have hs := spot_free h1
    have e : (a.add (i * 2)).add 1 = ⟨(a.add (i * 2)).block, (a.add (i * 2)).off + 1, none⟩ := by
      generalize a.add (i * 2) = p at hs
      obtain ⟨b, o, s⟩ := p
      simp only at hs
      subst hs
      unfold Addr.add
      rfl
    rw [← e]
    exact h2
end Go.Proofs.YtenafgphaceidaaDoor
